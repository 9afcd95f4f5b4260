/- A region in a fence whose head is quiet in a class of worlds, and whose last operations, whatever their order, all wait for the first of them. -/
import Derived.Test.YtlhadociaekkhaaQPastF
import Derived.Test.YtlhadociaekkhaaQMat8
set_option linter.unusedSimpArgs false
set_option linter.unusedVariables false
namespace Go.Proofs.Ytlhadociaekkhaa
set_option linter.unusedVariables false
open Go.RowKit
/-- Every operation behind number n waits for one from n on. -/
def starB (md : Region.Mode) (ops : Array Oper) (n : Nat) : Bool :=
  (List.range ops.size).all fun t => decide (t ≤ n) || (List.range t).any fun s => decide (n ≤ s) && Region.waitsFor md ops t s
section
variable {F : Fence} {d : Nat} {P : Program} {ops : Array Oper} {md : Region.Mode} {C : World → Prop}
theorem tail_waits2 {n : Nat} {listed : Array Bool} (hs : Region.sinkB md ops n = true) (hc : starB md ops n = true) (hn : n < ops.size) (inv : HeadInv md ops n listed) :
    ∀ (d i : Nat), n - i = d → i < n → listed.getD i true = false → ∀ t, n ≤ t → t ∉ Region.ready md ops listed := by
  intro d
  induction d using Nat.strongRecOn with
  | _ d ih =>
    intro i hd hi hun t ht hr
    obtain ⟨_, ot, hot, hall⟩ := mem_ready.1 hr
    have htlt : t < ops.size := (Array.getElem?_eq_some_iff.1 hot).1
    by_cases htn : t = n
    · subst htn
      have h1 := List.all_eq_true.1 hs i (List.mem_range.2 hi)
      obtain ⟨j, hj, hj2⟩ := List.any_eq_true.1 h1
      simp only [Bool.and_eq_true, decide_eq_true_eq] at hj2
      obtain ⟨oj, hoj, e, he, hb, hon⟩ := Region.waitsFor_spec hj2.2
      have hjle : j ≤ t := by have := List.mem_range.1 hj; omega
      by_cases hjt : j = t
      · subst hjt
        have : oj = ot := Option.some.inj (hoj.symm.trans hot)
        subst this
        have h2 := hall e he hb
        rw [hon, getD_both hun] at h2
        cases h2
      · cases hl : listed.getD j false with
        | true =>
          have h2 := inv.closed j oj hoj hl e he hb
          rw [hon, getD_both hun] at h2
          cases h2
        | false =>
          have hjs : j < listed.size := by rw [inv.size]; omega
          exact ih (t - j) (by omega) j rfl (by omega) (getD_in hjs hl) t (Nat.le_refl _) hr
    · have h1 := List.all_eq_true.1 hc t (List.mem_range.2 htlt)
      simp only [Bool.or_eq_true, decide_eq_true_eq] at h1
      rcases h1 with h1 | h1
      · omega
      · obtain ⟨s, hs1, hs2⟩ := List.any_eq_true.1 h1
        simp only [Bool.and_eq_true, decide_eq_true_eq] at hs2
        obtain ⟨o', ho', e, he, hb, hon⟩ := Region.waitsFor_spec hs2.2
        have : o' = ot := Option.some.inj (ho'.symm.trans hot)
        subst this
        have h2 := hall e he hb
        have hst := List.mem_range.1 hs1
        rw [hon, getD_both (inv.tail s hs2.1 (by omega))] at h2
        cases h2
theorem HeadF.take2 {n i : Nat} {oi : Oper} {v : Value} {L : Array Bool → Act → Prop} (hi : ops[i]? = some oi)
    (hsel : ∀ (j : Nat) (o : Oper) cs b, ops[j]? = some o → o.op ≠ .select cs b) (hs : Region.sinkB md ops n = true) (hc : starB md ops n = true) (hn : n < ops.size) (hin : i < n)
    (hL : ∀ s a, L s a → ∀ j ∈ Region.ready md ops s, n ≤ j) (f : Nat) :
    ∀ (s : Array Bool) (a : Act), HeadInv md ops n s →
      (∀ j oj, ops[j]? = some oj → j ≠ i → s.getD j true = false → (∀ e ∈ oj.after, Region.binds md e = true → e.on ≠ i) → oi.apart ops oj = true) →
      i ∈ Region.ready md ops s → YieldsQuiet F d P ops C oi v a → HeadF F d P md ops C n L f (s.setIfInBounds i true) (a.put oi.dst v) → HeadF F d P md ops C n L (f + 1) s a := by
  induction f with
  | zero =>
    intro s a inv _ hr hy H
    have hu := (mem_ready.1 hr).1
    refine ⟨List.ne_nil_of_mem hr, fun j hj => ?_⟩
    have hj2 : j < n := Nat.lt_of_not_le fun h => tail_waits2 hs hc hn inv _ i rfl hin hu j h hj
    refine ⟨hj2, ?_⟩
    by_cases e : j = i
    · subst e; exact hy.qOpIn hi H
    · exact absurd (hL _ _ H j (ready_mono hj e)) (by omega)
  | succ f ih =>
    intro s a inv ap hr hy H
    have hu := (mem_ready.1 hr).1
    refine ⟨List.ne_nil_of_mem hr, fun j hj => ?_⟩
    have hj2 : j < n := Nat.lt_of_not_le fun h => tail_waits2 hs hc hn inv _ i rfl hin hu j h hj
    refine ⟨hj2, ?_⟩
    by_cases e : j = i
    · subst e; exact hy.qOpIn hi H
    · obtain ⟨hju, oj, hoj, hall⟩ := mem_ready.1 hj
      have far : ∀ x ∈ oj.after, Region.binds md x = true → x.on ≠ i := fun x hx hb he => by
        have := hall x hx hb
        rw [he, getD_both hu] at this
        cases this
      have step := qOpIn_put hoj (ap j oj hoj e hju far) (fun cs b => hsel i oi cs b hi) (fun cs b => hsel j oj cs b hoj) hy (H.2 j (ready_mono hj e)).2
      refine qOpIn_mono (fun a' h => ih (s.setIfInBounds j true) a' (inv.set hj hj2) (fun k ok hk hki hun hno => ap k ok hk hki ?_ hno) (ready_mono hr (Ne.symm e)) h.1 ?_) step
      · by_cases hjk : j = k
        · subst hjk; exact hju
        · rw [getD_set_ne true hjk] at hun; exact hun
      · rw [Array.setIfInBounds_comm _ _ e]; exact h.2
/-- The first f from k on, one behind the other; then nothing but what lies from n on may come up. -/
def lexHead2 (md : Region.Mode) (ops : Array Oper) (n : Nat) : Nat → Nat → Array Bool → Bool
  | 0, _, listed => (Region.ready md ops listed).all fun j => decide (n ≤ j)
  | f + 1, k, listed => (Region.ready md ops listed).contains k && Region.free md ops listed k && lexHead2 md ops n f (k + 1) (listed.setIfInBounds k true)
def setN : Nat → Nat → Array Bool → Array Bool
  | 0, _, s => s
  | f + 1, k, s => setN f (k + 1) (s.setIfInBounds k true)
def starTailB (md : Region.Mode) (ops : Array Oper) (n : Nat) : Bool :=
  Region.noSelect ops && decide (n < ops.size) && Region.sinkB md ops n && starB md ops n && lexHead2 md ops n n 0 (Array.replicate ops.size false)
theorem HeadF.lex2 {n : Nat} {Lq : Act → Prop} (hsel : Region.noSelect ops = true) (hs : Region.sinkB md ops n = true) (hc : starB md ops n = true) (hn : n < ops.size) (l : List Oper) :
    ∀ (k : Nat) (s : Array Bool) (a : Act), (∀ j, j < l.length → l[j]? = ops[k + j]?) → k + l.length = n → HeadInv md ops n s → lexHead2 md ops n l.length k s = true → wpQuietIn F d P ops C Lq l a →
      HeadF F d P md ops C n (fun s' a' => (∀ j ∈ Region.ready md ops s', n ≤ j) ∧ s' = setN l.length k s ∧ Lq a') l.length s a := by
  induction l with
  | nil =>
    intro k s a _ hk _ hB h
    refine ⟨fun j hj => ?_, rfl, h⟩
    have := List.all_eq_true.1 hB j hj
    simpa using this
  | cons o l ih =>
    intro k s a hl hk inv hB h
    have ho : ops[k]? = some o := by simpa using (hl 0 (by simp)).symm
    simp only [List.length_cons, lexHead2, Bool.and_eq_true] at hB
    have hkn : k < n := by simp only [List.length_cons] at hk; omega
    have hr : k ∈ Region.ready md ops s := by simpa using hB.1.1
    have hq : qOpIn F d P ops C k (wpQuietIn F d P ops C Lq l) a := by unfold qOpIn; simp only [ho]; exact h
    obtain ⟨v, hy, hK⟩ := yieldsQuiet_of_qOpIn ho hq
    refine HeadF.take2 ho (Region.noSelect_spec hsel) hs hc hn hkn (fun s' a' h' => h'.1) l.length s a inv (Region.free_spec ho hB.1.2) hr hy ?_
    refine ih (k + 1) _ _ (fun j hj => ?_) (by simp only [List.length_cons] at hk; omega) (inv.set hr hkn) hB.2 hK
    have := hl (j + 1) (by simp; omega)
    simpa [Nat.add_assoc, Nat.add_comm 1 j] using this
/-- The region: its head by one walk of the text's order, each operation quiet in the class; what lies behind it, in whatever order, in every world of the class. -/
theorem region_headG (hro : F.round = none) {id : Nat} {Q : Exit → Act → World → Prop} {a : Act} {w : World} {l : List Oper} (n g : Nat) (hm : P.follows .mixedOrders = true) (hB : starTailB .any l.toArray n = true) (hg : l.length = n + g) (sN : Array Bool) (hsN : setN n 0 (Array.replicate l.length false) = sN) (hC : C w.drew)
    (h : wpQuietIn F d P l.toArray C (fun a' => ∀ w', C w' → wpAnyIn F d P .any l.toArray Q g sN a' w') (l.take n) a) : (Code.region id l.toArray true).wpIn F d P Q a w := by
  simp only [starTailB, Bool.and_eq_true, decide_eq_true_eq] at hB
  obtain ⟨⟨⟨⟨hsel, hn⟩, hs⟩, hc⟩, hlex⟩ := hB
  have hn' : n < l.length := by simpa using hn
  have e1 : (l.take n).length = n := by simp; omega
  have inv : HeadInv .any l.toArray n (Array.replicate l.toArray.size false) :=
    ⟨by simp, fun j oj _ hl => (by rw [getD_replicate_false] at hl; cases hl), fun t _ ht => getD_in (by simpa using ht) (getD_replicate_false _ _)⟩
  have H := HeadF.lex2 (F := F) (d := d) (P := P) (C := C) (md := .any) hsel hs hc hn (l.take n) 0 _ a
    (fun j hj => by have : j < n := by omega
                    simp [this]) (by simpa using e1) inv (by rw [e1]; exact hlex) h
  refine wpIn_region_any hm ?_
  have K := H.any hro (Q := Q) (g := g) (fun s a' w' hw' hL => by
    have e : s = sN := by rw [hL.2.1, e1, ← hsN]; simp
    rw [e]
    exact hL.2.2 w' hw') _ _ _ w.drew hC
  rw [e1] at K
  have e3 : l.toArray.size = n + g := by simpa using hg
  rw [e3] at K ⊢
  exact K
end
end Go.Proofs.Ytlhadociaekkhaa
/- Package mat: Mul and Apply. -/
namespace Go.Proofs.Ytlhadociaekkhaa
set_option linter.unusedVariables false
set_option maxRecDepth 100000
open Go.RowKit Go.Shelf
/-- A slice that reads as zs, whose block is not B. -/
def MS (w : World) (B : Nat) (v : Value) (zs : List Int) : Prop := ∃ A c, v = .slice A zs.length c ∧ RS .i64 w A zs.length c zs ∧ ∀ b o, A = some ⟨b, o, none⟩ → b ≠ B
theorem MS.keep {w V : World} {B : Nat} {v : Value} {zs : List Int} (h : MS w B v zs) (k : Below w.heap.size w V) : MS V B v zs := by
  obtain ⟨A, c, e, hr, hb⟩ := h
  exact ⟨A, c, e, hr.keep k, hb⟩
theorem MS.put {w : World} {B : Nat} {v : Value} {zs : List Int} (h : MS w B v zs) (j : Bool) (d : Int) : MS (put B j d w) B v zs := by
  obtain ⟨A, c, e, hr, hb⟩ := h
  exact ⟨A, c, e, hr.putN hb j d, hb⟩
theorem MS.sl {w : World} {B : Nat} {v : Value} {zs : List Int} (h : MS w B v zs) (hl : zs.length ≤ 4611686018427387904) : SL w B v zs := by
  obtain ⟨A, c, rfl, hr, hb⟩ := h
  exact hr.sl hb hl
theorem OwnK.ms {V w : World} {A : Option Addr} {n c : Nat} {zs : List Int} (h : OwnI V w (.slice A n c) zs) {B : Nat} (hB : B < V.heap.size) : MS w B (.slice A n c) zs := by
  have hr := h.rs
  obtain rfl := hr.len
  exact ⟨A, c, rfl, hr, fun b o e => by have := (h.far (b := 0) (o := 0) (s := none)) b o e; omega⟩
/-- One row of one by one row of another. -/
def gM (a t : List Int) (K C : Nat) (j : Bool) (x : Nat) : Int × Bool := runD (0, j) (rowL a K (x / C)) (rowL t K (x % C)) K
theorem row_sl {w : World} {B : Nat} {p o c : Nat} {zs : List Int} (hr : RS .i64 w (some ⟨p, o, none⟩) zs.length c zs) (hb : p ≠ B) {K i : Nat} (hle : i * K + K ≤ zs.length) (hl : zs.length ≤ 4611686018427387904) :
    SL w B (.slice (some ⟨p, o + i * K, none⟩) (i * K + K - i * K) (c - i * K)) (rowL zs K i) := by
  have := hr.cut (i * K) (i * K + K) (by omega) hle
  have h2 := this.sl (B := B) (fun b o e => by cases e; exact hb) (by omega)
  unfold rowL
  rw [Nat.add_sub_cancel_left] at h2 ⊢
  exact h2
theorem AllI.row {zs : List Int} (h : AllI zs) (K i : Nat) : AllI (rowL zs K i) := fun n hn => h n (List.mem_of_mem_drop (List.mem_of_mem_take hn))
theorem wrap_mul (i K : Nat) (h : i * K ≤ 1000) : wrap64 ((i : Int) * (K : Int)) = ((i * K : Nat) : Int) := by
  have e : (i : Int) * (K : Int) = ((i * K : Nat) : Int) := by simp
  rw [e]
  generalize i * K = r at *
  exact IntWalk.wrap64_in _ ⟨by omega, by omega⟩
theorem wrap_mul1 (i K : Nat) (h : i * K + K ≤ 1000) : wrap64 (((i : Int) + 1) * (K : Int)) = ((i * K + K : Nat) : Int) := by
  have e : ((i : Int) + 1) * (K : Int) = ((i * K + K : Nat) : Int) := by rw [Int.add_mul, Int.one_mul]; simp
  rw [e]
  generalize i * K + K = r at *
  exact IntWalk.wrap64_in _ ⟨by omega, by omega⟩
set_option maxHeartbeats 4000000 in
theorem mMul1 {Bu Ba Bt B K : Nat} {j : Bool} {d : Int} {v1 v2 : Value} {a t : List Int} {w : World} (h : UA B j d w) (hd : 0 ≤ d ∧ d ≤ 4611686018427387000)
    (hu : w.cell? ⟨Bu, 0, none⟩ = some (UP B)) (ha1 : w.cell? ⟨Ba, 1, none⟩ = some (.int .i64 K)) (ha2 : w.cell? ⟨Ba, 2, none⟩ = some v1) (hb1 : w.cell? ⟨Bt, 1, none⟩ = some (.int .i64 K)) (hb2 : w.cell? ⟨Bt, 2, none⟩ = some v2)
    (h1 : MS w B v1 a) (h2 : MS w B v2 t) (i k : Nat) (hK : 1 ≤ K ∧ K ≤ 12) (hi : i < 12) (hk : k < 12) (hle1 : i * K + K ≤ a.length) (hle2 : k * K + K ≤ t.length) (hla : a.length ≤ 144) (hlt : t.length ≤ 144) (hia : AllI a) (hit : AllI t) :
    Calls Try.prog 46 #[.int .i64 i, .int .i64 k, .pointer (some ⟨Bu, 0, none⟩), .pointer (some ⟨Ba, 0, none⟩), .pointer (some ⟨Bt, 0, none⟩)] w fun e w' =>
      e = .returned (.int .i64 (runD (0, j) (rowL a K i) (rowL t K k) K).1) ∧ ∃ m, Below (put B (runD (0, j) (rowL a K i) (rowL t K k) K).2 (d + 2 * K) (w.drewN m)).heap.size (put B (runD (0, j) (rowL a K i) (rowL t K k) K).2 (d + 2 * K) (w.drewN m)) w' := by
  obtain ⟨A1, c1, rfl, hr1, hn1⟩ := h1
  obtain ⟨A2, c2, rfl, hr2, hn2⟩ := h2
  obtain ⟨p1, o1, rfl, _, _⟩ := hr1.at_ (by omega)
  obtain ⟨p2, o2, rfl, _, _⟩ := hr2.at_ (by omega)
  have l1 : (rowL a K i).length = K := by unfold rowL; simp; omega
  have l2 : (rowL t K k).length = K := by unfold rowL; simp; omega
  have D : ∀ m, CallsIn Fence.wide 5 Try.prog 47 #[UP B, .slice (some ⟨p1, o1 + i * K, none⟩) (i * K + K - i * K) (c1 - i * K), .slice (some ⟨p2, o2 + k * K, none⟩) (k * K + K - k * K) (c2 - k * K)] (w.drewN m) fun e w' => e = .returned (.tuple #[.int .i64 (runD (0, j) (rowL a K i) (rowL t K k) K).1, .int .i64 0]) ∧
      Below (put B (runD (0, j) (rowL a K i) (rowL t K k) K).2 (d + 2 * K) (w.drewN m)).heap.size (put B (runD (0, j) (rowL a K i) (rowL t K k) K).2 (d + 2 * K) (w.drewN m)) w' := fun m => by
    have kp := below_drewN w m
    have := uDot (h.keep kp) _ _ _ _ (hia.row K i) (hit.row K k) (row_sl (hr1.keep kp) (hn1 _ _ rfl) hle1 (by omega)) (row_sl (hr2.keep kp) (hn2 _ _ rfl) hle2 (by omega)) (by rw [l1, l2]) (by rw [l1]; omega)
    rw [l1] at this
    exact callsIn_wide.2 this
  have b1 : i * K + K ≤ 144 := Nat.le_trans hle1 hla
  have b2 : k * K + K ≤ 144 := Nat.le_trans hle2 hlt
  have w1 := wrap_mul i K (Nat.le_trans (Nat.le_add_right _ K) (Nat.le_trans b1 (by decide)))
  have w2 := wrap_mul k K (Nat.le_trans (Nat.le_add_right _ K) (Nat.le_trans b2 (by decide)))
  have w3 := wrap_mul1 i K (Nat.le_trans b1 (by decide))
  have w4 := wrap_mul1 k K (Nat.le_trans b2 (by decide))
  have q1 := hr1.cap
  have q2 := hr2.cap
  clear l1 l2 hr1 hr2 hn1 hn2 h hia hit
  generalize runD (0, j) (rowL a K i) (rowL t K k) K = y at *
  obtain ⟨y1, y2⟩ := y
  generalize i * K = r1 at *
  generalize k * K = r2 at *
  have w1v : Value.int .i64 (wrap64 ((i : Int) * (K : Int))) = Value.int .i64 (r1 : Int) := by rw [w1]
  have w2v : Value.int .i64 (wrap64 ((k : Int) * (K : Int))) = Value.int .i64 (r2 : Int) := by rw [w2]
  have w3v : Value.int .i64 (wrap64 (((i : Int) + 1) * (K : Int))) = Value.int .i64 ((r1 + K : Nat) : Int) := by rw [w3]
  have w4v : Value.int .i64 (wrap64 (((k : Int) + 1) * (K : Int))) = Value.int .i64 ((r2 + K : Nat) : Int) := by rw [w4]
  clear w1 w2 w3 w4
  simp only [Nat.add_sub_cancel_left] at D
  refine (callsIn_wide (n := 6)).1 ?_
  refine callsIn_of_wp Try.func46 rfl trivial ?_ rfl
  simp only [Try.ntmps46, List.size_toArray, List.length_cons, List.length_nil, Nat.reduceAdd, Nat.reduceSub, Array.replicate_succ, Array.replicate_zero, List.push_toArray, List.append_toArray, List.nil_append, List.cons_append]
  gi_wp2
  refine region_headG (C := fun w' => ∃ m, w' = w.drewN m) rfl 25 6 (by kernel_rfl) (by kernel_rfl) rfl #[true, true, true, true, true, true, true, true, true, true, true, true, true, true, true, true, true, true, true, true, true, true, true, true, true, false, false, false, false, false, false] (by rfl) ⟨1, rfl⟩ ?_
  simp only [List.take_succ_cons, List.take_zero, List.drop_succ_cons, List.drop_zero]
  repeat (gi_big_quiet_step (fail))
  refine wpQuietIn_nil ?_; rintro _ ⟨m, rfl⟩
  refine wpAnyIn_ready (rs := [25]) (by kernel_rfl) (by simp) ?_
  refine AllReadyIn.cons rfl (fun K hK => ?_) AllReadyIn.nil
  go_simp
  clear w1v w2v w3v w4v
  gi_wp2_with (refine ⟨trivial, ?_⟩; refine (D m).mono ?_; rintro e w' ⟨rfl, hP⟩)
  refine wpAnyIn_take (i := 26) (v := ?_) rfl rfl (by kernel_rfl) (by kernel_rfl) (by kernel_rfl) (fun _ _ _ h => h) ⟨Or.inl ⟨by rfl, ?_⟩, fun _ => rfl⟩ ?_; rotate_left 1
  · intro w; go_simp <;> with_reducible rfl
  refine wpAnyIn_take (i := 27) (v := ?_) rfl rfl (by kernel_rfl) (by kernel_rfl) (by kernel_rfl) (fun _ _ _ h => h) ⟨Or.inl ⟨by rfl, ?_⟩, fun _ => rfl⟩ ?_; rotate_left 1
  · intro w; go_simp <;> with_reducible rfl
  refine wpAnyIn_take (i := 28) (v := ?_) rfl rfl (by kernel_rfl) (by kernel_rfl) (by kernel_rfl) (fun _ _ _ h => h) ⟨Or.inl ⟨by rfl, ?_⟩, fun _ => rfl⟩ ?_; rotate_left 1
  · intro w; go_simp <;> with_reducible rfl
  refine wpAnyIn_take (i := 29) (v := ?_) rfl rfl (by kernel_rfl) (by kernel_rfl) (by kernel_rfl) (fun _ _ _ h => h) ⟨Or.inl ⟨by rfl, ?_⟩, fun _ => rfl⟩ ?_; rotate_left 1
  · intro w; go_simp <;> with_reducible rfl
  refine wpAnyIn_take (i := 30) (v := ?_) rfl rfl (by kernel_rfl) (by kernel_rfl) (by kernel_rfl) (fun _ _ _ h => h) ⟨Or.inl ⟨by rfl, ?_⟩, fun _ => rfl⟩ ?_; rotate_left 1
  · intro w; go_simp <;> with_reducible rfl
  refine wpAnyIn_done (by kernel_rfl) ?_ _
  simp only [Act.put, List.setIfInBounds_toArray, List.set_cons_zero, List.set_cons_succ]
  gi_wp2
  go_ret
  exact ⟨rfl, m, hP⟩
end Go.Proofs.Ytlhadociaekkhaa
/- Package mat: Mul. -/
namespace Go.Proofs.Ytlhadociaekkhaa
set_option linter.unusedVariables false
set_option maxRecDepth 100000
open Go.RowKit Go.Shelf
/-- Numbers one behind the other, each by its place; the flag goes on. -/
def mapN (g : Bool → Nat → Int × Bool) (i : Bool) : Nat → List Int × Bool
  | 0 => ([], i)
  | n + 1 => ((mapN g i n).1 ++ [(g (mapN g i n).2 n).1], (g (mapN g i n).2 n).2)
theorem mapN_len (g : Bool → Nat → Int × Bool) (i : Bool) (n : Nat) : (mapN g i n).1.length = n := by
  induction n with
  | zero => rfl
  | succ n ih => show ((mapN g i n).1 ++ [_]).length = n + 1; rw [List.length_append, ih]; rfl
theorem mapN_congr {g f : Bool → Nat → Int × Bool} (i : Bool) (n : Nat) (h : ∀ j x, x < n → g j x = f j x) : mapN g i n = mapN f i n := by
  induction n with
  | zero => rfl
  | succ n ih =>
    have e := ih (fun j x hx => h j x (by omega))
    show ((mapN g i n).1 ++ [(g (mapN g i n).2 n).1], (g (mapN g i n).2 n).2) = ((mapN f i n).1 ++ [(f (mapN f i n).2 n).1], (f (mapN f i n).2 n).2)
    rw [e, h _ _ (Nat.lt_succ_self n)]
theorem madeF_mapN (g : Bool → Nat → Int × Bool) (dk : Int) (i : Bool) (c : Int) (n : Nat) :
    madeF (σ := Bool × Int) (fun s x => (g s.1 x).1) (fun s x => ((g s.1 x).2, s.2 + dk)) (i, c) (List.range n) = ((mapN g i n).1, ((mapN g i n).2, c + dk * n)) := by
  induction n with
  | zero => simp [madeF, mapN]
  | succ n ih =>
    rw [List.range_succ, madeF_snoc, ih]
    have e : mapN g i (n + 1) = ((mapN g i n).1 ++ [(g (mapN g i n).2 n).1], (g (mapN g i n).2 n).2) := rfl
    rw [e]
    refine Prod.ext rfl (Prod.ext rfl ?_)
    show c + dk * (n : Int) + dk = c + dk * ((n + 1 : Nat) : Int)
    rw [Int.natCast_succ, Int.mul_add, Int.mul_one]
    omega
theorem mMadeMul {Bu Ba Bt B R C K : Nat} {i : Bool} {c : Int} {v1 v2 : Value} {a t : List Int} {w : World} (h : UA B i c w) (hc : 0 ≤ c ∧ c ≤ 4611686018427380000) (hBu : Bu ≠ B) (hBa : Ba ≠ B) (hBt : Bt ≠ B)
    (hu : w.cell? ⟨Bu, 0, none⟩ = some (UP B)) (ha1 : w.cell? ⟨Ba, 1, none⟩ = some (.int .i64 K)) (ha2 : w.cell? ⟨Ba, 2, none⟩ = some v1) (hb1 : w.cell? ⟨Bt, 1, none⟩ = some (.int .i64 K)) (hb2 : w.cell? ⟨Bt, 2, none⟩ = some v2)
    (h1 : MS w B v1 a) (h2 : MS w B v2 t) (hR : 1 ≤ R ∧ R ≤ 12) (hC : 1 ≤ C ∧ C ≤ 12) (hK : 1 ≤ K ∧ K ≤ 12) (hza : a.length = R * K) (hzt : t.length = C * K) (hia : AllI a) (hit : AllI t) :
    Calls Try.prog 45 #[.int .i64 R, .int .i64 C, .func (.func 46) #[] #[.pointer (some ⟨Bu, 0, none⟩), .pointer (some ⟨Ba, 0, none⟩), .pointer (some ⟨Bt, 0, none⟩)]] w fun e w' =>
      ∃ A cap, e = .returned (.agg #[.int .i64 R, .int .i64 C, .slice A (R * C) cap]) ∧ OwnI w w' (.slice A (R * C) cap) (mapN (gM a t K C) i (R * C)).1 ∧ Below w.heap.size (put B (mapN (gM a t K C) i (R * C)).2 (c + 2 * (K : Int) * (R * C : Nat)) w) w' := by
  have hN : R * C ≤ 144 := Nat.mul_le_mul hR.2 hC.2
  have hNa : R * K ≤ 144 := Nat.mul_le_mul hR.2 hK.2
  have hNt : C * K ≤ 144 := Nat.mul_le_mul hC.2 hK.2
  have := madeG 46 #[.pointer (some ⟨Bu, 0, none⟩), .pointer (some ⟨Ba, 0, none⟩), .pointer (some ⟨Bt, 0, none⟩)] (enters_of Try.func46 (by kernel_rfl) rfl) (σ := Bool × Int) (i, c) (fun s => put B s.1 s.2 w)
    (fun s x => (gM a t K C s.1 x).1) (fun s x => ((gM a t K C s.1 x).2, s.2 + 2 * (K : Int)))
    R C (R * C) hR hC rfl w (fun s => put_size _ _ _ _) (ko_put B w) (put_self h) (fun k s => s.2 = c + 2 * (K : Int) * k) (by simp) (fun k s x hk => by show s.2 + 2 * (K : Int) = _; rw [hk, Int.natCast_succ, Int.mul_add, Int.mul_one]; omega) (fun k s x W hk hok hW => by
      have k1 : x.1 / C < R := Nat.div_lt_of_lt_mul (by have h := Nat.mul_comm C R; have := x.2; omega)
      have k2 : x.1 % C < C := Nat.mod_lt _ (by omega)
      have k3 : x.1 / C * K + K ≤ R * K := by rw [← Nat.succ_mul]; exact Nat.mul_le_mul_right _ k1
      have k4 : x.1 % C * K + K ≤ C * K := by rw [← Nat.succ_mul]; exact Nat.mul_le_mul_right _ k2
      have hW2 : Below (put B s.1 s.2 w).heap.size (put B s.1 s.2 w) W := by rw [put_size]; exact hW
      have hUW := (h.put s.1 s.2).keep hW2
      have hcell : ∀ b o v, b ≠ B → w.cell? ⟨b, o, none⟩ = some v → W.cell? ⟨b, o, none⟩ = some v := fun b o v hb hv => cell_keep ((put_cell B _ _ w ⟨b, o, none⟩ hb).trans hv) hW2
      have hdk : 0 ≤ 2 * (K : Int) * (k : Int) ∧ 2 * (K : Int) * (k : Int) ≤ 24 * 144 := by
        refine ⟨Int.mul_nonneg (by omega) (by omega), Int.mul_le_mul (by omega) (by omega) (by omega) (by omega)⟩
      have hs : 0 ≤ s.2 ∧ s.2 ≤ 4611686018427387000 := by
        rw [hok]
        generalize 2 * (K : Int) * (k : Int) = q at hdk ⊢
        omega
      refine (mMul1 hUW hs (hcell _ _ _ hBu hu) (hcell _ _ _ hBa ha1) (hcell _ _ _ hBa ha2) (hcell _ _ _ hBt hb1) (hcell _ _ _ hBt hb2) ((h1.put s.1 s.2).keep hW2) ((h2.put s.1 s.2).keep hW2) (x.1 / C) (x.1 % C) hK (Nat.lt_of_lt_of_le k1 hR.2) (Nat.lt_of_lt_of_le k2 hC.2)
        (Nat.le_trans k3 (Nat.le_of_eq hza.symm)) (Nat.le_trans k4 (Nat.le_of_eq hzt.symm)) (by rw [hza]; exact hNa) (by rw [hzt]; exact hNt) hia hit).mono ?_
      rintro e w' ⟨rfl, m, hb⟩
      exact ⟨rfl, hat_put h.lt hW (below_drewN W m) hb⟩)
  rw [madeF_mapN] at this
  exact this
theorem getD_in {zs : List Int} (h : AllI zs) (j : Nat) : InI (zs.getD j 0) := by
  by_cases hj : j < zs.length
  · exact h.at hj
  · have e : zs.getD j 0 = 0 := by simp [List.getD, Nat.le_of_not_lt hj]
    rw [e]
    exact ⟨by omega, by omega⟩
theorem turnL_in (R C : Nat) {zs : List Int} (h : AllI zs) : AllI (turnL R C zs) := fun n hn => by
  obtain ⟨x, _, rfl⟩ := List.mem_map.1 hn
  exact getD_in h _
theorem turnL_len (R C : Nat) (zs : List Int) : (turnL R C zs).length = C * R := by simp [turnL]
set_option maxHeartbeats 4000000 in
theorem mMul {B R C K : Nat} {i : Bool} {c : Int} {v1 v2 : Value} {a b : List Int} {w : World} (h : UA B i c w) (hc : 0 ≤ c ∧ c ≤ 4611686018427380000)
    (h1 : MS w B v1 a) (h2 : MS w B v2 b) (hR : 1 ≤ R ∧ R ≤ 12) (hC : 1 ≤ C ∧ C ≤ 12) (hK : 1 ≤ K ∧ K ≤ 12) (hza : a.length = R * K) (hzb : b.length = K * C) (hia : AllI a) (hib : AllI b) :
    Calls Try.prog 16 #[UP B, .agg #[.int .i64 R, .int .i64 K, v1], .agg #[.int .i64 K, .int .i64 C, v2]] w fun e w' =>
      ∃ A cap, e = .returned (.tuple #[.agg #[.int .i64 R, .int .i64 C, .slice A (R * C) cap], .int .i64 0]) ∧ OwnI w w' (.slice A (R * C) cap) (mapN (gM a (turnL K C b) K C) i (R * C)).1 ∧ Below w.heap.size (put B (mapN (gM a (turnL K C b) K C) i (R * C)).2 (c + 2 * (K : Int) * (R * C : Nat)) w) w' := by
  have hck1 : chk R K (R * K) = 0 := by unfold chk; rw [if_pos ⟨by omega, by omega, by simp⟩]
  have hck2 : chk K C (K * C) = 0 := by unfold chk; rw [if_pos ⟨by omega, by omega, by simp⟩]
  have hNb : K * C ≤ 144 := Nat.mul_le_mul hK.2 hC.2
  have hBl := h.lt
  have H := Lib.hid h
  have H1 := Lib.hid h1
  have H2 := Lib.hid h2
  have H2S := Lib.hid (h2.sl (by rw [hzb]; omega))
  have HC1 := Lib.hid hck1
  have HC2 := Lib.hid hck2
  obtain ⟨A1, c1, rfl, hr1, hn1⟩ := h1
  obtain ⟨A2, c2, rfl, hr2, hn2⟩ := h2
  have HZA := Lib.hid hza
  have HZB := Lib.hid hzb
  have hcw : 0 ≤ c ∧ c ≤ 4611686018427387904 := ⟨hc.1, by omega⟩
  clear h hr1 hr2 hn1 hn2 hck1 hck2 hza hzb
  go_enter Try.func16, Try.ntmps16
  go_upto_region 4 with (first | (go_at_call 44; refine (mRef2 (H.out.keep ?_) hcw true (R1 := R) (C1 := K) (A1 := A1) (n1 := a.length) (d1 := c1) (R2 := K) (C2 := C) (A2 := A2) (n2 := b.length) (d2 := c2) ?_ ?_ ?_ ?_ ?_ ?_ ?_ 0 ?_).mono ?_; (focus ((first | ((first | (simp [go_sem]; done) | (simp [go_sem, ↓IntWalk.iteOmega]; done)); done) | (simp only [World.size_alloc]; omega) | ((repeat (first | assumption | exact Below.refl _ _ | with_reducible refine past_t _ ?_ | with_reducible refine below_a _ ?_ | with_reducible refine Below.drew ?_ | with_reducible refine below_d _ ?_ | (with_reducible refine Below.setCell ?_ (by (show _ ≤ _; repeat (first | exact Nat.le_refl _ | assumption | (omega; done) | with_reducible exact le_past (Nat.le_refl _) | with_reducible refine le_past ?_ | with_reducible refine le_al ?_ | with_reducible refine le_set ?_ | with_reducible refine le_p1 ?_))) _))); done) | (unfold rfs; rw [HZA.out, HZB.out, if_pos ⟨HC1.out, HC2.out⟩]; rfl)); done)); (focus ((first | ((first | (simp [go_sem]; done) | (simp [go_sem, ↓IntWalk.iteOmega]; done)); done) | (simp only [World.size_alloc]; omega) | ((repeat (first | assumption | exact Below.refl _ _ | with_reducible refine past_t _ ?_ | with_reducible refine below_a _ ?_ | with_reducible refine Below.drew ?_ | with_reducible refine below_d _ ?_ | (with_reducible refine Below.setCell ?_ (by (show _ ≤ _; repeat (first | exact Nat.le_refl _ | assumption | (omega; done) | with_reducible exact le_past (Nat.le_refl _) | with_reducible refine le_past ?_ | with_reducible refine le_al ?_ | with_reducible refine le_set ?_ | with_reducible refine le_p1 ?_))) _))); done) | (unfold rfs; rw [HZA.out, HZB.out, if_pos ⟨HC1.out, HC2.out⟩]; rfl)); done)); (focus ((first | ((first | (simp [go_sem]; done) | (simp [go_sem, ↓IntWalk.iteOmega]; done)); done) | (simp only [World.size_alloc]; omega) | ((repeat (first | assumption | exact Below.refl _ _ | with_reducible refine past_t _ ?_ | with_reducible refine below_a _ ?_ | with_reducible refine Below.drew ?_ | with_reducible refine below_d _ ?_ | (with_reducible refine Below.setCell ?_ (by (show _ ≤ _; repeat (first | exact Nat.le_refl _ | assumption | (omega; done) | with_reducible exact le_past (Nat.le_refl _) | with_reducible refine le_past ?_ | with_reducible refine le_al ?_ | with_reducible refine le_set ?_ | with_reducible refine le_p1 ?_))) _))); done) | (unfold rfs; rw [HZA.out, HZB.out, if_pos ⟨HC1.out, HC2.out⟩]; rfl)); done)); (focus ((first | ((first | (simp [go_sem]; done) | (simp [go_sem, ↓IntWalk.iteOmega]; done)); done) | (simp only [World.size_alloc]; omega) | ((repeat (first | assumption | exact Below.refl _ _ | with_reducible refine past_t _ ?_ | with_reducible refine below_a _ ?_ | with_reducible refine Below.drew ?_ | with_reducible refine below_d _ ?_ | (with_reducible refine Below.setCell ?_ (by (show _ ≤ _; repeat (first | exact Nat.le_refl _ | assumption | (omega; done) | with_reducible exact le_past (Nat.le_refl _) | with_reducible refine le_past ?_ | with_reducible refine le_al ?_ | with_reducible refine le_set ?_ | with_reducible refine le_p1 ?_))) _))); done) | (unfold rfs; rw [HZA.out, HZB.out, if_pos ⟨HC1.out, HC2.out⟩]; rfl)); done)); (focus ((first | ((first | (simp [go_sem]; done) | (simp [go_sem, ↓IntWalk.iteOmega]; done)); done) | (simp only [World.size_alloc]; omega) | ((repeat (first | assumption | exact Below.refl _ _ | with_reducible refine past_t _ ?_ | with_reducible refine below_a _ ?_ | with_reducible refine Below.drew ?_ | with_reducible refine below_d _ ?_ | (with_reducible refine Below.setCell ?_ (by (show _ ≤ _; repeat (first | exact Nat.le_refl _ | assumption | (omega; done) | with_reducible exact le_past (Nat.le_refl _) | with_reducible refine le_past ?_ | with_reducible refine le_al ?_ | with_reducible refine le_set ?_ | with_reducible refine le_p1 ?_))) _))); done) | (unfold rfs; rw [HZA.out, HZB.out, if_pos ⟨HC1.out, HC2.out⟩]; rfl)); done)); (focus ((first | ((first | (simp [go_sem]; done) | (simp [go_sem, ↓IntWalk.iteOmega]; done)); done) | (simp only [World.size_alloc]; omega) | ((repeat (first | assumption | exact Below.refl _ _ | with_reducible refine past_t _ ?_ | with_reducible refine below_a _ ?_ | with_reducible refine Below.drew ?_ | with_reducible refine below_d _ ?_ | (with_reducible refine Below.setCell ?_ (by (show _ ≤ _; repeat (first | exact Nat.le_refl _ | assumption | (omega; done) | with_reducible exact le_past (Nat.le_refl _) | with_reducible refine le_past ?_ | with_reducible refine le_al ?_ | with_reducible refine le_set ?_ | with_reducible refine le_p1 ?_))) _))); done) | (unfold rfs; rw [HZA.out, HZB.out, if_pos ⟨HC1.out, HC2.out⟩]; rfl)); done)); (focus ((first | ((first | (simp [go_sem]; done) | (simp [go_sem, ↓IntWalk.iteOmega]; done)); done) | (simp only [World.size_alloc]; omega) | ((repeat (first | assumption | exact Below.refl _ _ | with_reducible refine past_t _ ?_ | with_reducible refine below_a _ ?_ | with_reducible refine Below.drew ?_ | with_reducible refine below_d _ ?_ | (with_reducible refine Below.setCell ?_ (by (show _ ≤ _; repeat (first | exact Nat.le_refl _ | assumption | (omega; done) | with_reducible exact le_past (Nat.le_refl _) | with_reducible refine le_past ?_ | with_reducible refine le_al ?_ | with_reducible refine le_set ?_ | with_reducible refine le_p1 ?_))) _))); done) | (unfold rfs; rw [HZA.out, HZB.out, if_pos ⟨HC1.out, HC2.out⟩]; rfl)); done)); (focus ((first | ((first | (simp [go_sem]; done) | (simp [go_sem, ↓IntWalk.iteOmega]; done)); done) | (simp only [World.size_alloc]; omega) | ((repeat (first | assumption | exact Below.refl _ _ | with_reducible refine past_t _ ?_ | with_reducible refine below_a _ ?_ | with_reducible refine Below.drew ?_ | with_reducible refine below_d _ ?_ | (with_reducible refine Below.setCell ?_ (by (show _ ≤ _; repeat (first | exact Nat.le_refl _ | assumption | (omega; done) | with_reducible exact le_past (Nat.le_refl _) | with_reducible refine le_past ?_ | with_reducible refine le_al ?_ | with_reducible refine le_set ?_ | with_reducible refine le_p1 ?_))) _))); done) | (unfold rfs; rw [HZA.out, HZB.out, if_pos ⟨HC1.out, HC2.out⟩]; rfl)); done)); (focus ((first | ((first | (simp [go_sem]; done) | (simp [go_sem, ↓IntWalk.iteOmega]; done)); done) | (simp only [World.size_alloc]; omega) | ((repeat (first | assumption | exact Below.refl _ _ | with_reducible refine past_t _ ?_ | with_reducible refine below_a _ ?_ | with_reducible refine Below.drew ?_ | with_reducible refine below_d _ ?_ | (with_reducible refine Below.setCell ?_ (by (show _ ≤ _; repeat (first | exact Nat.le_refl _ | assumption | (omega; done) | with_reducible exact le_past (Nat.le_refl _) | with_reducible refine le_past ?_ | with_reducible refine le_al ?_ | with_reducible refine le_set ?_ | with_reducible refine le_p1 ?_))) _))); done) | (unfold rfs; rw [HZA.out, HZB.out, if_pos ⟨HC1.out, HC2.out⟩]; rfl)); done)); rintro e w' ⟨rfl, hb⟩; obtain ⟨z, rfl⟩ := ex_past hb; clear hb))
  refine wp_gen (fun W0 hW0 => ?_)
  have f0 : Below w.heap.size w W0 := by rw [hW0]; (repeat (first | assumption | exact Below.refl _ _ | with_reducible refine past_t _ ?_ | with_reducible refine below_a _ ?_ | with_reducible refine Below.drew ?_ | with_reducible refine below_d _ ?_ | (with_reducible refine Below.setCell ?_ (by (show _ ≤ _; repeat (first | exact Nat.le_refl _ | assumption | (omega; done) | with_reducible exact le_past (Nat.le_refl _) | with_reducible refine le_past ?_ | with_reducible refine le_al ?_ | with_reducible refine le_set ?_ | with_reducible refine le_p1 ?_))) _)))
  have f1 : W0.cell? ⟨w.heap.size, 0, none⟩ = some (UP B) := by rw [hW0]; (first | (simp [go_sem]; done) | (simp [go_sem, ↓IntWalk.iteOmega]; done))
  have f2 : W0.cell? ⟨w.heap.size + 1, 0, none⟩ = some (.int .i64 R) := by rw [hW0]; (first | (simp [go_sem]; done) | (simp [go_sem, ↓IntWalk.iteOmega]; done))
  have f3 : W0.cell? ⟨w.heap.size + 1, 1, none⟩ = some (.int .i64 K) := by rw [hW0]; (first | (simp [go_sem]; done) | (simp [go_sem, ↓IntWalk.iteOmega]; done))
  have f4 : W0.cell? ⟨w.heap.size + 1, 2, none⟩ = some (.slice A1 a.length c1) := by rw [hW0]; (first | (simp [go_sem]; done) | (simp [go_sem, ↓IntWalk.iteOmega]; done))
  have f5 : W0.cell? ⟨w.heap.size + 1 + 1, 0, none⟩ = some (.int .i64 K) := by rw [hW0]; (first | (simp [go_sem]; done) | (simp [go_sem, ↓IntWalk.iteOmega]; done))
  have f6 : W0.cell? ⟨w.heap.size + 1 + 1, 1, none⟩ = some (.int .i64 C) := by rw [hW0]; (first | (simp [go_sem]; done) | (simp [go_sem, ↓IntWalk.iteOmega]; done))
  have f7 : W0.cell? ⟨w.heap.size + 1 + 1, 2, none⟩ = some (.slice A2 b.length c2) := by rw [hW0]; (first | (simp [go_sem]; done) | (simp [go_sem, ↓IntWalk.iteOmega]; done))
  have f8 : Blk W0 (w.heap.size + 1 + 1 + 1) 24 #[.int .i64 0, .int .i64 0, .slice none 0 0] := by
    have := Blk.new (((w.alloc (.cells #[UP B] 25)).alloc (.cells #[.int .i64 R, .int .i64 K, .slice A1 a.length c1] 24)).alloc (.cells #[.int .i64 K, .int .i64 C, .slice A2 b.length c2] 24)) 24 #[.int .i64 0, .int .i64 0, .slice none 0 0]
    rw [hW0]
    simp only [World.size_alloc] at this
    exact this.keep (by (repeat (first | assumption | exact Below.refl _ _ | with_reducible refine past_t _ ?_ | with_reducible refine below_a _ ?_ | with_reducible refine Below.drew ?_ | with_reducible refine below_d _ ?_ | (with_reducible refine Below.setCell ?_ (by (show _ ≤ _; repeat (first | exact Nat.le_refl _ | assumption | (omega; done) | with_reducible exact le_past (Nat.le_refl _) | with_reducible refine le_past ?_ | with_reducible refine le_al ?_ | with_reducible refine le_set ?_ | with_reducible refine le_p1 ?_))) _))))
  clear hW0
  have HT := Lib.hid (mTurn (B := B) (H2S.out.keep f0) hK hC HZB.out)
  have F := Lib.hid (And.intro f0 (And.intro f1 (And.intro f2 (And.intro f3 (And.intro f4 (And.intro f5 (And.intro f6 (And.intro f7 f8))))))))
  go_upto_region 5 with (go_at_call 24; refine HT.out.mono ?_; rintro e W1 ⟨A3, c3, rfl, ho3, hb3⟩)
  clear f0 f1 f2 f3 f4 f5 f6 f7 f8
  obtain ⟨f0, f1, f2, f3, f4, f5, f6, f7, f8⟩ := F.out
  have g0 : Below w.heap.size w W1 := f0.trans (hb3.mono f0.size)
  have g1 := cell_keep f1 hb3
  have g2 := cell_keep f2 hb3
  have g3 := cell_keep f3 hb3
  have g4 := cell_keep f4 hb3
  have g6 := cell_keep f6 hb3
  have g8 := f8.keep hb3
  have g9 := ho3.base (U := w) f0.size
  have g10 : w.heap.size + 1 + 1 + 1 < W1.heap.size := g8.lt
  clear f0 f1 f2 f3 f4 f5 f6 f7 f8 F HT ho3 hb3 H2 H2S
  have M1 := Lib.hid (H1.out.keep g0)
  have M2 := Lib.hid (g9.ms (B := B) hBl)
  have hit := turnL_in K C hib
  have hlt := turnL_len K C b
  have G8 := Lib.hid g8
  have HLT := Lib.hid hlt
  clear g8 hlt
  go_wp2_with (go_at_call 45; with_reducible refine (mMadeMul (Bu := w.heap.size) (Ba := w.heap.size + 1) (Bt := W1.heap.size) (a := a) (t := turnL K C b) (B := B) (H.out.keep ?_) hc (by omega) (by omega) (by omega) ?_ ?_ ?_ ?_ ?_ (M1.out.keep ?_) (M2.out.keep ?_) hR hC hK HZA.out HLT.out hia hit).mono ?_; (focus ((first | ((first | (simp [go_sem]; done) | (simp [go_sem, ↓IntWalk.iteOmega]; done)); done) | (simp only [World.size_alloc]; omega) | ((repeat (first | assumption | exact Below.refl _ _ | with_reducible refine past_t _ ?_ | with_reducible refine below_a _ ?_ | with_reducible refine Below.drew ?_ | with_reducible refine below_d _ ?_ | (with_reducible refine Below.setCell ?_ (by (show _ ≤ _; repeat (first | exact Nat.le_refl _ | assumption | (omega; done) | with_reducible exact le_past (Nat.le_refl _) | with_reducible refine le_past ?_ | with_reducible refine le_al ?_ | with_reducible refine le_set ?_ | with_reducible refine le_p1 ?_))) _))); done) | (exact cell_keep (by assumption) (by (repeat (first | assumption | exact Below.refl _ _ | with_reducible refine past_t _ ?_ | with_reducible refine below_a _ ?_ | with_reducible refine Below.drew ?_ | with_reducible refine below_d _ ?_ | (with_reducible refine Below.setCell ?_ (by (show _ ≤ _; repeat (first | exact Nat.le_refl _ | assumption | (omega; done) | with_reducible exact le_past (Nat.le_refl _) | with_reducible refine le_past ?_ | with_reducible refine le_al ?_ | with_reducible refine le_set ?_ | with_reducible refine le_p1 ?_))) _)))))); done)); (focus ((first | ((first | (simp [go_sem]; done) | (simp [go_sem, ↓IntWalk.iteOmega]; done)); done) | (simp only [World.size_alloc]; omega) | ((repeat (first | assumption | exact Below.refl _ _ | with_reducible refine past_t _ ?_ | with_reducible refine below_a _ ?_ | with_reducible refine Below.drew ?_ | with_reducible refine below_d _ ?_ | (with_reducible refine Below.setCell ?_ (by (show _ ≤ _; repeat (first | exact Nat.le_refl _ | assumption | (omega; done) | with_reducible exact le_past (Nat.le_refl _) | with_reducible refine le_past ?_ | with_reducible refine le_al ?_ | with_reducible refine le_set ?_ | with_reducible refine le_p1 ?_))) _))); done) | (exact cell_keep (by assumption) (by (repeat (first | assumption | exact Below.refl _ _ | with_reducible refine past_t _ ?_ | with_reducible refine below_a _ ?_ | with_reducible refine Below.drew ?_ | with_reducible refine below_d _ ?_ | (with_reducible refine Below.setCell ?_ (by (show _ ≤ _; repeat (first | exact Nat.le_refl _ | assumption | (omega; done) | with_reducible exact le_past (Nat.le_refl _) | with_reducible refine le_past ?_ | with_reducible refine le_al ?_ | with_reducible refine le_set ?_ | with_reducible refine le_p1 ?_))) _)))))); done)); (focus ((first | ((first | (simp [go_sem]; done) | (simp [go_sem, ↓IntWalk.iteOmega]; done)); done) | (simp only [World.size_alloc]; omega) | ((repeat (first | assumption | exact Below.refl _ _ | with_reducible refine past_t _ ?_ | with_reducible refine below_a _ ?_ | with_reducible refine Below.drew ?_ | with_reducible refine below_d _ ?_ | (with_reducible refine Below.setCell ?_ (by (show _ ≤ _; repeat (first | exact Nat.le_refl _ | assumption | (omega; done) | with_reducible exact le_past (Nat.le_refl _) | with_reducible refine le_past ?_ | with_reducible refine le_al ?_ | with_reducible refine le_set ?_ | with_reducible refine le_p1 ?_))) _))); done) | (exact cell_keep (by assumption) (by (repeat (first | assumption | exact Below.refl _ _ | with_reducible refine past_t _ ?_ | with_reducible refine below_a _ ?_ | with_reducible refine Below.drew ?_ | with_reducible refine below_d _ ?_ | (with_reducible refine Below.setCell ?_ (by (show _ ≤ _; repeat (first | exact Nat.le_refl _ | assumption | (omega; done) | with_reducible exact le_past (Nat.le_refl _) | with_reducible refine le_past ?_ | with_reducible refine le_al ?_ | with_reducible refine le_set ?_ | with_reducible refine le_p1 ?_))) _)))))); done)); (focus ((first | ((first | (simp [go_sem]; done) | (simp [go_sem, ↓IntWalk.iteOmega]; done)); done) | (simp only [World.size_alloc]; omega) | ((repeat (first | assumption | exact Below.refl _ _ | with_reducible refine past_t _ ?_ | with_reducible refine below_a _ ?_ | with_reducible refine Below.drew ?_ | with_reducible refine below_d _ ?_ | (with_reducible refine Below.setCell ?_ (by (show _ ≤ _; repeat (first | exact Nat.le_refl _ | assumption | (omega; done) | with_reducible exact le_past (Nat.le_refl _) | with_reducible refine le_past ?_ | with_reducible refine le_al ?_ | with_reducible refine le_set ?_ | with_reducible refine le_p1 ?_))) _))); done) | (exact cell_keep (by assumption) (by (repeat (first | assumption | exact Below.refl _ _ | with_reducible refine past_t _ ?_ | with_reducible refine below_a _ ?_ | with_reducible refine Below.drew ?_ | with_reducible refine below_d _ ?_ | (with_reducible refine Below.setCell ?_ (by (show _ ≤ _; repeat (first | exact Nat.le_refl _ | assumption | (omega; done) | with_reducible exact le_past (Nat.le_refl _) | with_reducible refine le_past ?_ | with_reducible refine le_al ?_ | with_reducible refine le_set ?_ | with_reducible refine le_p1 ?_))) _)))))); done)); (focus ((first | ((first | (simp [go_sem]; done) | (simp [go_sem, ↓IntWalk.iteOmega]; done)); done) | (simp only [World.size_alloc]; omega) | ((repeat (first | assumption | exact Below.refl _ _ | with_reducible refine past_t _ ?_ | with_reducible refine below_a _ ?_ | with_reducible refine Below.drew ?_ | with_reducible refine below_d _ ?_ | (with_reducible refine Below.setCell ?_ (by (show _ ≤ _; repeat (first | exact Nat.le_refl _ | assumption | (omega; done) | with_reducible exact le_past (Nat.le_refl _) | with_reducible refine le_past ?_ | with_reducible refine le_al ?_ | with_reducible refine le_set ?_ | with_reducible refine le_p1 ?_))) _))); done) | (exact cell_keep (by assumption) (by (repeat (first | assumption | exact Below.refl _ _ | with_reducible refine past_t _ ?_ | with_reducible refine below_a _ ?_ | with_reducible refine Below.drew ?_ | with_reducible refine below_d _ ?_ | (with_reducible refine Below.setCell ?_ (by (show _ ≤ _; repeat (first | exact Nat.le_refl _ | assumption | (omega; done) | with_reducible exact le_past (Nat.le_refl _) | with_reducible refine le_past ?_ | with_reducible refine le_al ?_ | with_reducible refine le_set ?_ | with_reducible refine le_p1 ?_))) _)))))); done)); (focus ((first | ((first | (simp [go_sem]; done) | (simp [go_sem, ↓IntWalk.iteOmega]; done)); done) | (simp only [World.size_alloc]; omega) | ((repeat (first | assumption | exact Below.refl _ _ | with_reducible refine past_t _ ?_ | with_reducible refine below_a _ ?_ | with_reducible refine Below.drew ?_ | with_reducible refine below_d _ ?_ | (with_reducible refine Below.setCell ?_ (by (show _ ≤ _; repeat (first | exact Nat.le_refl _ | assumption | (omega; done) | with_reducible exact le_past (Nat.le_refl _) | with_reducible refine le_past ?_ | with_reducible refine le_al ?_ | with_reducible refine le_set ?_ | with_reducible refine le_p1 ?_))) _))); done) | (exact cell_keep (by assumption) (by (repeat (first | assumption | exact Below.refl _ _ | with_reducible refine past_t _ ?_ | with_reducible refine below_a _ ?_ | with_reducible refine Below.drew ?_ | with_reducible refine below_d _ ?_ | (with_reducible refine Below.setCell ?_ (by (show _ ≤ _; repeat (first | exact Nat.le_refl _ | assumption | (omega; done) | with_reducible exact le_past (Nat.le_refl _) | with_reducible refine le_past ?_ | with_reducible refine le_al ?_ | with_reducible refine le_set ?_ | with_reducible refine le_p1 ?_))) _)))))); done)); (focus ((first | ((first | (simp [go_sem]; done) | (simp [go_sem, ↓IntWalk.iteOmega]; done)); done) | (simp only [World.size_alloc]; omega) | ((repeat (first | assumption | exact Below.refl _ _ | with_reducible refine past_t _ ?_ | with_reducible refine below_a _ ?_ | with_reducible refine Below.drew ?_ | with_reducible refine below_d _ ?_ | (with_reducible refine Below.setCell ?_ (by (show _ ≤ _; repeat (first | exact Nat.le_refl _ | assumption | (omega; done) | with_reducible exact le_past (Nat.le_refl _) | with_reducible refine le_past ?_ | with_reducible refine le_al ?_ | with_reducible refine le_set ?_ | with_reducible refine le_p1 ?_))) _))); done) | (exact cell_keep (by assumption) (by (repeat (first | assumption | exact Below.refl _ _ | with_reducible refine past_t _ ?_ | with_reducible refine below_a _ ?_ | with_reducible refine Below.drew ?_ | with_reducible refine below_d _ ?_ | (with_reducible refine Below.setCell ?_ (by (show _ ≤ _; repeat (first | exact Nat.le_refl _ | assumption | (omega; done) | with_reducible exact le_past (Nat.le_refl _) | with_reducible refine le_past ?_ | with_reducible refine le_al ?_ | with_reducible refine le_set ?_ | with_reducible refine le_p1 ?_))) _)))))); done)); (focus ((first | ((first | (simp [go_sem]; done) | (simp [go_sem, ↓IntWalk.iteOmega]; done)); done) | (simp only [World.size_alloc]; omega) | ((repeat (first | assumption | exact Below.refl _ _ | with_reducible refine past_t _ ?_ | with_reducible refine below_a _ ?_ | with_reducible refine Below.drew ?_ | with_reducible refine below_d _ ?_ | (with_reducible refine Below.setCell ?_ (by (show _ ≤ _; repeat (first | exact Nat.le_refl _ | assumption | (omega; done) | with_reducible exact le_past (Nat.le_refl _) | with_reducible refine le_past ?_ | with_reducible refine le_al ?_ | with_reducible refine le_set ?_ | with_reducible refine le_p1 ?_))) _))); done) | (exact cell_keep (by assumption) (by (repeat (first | assumption | exact Below.refl _ _ | with_reducible refine past_t _ ?_ | with_reducible refine below_a _ ?_ | with_reducible refine Below.drew ?_ | with_reducible refine below_d _ ?_ | (with_reducible refine Below.setCell ?_ (by (show _ ≤ _; repeat (first | exact Nat.le_refl _ | assumption | (omega; done) | with_reducible exact le_past (Nat.le_refl _) | with_reducible refine le_past ?_ | with_reducible refine le_al ?_ | with_reducible refine le_set ?_ | with_reducible refine le_p1 ?_))) _)))))); done)); rintro e w' ⟨A, cap, rfl, ho, hb⟩; have hq := ((G8.out.keep ((Below.refl _ _).alloc (Nat.le_refl _) _)).put (B := B) (by omega) _ _).keep (by rw [put_size]; exact hb); have q0 := hq.cell 0; have q1 := hq.cell 1; have q2 := hq.cell 2; have q3 := hq.mark 0; have q4 := hq.mark 1; have q5 := hq.mark 2; have q6 := hq.lt; simp at q0 q1 q2)
  obtain ⟨V, hV, hVb, hb, ho⟩ : ∃ V, Below w.heap.size w V ∧ w.heap.size + 1 + 1 + 1 < V.heap.size ∧ Below V.heap.size (put B (mapN (gM a (turnL K C b) K C) i (R * C)).2 (c + 2 * (K : Int) * ((R * C : Nat) : Int)) V) w' ∧ OwnI V w' (.slice A (R * C) cap) (mapN (gM a (turnL K C b) K C) i (R * C)).1 :=
    ⟨_, by (repeat (first | assumption | exact Below.refl _ _ | with_reducible refine past_t _ ?_ | with_reducible refine below_a _ ?_ | with_reducible refine Below.drew ?_ | with_reducible refine below_d _ ?_ | (with_reducible refine Below.setCell ?_ (by (show _ ≤ _; repeat (first | exact Nat.le_refl _ | assumption | (omega; done) | with_reducible exact le_past (Nat.le_refl _) | with_reducible refine le_past ?_ | with_reducible refine le_al ?_ | with_reducible refine le_set ?_ | with_reducible refine le_p1 ?_))) _))), by simp only [World.size_alloc]; omega, hb, ho⟩
  have hT := (below_put hV B (mapN (gM a (turnL K C b) K C) i (R * C)).2 (c + 2 * (K : Int) * ((R * C : Nat) : Int))).trans (hb.mono hV.size)
  exact bodyPost_ret (results_bm rfl rfl hq) rfl ⟨_, _, rfl, (own_box ho hVb _ _ _).base (U := w) hV.size, below_box hT (by omega) _ _ _⟩
end Go.Proofs.Ytlhadociaekkhaa
/- Package mat: who is not multiplied; Apply. -/
namespace Go.Proofs.Ytlhadociaekkhaa
set_option linter.unusedVariables false
set_option maxRecDepth 100000
open Go.RowKit Go.Shelf
set_option maxHeartbeats 4000000 in
theorem mMulNo {B : Nat} {i : Bool} {c : Int} {R1 C1 R2 C2 : Int} {A1 A2 : Option Addr} {n1 c1 n2 c2 : Nat} {w : World} (h : UA B i c w) (hc : 0 ≤ c ∧ c ≤ 4611686018427380000) (hno : ¬(C1 = R2 ∧ chk R1 C1 n1 = 0 ∧ chk R2 C2 n2 = 0)) :
    Calls Try.prog 16 #[UP B, .agg #[.int .i64 R1, .int .i64 C1, .slice A1 n1 c1], .agg #[.int .i64 R2, .int .i64 C2, .slice A2 n2 c2]] w fun e w' => e = .returned (.tuple #[M0, .int .i64 3]) ∧ Below w.heap.size w w' := by
  have hBl := h.lt
  have H := Lib.hid h
  have hcw : 0 ≤ c ∧ c ≤ 4611686018427387904 := ⟨hc.1, by omega⟩
  clear h
  by_cases hf : C1 = R2
  · subst hf
    have HN := Lib.hid (show ¬(chk R1 C1 n1 = 0 ∧ chk C1 C2 n2 = 0) from fun x => hno ⟨rfl, x⟩)
    clear hno
    go_enter Try.func16, Try.ntmps16
    go_wp2_with (first | (go_at_call 44; refine (mRef2 (H.out.keep ?_) hcw true (R1 := R1) (C1 := C1) (A1 := A1) (n1 := n1) (d1 := c1) (R2 := C1) (C2 := C2) (A2 := A2) (n2 := n2) (d2 := c2) ?_ ?_ ?_ ?_ ?_ ?_ ?_ 3 ?_).mono ?_; (focus ((first | ((first | (simp [go_sem]; done) | (simp [go_sem, ↓IntWalk.iteOmega]; done)); done) | (simp only [World.size_alloc]; omega) | ((repeat (first | assumption | exact Below.refl _ _ | with_reducible refine past_t _ ?_ | with_reducible refine below_a _ ?_ | with_reducible refine Below.drew ?_ | with_reducible refine below_d _ ?_ | (with_reducible refine Below.setCell ?_ (by (show _ ≤ _; repeat (first | exact Nat.le_refl _ | assumption | (omega; done) | with_reducible exact le_past (Nat.le_refl _) | with_reducible refine le_past ?_ | with_reducible refine le_al ?_ | with_reducible refine le_set ?_ | with_reducible refine le_p1 ?_))) _))); done) | (unfold rfs; rw [if_neg HN.out])); done)); (focus ((first | ((first | (simp [go_sem]; done) | (simp [go_sem, ↓IntWalk.iteOmega]; done)); done) | (simp only [World.size_alloc]; omega) | ((repeat (first | assumption | exact Below.refl _ _ | with_reducible refine past_t _ ?_ | with_reducible refine below_a _ ?_ | with_reducible refine Below.drew ?_ | with_reducible refine below_d _ ?_ | (with_reducible refine Below.setCell ?_ (by (show _ ≤ _; repeat (first | exact Nat.le_refl _ | assumption | (omega; done) | with_reducible exact le_past (Nat.le_refl _) | with_reducible refine le_past ?_ | with_reducible refine le_al ?_ | with_reducible refine le_set ?_ | with_reducible refine le_p1 ?_))) _))); done) | (unfold rfs; rw [if_neg HN.out])); done)); (focus ((first | ((first | (simp [go_sem]; done) | (simp [go_sem, ↓IntWalk.iteOmega]; done)); done) | (simp only [World.size_alloc]; omega) | ((repeat (first | assumption | exact Below.refl _ _ | with_reducible refine past_t _ ?_ | with_reducible refine below_a _ ?_ | with_reducible refine Below.drew ?_ | with_reducible refine below_d _ ?_ | (with_reducible refine Below.setCell ?_ (by (show _ ≤ _; repeat (first | exact Nat.le_refl _ | assumption | (omega; done) | with_reducible exact le_past (Nat.le_refl _) | with_reducible refine le_past ?_ | with_reducible refine le_al ?_ | with_reducible refine le_set ?_ | with_reducible refine le_p1 ?_))) _))); done) | (unfold rfs; rw [if_neg HN.out])); done)); (focus ((first | ((first | (simp [go_sem]; done) | (simp [go_sem, ↓IntWalk.iteOmega]; done)); done) | (simp only [World.size_alloc]; omega) | ((repeat (first | assumption | exact Below.refl _ _ | with_reducible refine past_t _ ?_ | with_reducible refine below_a _ ?_ | with_reducible refine Below.drew ?_ | with_reducible refine below_d _ ?_ | (with_reducible refine Below.setCell ?_ (by (show _ ≤ _; repeat (first | exact Nat.le_refl _ | assumption | (omega; done) | with_reducible exact le_past (Nat.le_refl _) | with_reducible refine le_past ?_ | with_reducible refine le_al ?_ | with_reducible refine le_set ?_ | with_reducible refine le_p1 ?_))) _))); done) | (unfold rfs; rw [if_neg HN.out])); done)); (focus ((first | ((first | (simp [go_sem]; done) | (simp [go_sem, ↓IntWalk.iteOmega]; done)); done) | (simp only [World.size_alloc]; omega) | ((repeat (first | assumption | exact Below.refl _ _ | with_reducible refine past_t _ ?_ | with_reducible refine below_a _ ?_ | with_reducible refine Below.drew ?_ | with_reducible refine below_d _ ?_ | (with_reducible refine Below.setCell ?_ (by (show _ ≤ _; repeat (first | exact Nat.le_refl _ | assumption | (omega; done) | with_reducible exact le_past (Nat.le_refl _) | with_reducible refine le_past ?_ | with_reducible refine le_al ?_ | with_reducible refine le_set ?_ | with_reducible refine le_p1 ?_))) _))); done) | (unfold rfs; rw [if_neg HN.out])); done)); (focus ((first | ((first | (simp [go_sem]; done) | (simp [go_sem, ↓IntWalk.iteOmega]; done)); done) | (simp only [World.size_alloc]; omega) | ((repeat (first | assumption | exact Below.refl _ _ | with_reducible refine past_t _ ?_ | with_reducible refine below_a _ ?_ | with_reducible refine Below.drew ?_ | with_reducible refine below_d _ ?_ | (with_reducible refine Below.setCell ?_ (by (show _ ≤ _; repeat (first | exact Nat.le_refl _ | assumption | (omega; done) | with_reducible exact le_past (Nat.le_refl _) | with_reducible refine le_past ?_ | with_reducible refine le_al ?_ | with_reducible refine le_set ?_ | with_reducible refine le_p1 ?_))) _))); done) | (unfold rfs; rw [if_neg HN.out])); done)); (focus ((first | ((first | (simp [go_sem]; done) | (simp [go_sem, ↓IntWalk.iteOmega]; done)); done) | (simp only [World.size_alloc]; omega) | ((repeat (first | assumption | exact Below.refl _ _ | with_reducible refine past_t _ ?_ | with_reducible refine below_a _ ?_ | with_reducible refine Below.drew ?_ | with_reducible refine below_d _ ?_ | (with_reducible refine Below.setCell ?_ (by (show _ ≤ _; repeat (first | exact Nat.le_refl _ | assumption | (omega; done) | with_reducible exact le_past (Nat.le_refl _) | with_reducible refine le_past ?_ | with_reducible refine le_al ?_ | with_reducible refine le_set ?_ | with_reducible refine le_p1 ?_))) _))); done) | (unfold rfs; rw [if_neg HN.out])); done)); (focus ((first | ((first | (simp [go_sem]; done) | (simp [go_sem, ↓IntWalk.iteOmega]; done)); done) | (simp only [World.size_alloc]; omega) | ((repeat (first | assumption | exact Below.refl _ _ | with_reducible refine past_t _ ?_ | with_reducible refine below_a _ ?_ | with_reducible refine Below.drew ?_ | with_reducible refine below_d _ ?_ | (with_reducible refine Below.setCell ?_ (by (show _ ≤ _; repeat (first | exact Nat.le_refl _ | assumption | (omega; done) | with_reducible exact le_past (Nat.le_refl _) | with_reducible refine le_past ?_ | with_reducible refine le_al ?_ | with_reducible refine le_set ?_ | with_reducible refine le_p1 ?_))) _))); done) | (unfold rfs; rw [if_neg HN.out])); done)); (focus ((first | ((first | (simp [go_sem]; done) | (simp [go_sem, ↓IntWalk.iteOmega]; done)); done) | (simp only [World.size_alloc]; omega) | ((repeat (first | assumption | exact Below.refl _ _ | with_reducible refine past_t _ ?_ | with_reducible refine below_a _ ?_ | with_reducible refine Below.drew ?_ | with_reducible refine below_d _ ?_ | (with_reducible refine Below.setCell ?_ (by (show _ ≤ _; repeat (first | exact Nat.le_refl _ | assumption | (omega; done) | with_reducible exact le_past (Nat.le_refl _) | with_reducible refine le_past ?_ | with_reducible refine le_al ?_ | with_reducible refine le_set ?_ | with_reducible refine le_p1 ?_))) _))); done) | (unfold rfs; rw [if_neg HN.out])); done)); rintro e w' ⟨rfl, hb⟩; obtain ⟨z, rfl⟩ := ex_past hb; clear hb))
    refine bodyPost_ret (results_cm (T := 0) (x0 := .int .i64 0) (x1 := .int .i64 0) (x2 := .slice none 0 0) rfl rfl (by (first | (simp [go_sem]; done) | (simp [go_sem, ↓IntWalk.iteOmega]; done))) (by (first | (simp [go_sem]; done) | (simp [go_sem, ↓IntWalk.iteOmega]; done))) (by (first | (simp [go_sem]; done) | (simp [go_sem, ↓IntWalk.iteOmega]; done)))) rfl ?_
    exact ⟨rfl, by (repeat (first | assumption | exact Below.refl _ _ | with_reducible refine past_t _ ?_ | with_reducible refine below_a _ ?_ | with_reducible refine Below.drew ?_ | with_reducible refine below_d _ ?_ | (with_reducible refine Below.setCell ?_ (by (show _ ≤ _; repeat (first | exact Nat.le_refl _ | assumption | (omega; done) | with_reducible exact le_past (Nat.le_refl _) | with_reducible refine le_past ?_ | with_reducible refine le_al ?_ | with_reducible refine le_set ?_ | with_reducible refine le_p1 ?_))) _)))⟩
  · have h3 : (C1 == R2) = false := by simpa using hf
    clear hno hf
    go_enter Try.func16, Try.ntmps16
    go_wp2_with (first | (go_at_call 44; refine (mRef2 (H.out.keep ?_) hcw false (R1 := R1) (C1 := C1) (A1 := A1) (n1 := n1) (d1 := c1) (R2 := R2) (C2 := C2) (A2 := A2) (n2 := n2) (d2 := c2) ?_ ?_ ?_ ?_ ?_ ?_ ?_ 3 ?_).mono ?_; (focus ((first | ((first | (simp [go_sem]; done) | (simp [go_sem, ↓IntWalk.iteOmega]; done)); done) | (simp only [World.size_alloc]; omega) | ((repeat (first | assumption | exact Below.refl _ _ | with_reducible refine past_t _ ?_ | with_reducible refine below_a _ ?_ | with_reducible refine Below.drew ?_ | with_reducible refine below_d _ ?_ | (with_reducible refine Below.setCell ?_ (by (show _ ≤ _; repeat (first | exact Nat.le_refl _ | assumption | (omega; done) | with_reducible exact le_past (Nat.le_refl _) | with_reducible refine le_past ?_ | with_reducible refine le_al ?_ | with_reducible refine le_set ?_ | with_reducible refine le_p1 ?_))) _))); done) | (unfold rfs; split; rfl; rfl)); done)); (focus ((first | ((first | (simp [go_sem]; done) | (simp [go_sem, ↓IntWalk.iteOmega]; done)); done) | (simp only [World.size_alloc]; omega) | ((repeat (first | assumption | exact Below.refl _ _ | with_reducible refine past_t _ ?_ | with_reducible refine below_a _ ?_ | with_reducible refine Below.drew ?_ | with_reducible refine below_d _ ?_ | (with_reducible refine Below.setCell ?_ (by (show _ ≤ _; repeat (first | exact Nat.le_refl _ | assumption | (omega; done) | with_reducible exact le_past (Nat.le_refl _) | with_reducible refine le_past ?_ | with_reducible refine le_al ?_ | with_reducible refine le_set ?_ | with_reducible refine le_p1 ?_))) _))); done) | (unfold rfs; split; rfl; rfl)); done)); (focus ((first | ((first | (simp [go_sem]; done) | (simp [go_sem, ↓IntWalk.iteOmega]; done)); done) | (simp only [World.size_alloc]; omega) | ((repeat (first | assumption | exact Below.refl _ _ | with_reducible refine past_t _ ?_ | with_reducible refine below_a _ ?_ | with_reducible refine Below.drew ?_ | with_reducible refine below_d _ ?_ | (with_reducible refine Below.setCell ?_ (by (show _ ≤ _; repeat (first | exact Nat.le_refl _ | assumption | (omega; done) | with_reducible exact le_past (Nat.le_refl _) | with_reducible refine le_past ?_ | with_reducible refine le_al ?_ | with_reducible refine le_set ?_ | with_reducible refine le_p1 ?_))) _))); done) | (unfold rfs; split; rfl; rfl)); done)); (focus ((first | ((first | (simp [go_sem]; done) | (simp [go_sem, ↓IntWalk.iteOmega]; done)); done) | (simp only [World.size_alloc]; omega) | ((repeat (first | assumption | exact Below.refl _ _ | with_reducible refine past_t _ ?_ | with_reducible refine below_a _ ?_ | with_reducible refine Below.drew ?_ | with_reducible refine below_d _ ?_ | (with_reducible refine Below.setCell ?_ (by (show _ ≤ _; repeat (first | exact Nat.le_refl _ | assumption | (omega; done) | with_reducible exact le_past (Nat.le_refl _) | with_reducible refine le_past ?_ | with_reducible refine le_al ?_ | with_reducible refine le_set ?_ | with_reducible refine le_p1 ?_))) _))); done) | (unfold rfs; split; rfl; rfl)); done)); (focus ((first | ((first | (simp [go_sem]; done) | (simp [go_sem, ↓IntWalk.iteOmega]; done)); done) | (simp only [World.size_alloc]; omega) | ((repeat (first | assumption | exact Below.refl _ _ | with_reducible refine past_t _ ?_ | with_reducible refine below_a _ ?_ | with_reducible refine Below.drew ?_ | with_reducible refine below_d _ ?_ | (with_reducible refine Below.setCell ?_ (by (show _ ≤ _; repeat (first | exact Nat.le_refl _ | assumption | (omega; done) | with_reducible exact le_past (Nat.le_refl _) | with_reducible refine le_past ?_ | with_reducible refine le_al ?_ | with_reducible refine le_set ?_ | with_reducible refine le_p1 ?_))) _))); done) | (unfold rfs; split; rfl; rfl)); done)); (focus ((first | ((first | (simp [go_sem]; done) | (simp [go_sem, ↓IntWalk.iteOmega]; done)); done) | (simp only [World.size_alloc]; omega) | ((repeat (first | assumption | exact Below.refl _ _ | with_reducible refine past_t _ ?_ | with_reducible refine below_a _ ?_ | with_reducible refine Below.drew ?_ | with_reducible refine below_d _ ?_ | (with_reducible refine Below.setCell ?_ (by (show _ ≤ _; repeat (first | exact Nat.le_refl _ | assumption | (omega; done) | with_reducible exact le_past (Nat.le_refl _) | with_reducible refine le_past ?_ | with_reducible refine le_al ?_ | with_reducible refine le_set ?_ | with_reducible refine le_p1 ?_))) _))); done) | (unfold rfs; split; rfl; rfl)); done)); (focus ((first | ((first | (simp [go_sem]; done) | (simp [go_sem, ↓IntWalk.iteOmega]; done)); done) | (simp only [World.size_alloc]; omega) | ((repeat (first | assumption | exact Below.refl _ _ | with_reducible refine past_t _ ?_ | with_reducible refine below_a _ ?_ | with_reducible refine Below.drew ?_ | with_reducible refine below_d _ ?_ | (with_reducible refine Below.setCell ?_ (by (show _ ≤ _; repeat (first | exact Nat.le_refl _ | assumption | (omega; done) | with_reducible exact le_past (Nat.le_refl _) | with_reducible refine le_past ?_ | with_reducible refine le_al ?_ | with_reducible refine le_set ?_ | with_reducible refine le_p1 ?_))) _))); done) | (unfold rfs; split; rfl; rfl)); done)); (focus ((first | ((first | (simp [go_sem]; done) | (simp [go_sem, ↓IntWalk.iteOmega]; done)); done) | (simp only [World.size_alloc]; omega) | ((repeat (first | assumption | exact Below.refl _ _ | with_reducible refine past_t _ ?_ | with_reducible refine below_a _ ?_ | with_reducible refine Below.drew ?_ | with_reducible refine below_d _ ?_ | (with_reducible refine Below.setCell ?_ (by (show _ ≤ _; repeat (first | exact Nat.le_refl _ | assumption | (omega; done) | with_reducible exact le_past (Nat.le_refl _) | with_reducible refine le_past ?_ | with_reducible refine le_al ?_ | with_reducible refine le_set ?_ | with_reducible refine le_p1 ?_))) _))); done) | (unfold rfs; split; rfl; rfl)); done)); (focus ((first | ((first | (simp [go_sem]; done) | (simp [go_sem, ↓IntWalk.iteOmega]; done)); done) | (simp only [World.size_alloc]; omega) | ((repeat (first | assumption | exact Below.refl _ _ | with_reducible refine past_t _ ?_ | with_reducible refine below_a _ ?_ | with_reducible refine Below.drew ?_ | with_reducible refine below_d _ ?_ | (with_reducible refine Below.setCell ?_ (by (show _ ≤ _; repeat (first | exact Nat.le_refl _ | assumption | (omega; done) | with_reducible exact le_past (Nat.le_refl _) | with_reducible refine le_past ?_ | with_reducible refine le_al ?_ | with_reducible refine le_set ?_ | with_reducible refine le_p1 ?_))) _))); done) | (unfold rfs; split; rfl; rfl)); done)); rintro e w' ⟨rfl, hb⟩; obtain ⟨z, rfl⟩ := ex_past hb; clear hb))
    refine bodyPost_ret (results_cm (T := 0) (x0 := .int .i64 0) (x1 := .int .i64 0) (x2 := .slice none 0 0) rfl rfl (by (first | (simp [go_sem]; done) | (simp [go_sem, ↓IntWalk.iteOmega]; done))) (by (first | (simp [go_sem]; done) | (simp [go_sem, ↓IntWalk.iteOmega]; done))) (by (first | (simp [go_sem]; done) | (simp [go_sem, ↓IntWalk.iteOmega]; done)))) rfl ?_
    exact ⟨rfl, by (repeat (first | assumption | exact Below.refl _ _ | with_reducible refine past_t _ ?_ | with_reducible refine below_a _ ?_ | with_reducible refine Below.drew ?_ | with_reducible refine below_d _ ?_ | (with_reducible refine Below.setCell ?_ (by (show _ ≤ _; repeat (first | exact Nat.le_refl _ | assumption | (omega; done) | with_reducible exact le_past (Nat.le_refl _) | with_reducible refine le_past ?_ | with_reducible refine le_al ?_ | with_reducible refine le_set ?_ | with_reducible refine le_p1 ?_))) _)))⟩
set_option maxHeartbeats 4000000 in
theorem mMulN {p : Option Addr} {R1 C1 R2 C2 : Int} {A1 A2 : Option Addr} {n1 c1 n2 c2 : Nat} {w : World} (h : NU p w) :
    Calls Try.prog 16 #[.pointer p, .agg #[.int .i64 R1, .int .i64 C1, .slice A1 n1 c1], .agg #[.int .i64 R2, .int .i64 C2, .slice A2 n2 c2]] w fun e w' => e = .returned (.tuple #[M0, .int .i64 1]) ∧ Below w.heap.size w w' := by
  have H := Lib.hid h
  clear h
  obtain ⟨b2, h2⟩ : ∃ b, (C1 == R2) = b := ⟨_, rfl⟩
  go_enter Try.func16, Try.ntmps16
  go_wp2_with (first | (go_at_call 44; refine (mRefusesN (H.out.keep ?_) _ _).mono ?_; (focus ((first | ((first | (simp [go_sem]; done) | (simp [go_sem, ↓IntWalk.iteOmega]; done)); done) | (simp only [World.size_alloc]; omega) | ((repeat (first | assumption | exact Below.refl _ _ | with_reducible refine past_t _ ?_ | with_reducible refine below_a _ ?_ | with_reducible refine Below.drew ?_ | with_reducible refine below_d _ ?_ | (with_reducible refine Below.setCell ?_ (by (show _ ≤ _; repeat (first | exact Nat.le_refl _ | assumption | (omega; done) | with_reducible exact le_past (Nat.le_refl _) | with_reducible refine le_past ?_ | with_reducible refine le_al ?_ | with_reducible refine le_set ?_ | with_reducible refine le_p1 ?_))) _))); done)); done)); rintro e w' ⟨rfl, hb⟩; obtain ⟨z, rfl⟩ := ex_past hb; clear hb))
  refine bodyPost_ret (results_cm (T := 0) (x0 := .int .i64 0) (x1 := .int .i64 0) (x2 := .slice none 0 0) rfl rfl (by (first | (simp [go_sem]; done) | (simp [go_sem, ↓IntWalk.iteOmega]; done))) (by (first | (simp [go_sem]; done) | (simp [go_sem, ↓IntWalk.iteOmega]; done))) (by (first | (simp [go_sem]; done) | (simp [go_sem, ↓IntWalk.iteOmega]; done)))) rfl ?_
  exact ⟨rfl, by (repeat (first | assumption | exact Below.refl _ _ | with_reducible refine past_t _ ?_ | with_reducible refine below_a _ ?_ | with_reducible refine Below.drew ?_ | with_reducible refine below_d _ ?_ | (with_reducible refine Below.setCell ?_ (by (show _ ≤ _; repeat (first | exact Nat.le_refl _ | assumption | (omega; done) | with_reducible exact le_past (Nat.le_refl _) | with_reducible refine le_past ?_ | with_reducible refine le_al ?_ | with_reducible refine le_set ?_ | with_reducible refine le_p1 ?_))) _)))⟩
set_option maxHeartbeats 4000000 in
theorem mApplyNo {B : Nat} {i : Bool} {c : Int} {R1 C1 : Int} {A1 A2 : Option Addr} {n1 c1 n2 c2 : Nat} {w : World} (h : UA B i c w) (hc : 0 ≤ c ∧ c ≤ 4611686018427380000) (hno : ¬((n2 : Int) = C1 ∧ chk R1 C1 n1 = 0)) :
    Calls Try.prog 18 #[UP B, .agg #[.int .i64 R1, .int .i64 C1, .slice A1 n1 c1], .slice A2 n2 c2] w fun e w' => e = .returned (.tuple #[.slice none 0 0, .int .i64 3]) ∧ Below w.heap.size w w' := by
  have hBl := h.lt
  have H := Lib.hid h
  have hcw : 0 ≤ c ∧ c ≤ 4611686018427387904 := ⟨hc.1, by omega⟩
  clear h
  by_cases hf : (n2 : Int) = C1
  · have HN := Lib.hid (show ¬(chk R1 C1 n1 = 0) from fun x => hno ⟨hf, x⟩)
    have h3 : ((n2 : Int) == C1) = true := by simpa using hf
    clear hno hf
    go_enter Try.func18, Try.ntmps18
    go_wp2_with (first | (go_at_call 44; refine (mRef1 (H.out.keep ?_) hcw true (R1 := R1) (C1 := C1) (A1 := A1) (n1 := n1) (d1 := c1) ?_ ?_ ?_ ?_ 3 ?_).mono ?_; (focus ((first | ((first | (simp [go_sem]; done) | (simp [go_sem, ↓IntWalk.iteOmega]; done)); done) | (simp only [World.size_alloc]; omega) | ((repeat (first | assumption | exact Below.refl _ _ | with_reducible refine past_t _ ?_ | with_reducible refine below_a _ ?_ | with_reducible refine Below.drew ?_ | with_reducible refine below_d _ ?_ | (with_reducible refine Below.setCell ?_ (by (show _ ≤ _; repeat (first | exact Nat.le_refl _ | assumption | (omega; done) | with_reducible exact le_past (Nat.le_refl _) | with_reducible refine le_past ?_ | with_reducible refine le_al ?_ | with_reducible refine le_set ?_ | with_reducible refine le_p1 ?_))) _))); done) | (unfold rfs; rw [if_neg HN.out])); done)); (focus ((first | ((first | (simp [go_sem]; done) | (simp [go_sem, ↓IntWalk.iteOmega]; done)); done) | (simp only [World.size_alloc]; omega) | ((repeat (first | assumption | exact Below.refl _ _ | with_reducible refine past_t _ ?_ | with_reducible refine below_a _ ?_ | with_reducible refine Below.drew ?_ | with_reducible refine below_d _ ?_ | (with_reducible refine Below.setCell ?_ (by (show _ ≤ _; repeat (first | exact Nat.le_refl _ | assumption | (omega; done) | with_reducible exact le_past (Nat.le_refl _) | with_reducible refine le_past ?_ | with_reducible refine le_al ?_ | with_reducible refine le_set ?_ | with_reducible refine le_p1 ?_))) _))); done) | (unfold rfs; rw [if_neg HN.out])); done)); (focus ((first | ((first | (simp [go_sem]; done) | (simp [go_sem, ↓IntWalk.iteOmega]; done)); done) | (simp only [World.size_alloc]; omega) | ((repeat (first | assumption | exact Below.refl _ _ | with_reducible refine past_t _ ?_ | with_reducible refine below_a _ ?_ | with_reducible refine Below.drew ?_ | with_reducible refine below_d _ ?_ | (with_reducible refine Below.setCell ?_ (by (show _ ≤ _; repeat (first | exact Nat.le_refl _ | assumption | (omega; done) | with_reducible exact le_past (Nat.le_refl _) | with_reducible refine le_past ?_ | with_reducible refine le_al ?_ | with_reducible refine le_set ?_ | with_reducible refine le_p1 ?_))) _))); done) | (unfold rfs; rw [if_neg HN.out])); done)); (focus ((first | ((first | (simp [go_sem]; done) | (simp [go_sem, ↓IntWalk.iteOmega]; done)); done) | (simp only [World.size_alloc]; omega) | ((repeat (first | assumption | exact Below.refl _ _ | with_reducible refine past_t _ ?_ | with_reducible refine below_a _ ?_ | with_reducible refine Below.drew ?_ | with_reducible refine below_d _ ?_ | (with_reducible refine Below.setCell ?_ (by (show _ ≤ _; repeat (first | exact Nat.le_refl _ | assumption | (omega; done) | with_reducible exact le_past (Nat.le_refl _) | with_reducible refine le_past ?_ | with_reducible refine le_al ?_ | with_reducible refine le_set ?_ | with_reducible refine le_p1 ?_))) _))); done) | (unfold rfs; rw [if_neg HN.out])); done)); (focus ((first | ((first | (simp [go_sem]; done) | (simp [go_sem, ↓IntWalk.iteOmega]; done)); done) | (simp only [World.size_alloc]; omega) | ((repeat (first | assumption | exact Below.refl _ _ | with_reducible refine past_t _ ?_ | with_reducible refine below_a _ ?_ | with_reducible refine Below.drew ?_ | with_reducible refine below_d _ ?_ | (with_reducible refine Below.setCell ?_ (by (show _ ≤ _; repeat (first | exact Nat.le_refl _ | assumption | (omega; done) | with_reducible exact le_past (Nat.le_refl _) | with_reducible refine le_past ?_ | with_reducible refine le_al ?_ | with_reducible refine le_set ?_ | with_reducible refine le_p1 ?_))) _))); done) | (unfold rfs; rw [if_neg HN.out])); done)); (focus ((first | ((first | (simp [go_sem]; done) | (simp [go_sem, ↓IntWalk.iteOmega]; done)); done) | (simp only [World.size_alloc]; omega) | ((repeat (first | assumption | exact Below.refl _ _ | with_reducible refine past_t _ ?_ | with_reducible refine below_a _ ?_ | with_reducible refine Below.drew ?_ | with_reducible refine below_d _ ?_ | (with_reducible refine Below.setCell ?_ (by (show _ ≤ _; repeat (first | exact Nat.le_refl _ | assumption | (omega; done) | with_reducible exact le_past (Nat.le_refl _) | with_reducible refine le_past ?_ | with_reducible refine le_al ?_ | with_reducible refine le_set ?_ | with_reducible refine le_p1 ?_))) _))); done) | (unfold rfs; rw [if_neg HN.out])); done)); rintro e w' ⟨rfl, hb⟩; obtain ⟨z, rfl⟩ := ex_past hb; clear hb))
    go_ret2
    exact ⟨rfl, by (repeat (first | assumption | exact Below.refl _ _ | with_reducible refine past_t _ ?_ | with_reducible refine below_a _ ?_ | with_reducible refine Below.drew ?_ | with_reducible refine below_d _ ?_ | (with_reducible refine Below.setCell ?_ (by (show _ ≤ _; repeat (first | exact Nat.le_refl _ | assumption | (omega; done) | with_reducible exact le_past (Nat.le_refl _) | with_reducible refine le_past ?_ | with_reducible refine le_al ?_ | with_reducible refine le_set ?_ | with_reducible refine le_p1 ?_))) _)))⟩
  · have h3 : ((n2 : Int) == C1) = false := by simpa using hf
    clear hno hf
    go_enter Try.func18, Try.ntmps18
    go_wp2_with (first | (go_at_call 44; refine (mRef1 (H.out.keep ?_) hcw false (R1 := R1) (C1 := C1) (A1 := A1) (n1 := n1) (d1 := c1) ?_ ?_ ?_ ?_ 3 ?_).mono ?_; (focus ((first | ((first | (simp [go_sem]; done) | (simp [go_sem, ↓IntWalk.iteOmega]; done)); done) | (simp only [World.size_alloc]; omega) | ((repeat (first | assumption | exact Below.refl _ _ | with_reducible refine past_t _ ?_ | with_reducible refine below_a _ ?_ | with_reducible refine Below.drew ?_ | with_reducible refine below_d _ ?_ | (with_reducible refine Below.setCell ?_ (by (show _ ≤ _; repeat (first | exact Nat.le_refl _ | assumption | (omega; done) | with_reducible exact le_past (Nat.le_refl _) | with_reducible refine le_past ?_ | with_reducible refine le_al ?_ | with_reducible refine le_set ?_ | with_reducible refine le_p1 ?_))) _))); done) | (unfold rfs; split; rfl; rfl)); done)); (focus ((first | ((first | (simp [go_sem]; done) | (simp [go_sem, ↓IntWalk.iteOmega]; done)); done) | (simp only [World.size_alloc]; omega) | ((repeat (first | assumption | exact Below.refl _ _ | with_reducible refine past_t _ ?_ | with_reducible refine below_a _ ?_ | with_reducible refine Below.drew ?_ | with_reducible refine below_d _ ?_ | (with_reducible refine Below.setCell ?_ (by (show _ ≤ _; repeat (first | exact Nat.le_refl _ | assumption | (omega; done) | with_reducible exact le_past (Nat.le_refl _) | with_reducible refine le_past ?_ | with_reducible refine le_al ?_ | with_reducible refine le_set ?_ | with_reducible refine le_p1 ?_))) _))); done) | (unfold rfs; split; rfl; rfl)); done)); (focus ((first | ((first | (simp [go_sem]; done) | (simp [go_sem, ↓IntWalk.iteOmega]; done)); done) | (simp only [World.size_alloc]; omega) | ((repeat (first | assumption | exact Below.refl _ _ | with_reducible refine past_t _ ?_ | with_reducible refine below_a _ ?_ | with_reducible refine Below.drew ?_ | with_reducible refine below_d _ ?_ | (with_reducible refine Below.setCell ?_ (by (show _ ≤ _; repeat (first | exact Nat.le_refl _ | assumption | (omega; done) | with_reducible exact le_past (Nat.le_refl _) | with_reducible refine le_past ?_ | with_reducible refine le_al ?_ | with_reducible refine le_set ?_ | with_reducible refine le_p1 ?_))) _))); done) | (unfold rfs; split; rfl; rfl)); done)); (focus ((first | ((first | (simp [go_sem]; done) | (simp [go_sem, ↓IntWalk.iteOmega]; done)); done) | (simp only [World.size_alloc]; omega) | ((repeat (first | assumption | exact Below.refl _ _ | with_reducible refine past_t _ ?_ | with_reducible refine below_a _ ?_ | with_reducible refine Below.drew ?_ | with_reducible refine below_d _ ?_ | (with_reducible refine Below.setCell ?_ (by (show _ ≤ _; repeat (first | exact Nat.le_refl _ | assumption | (omega; done) | with_reducible exact le_past (Nat.le_refl _) | with_reducible refine le_past ?_ | with_reducible refine le_al ?_ | with_reducible refine le_set ?_ | with_reducible refine le_p1 ?_))) _))); done) | (unfold rfs; split; rfl; rfl)); done)); (focus ((first | ((first | (simp [go_sem]; done) | (simp [go_sem, ↓IntWalk.iteOmega]; done)); done) | (simp only [World.size_alloc]; omega) | ((repeat (first | assumption | exact Below.refl _ _ | with_reducible refine past_t _ ?_ | with_reducible refine below_a _ ?_ | with_reducible refine Below.drew ?_ | with_reducible refine below_d _ ?_ | (with_reducible refine Below.setCell ?_ (by (show _ ≤ _; repeat (first | exact Nat.le_refl _ | assumption | (omega; done) | with_reducible exact le_past (Nat.le_refl _) | with_reducible refine le_past ?_ | with_reducible refine le_al ?_ | with_reducible refine le_set ?_ | with_reducible refine le_p1 ?_))) _))); done) | (unfold rfs; split; rfl; rfl)); done)); (focus ((first | ((first | (simp [go_sem]; done) | (simp [go_sem, ↓IntWalk.iteOmega]; done)); done) | (simp only [World.size_alloc]; omega) | ((repeat (first | assumption | exact Below.refl _ _ | with_reducible refine past_t _ ?_ | with_reducible refine below_a _ ?_ | with_reducible refine Below.drew ?_ | with_reducible refine below_d _ ?_ | (with_reducible refine Below.setCell ?_ (by (show _ ≤ _; repeat (first | exact Nat.le_refl _ | assumption | (omega; done) | with_reducible exact le_past (Nat.le_refl _) | with_reducible refine le_past ?_ | with_reducible refine le_al ?_ | with_reducible refine le_set ?_ | with_reducible refine le_p1 ?_))) _))); done) | (unfold rfs; split; rfl; rfl)); done)); rintro e w' ⟨rfl, hb⟩; obtain ⟨z, rfl⟩ := ex_past hb; clear hb))
    go_ret2
    exact ⟨rfl, by (repeat (first | assumption | exact Below.refl _ _ | with_reducible refine past_t _ ?_ | with_reducible refine below_a _ ?_ | with_reducible refine Below.drew ?_ | with_reducible refine below_d _ ?_ | (with_reducible refine Below.setCell ?_ (by (show _ ≤ _; repeat (first | exact Nat.le_refl _ | assumption | (omega; done) | with_reducible exact le_past (Nat.le_refl _) | with_reducible refine le_past ?_ | with_reducible refine le_al ?_ | with_reducible refine le_set ?_ | with_reducible refine le_p1 ?_))) _)))⟩
set_option maxHeartbeats 4000000 in
theorem mApplyN {p : Option Addr} {R1 C1 : Int} {A1 A2 : Option Addr} {n1 c1 n2 c2 : Nat} {w : World} (h : NU p w) :
    Calls Try.prog 18 #[.pointer p, .agg #[.int .i64 R1, .int .i64 C1, .slice A1 n1 c1], .slice A2 n2 c2] w fun e w' => e = .returned (.tuple #[.slice none 0 0, .int .i64 1]) ∧ Below w.heap.size w w' := by
  have H := Lib.hid h
  clear h
  obtain ⟨b2, h2⟩ : ∃ b, ((n2 : Int) == C1) = b := ⟨_, rfl⟩
  go_enter Try.func18, Try.ntmps18
  go_wp2_with (first | (go_at_call 44; refine (mRefusesN (H.out.keep ?_) _ _).mono ?_; (focus ((first | ((first | (simp [go_sem]; done) | (simp [go_sem, ↓IntWalk.iteOmega]; done)); done) | (simp only [World.size_alloc]; omega) | ((repeat (first | assumption | exact Below.refl _ _ | with_reducible refine past_t _ ?_ | with_reducible refine below_a _ ?_ | with_reducible refine Below.drew ?_ | with_reducible refine below_d _ ?_ | (with_reducible refine Below.setCell ?_ (by (show _ ≤ _; repeat (first | exact Nat.le_refl _ | assumption | (omega; done) | with_reducible exact le_past (Nat.le_refl _) | with_reducible refine le_past ?_ | with_reducible refine le_al ?_ | with_reducible refine le_set ?_ | with_reducible refine le_p1 ?_))) _))); done)); done)); rintro e w' ⟨rfl, hb⟩; obtain ⟨z, rfl⟩ := ex_past hb; clear hb))
  go_ret2
  exact ⟨rfl, by (repeat (first | assumption | exact Below.refl _ _ | with_reducible refine past_t _ ?_ | with_reducible refine below_a _ ?_ | with_reducible refine Below.drew ?_ | with_reducible refine below_d _ ?_ | (with_reducible refine Below.setCell ?_ (by (show _ ≤ _; repeat (first | exact Nat.le_refl _ | assumption | (omega; done) | with_reducible exact le_past (Nat.le_refl _) | with_reducible refine le_past ?_ | with_reducible refine le_al ?_ | with_reducible refine le_set ?_ | with_reducible refine le_p1 ?_))) _)))⟩
end Go.Proofs.Ytlhadociaekkhaa
/- Package mat: Apply. -/
namespace Go.Proofs.Ytlhadociaekkhaa
set_option linter.unusedVariables false
set_option maxRecDepth 100000
open Go.RowKit Go.Shelf
/-- One row by a vector. -/
def gA (m x : List Int) (C : Nat) (j : Bool) (r : Nat) : Int × Bool := runD (0, j) (rowL m C r) x C
set_option maxHeartbeats 4000000 in
theorem mApply {B R C : Nat} {i : Bool} {c : Int} {v1 v2 : Value} {a x : List Int} {w : World} (h : UA B i c w) (hc : 0 ≤ c ∧ c ≤ 4611686018427380000)
    (h1 : MS w B v1 a) (h2 : SL w B v2 x) (hR : 1 ≤ R ∧ R ≤ 12) (hC : 1 ≤ C ∧ C ≤ 12) (hza : a.length = R * C) (hzx : x.length = C) (hia : AllI a) (hix : AllI x) :
    Calls Try.prog 18 #[UP B, .agg #[.int .i64 R, .int .i64 C, v1], v2] w fun e w' =>
      ∃ A cap, e = .returned (.tuple #[.slice A R cap, .int .i64 0]) ∧ OwnI w w' (.slice A R cap) (mapN (gA a x C) i R).1 ∧ Below w.heap.size (put B (mapN (gA a x C) i R).2 (c + 2 * (C : Int) * (R : Nat)) w) w' := by
  have hck1 : chk R C (R * C) = 0 := by unfold chk; rw [if_pos ⟨by omega, by omega, by simp⟩]
  have hN : R * C ≤ 144 := Nat.mul_le_mul hR.2 hC.2
  have hal : a.length ≤ 144 := Nat.le_trans (Nat.le_of_eq hza) hN
  have hBl := h.lt
  have H := Lib.hid h
  have H1 := Lib.hid h1
  have H2 := Lib.hid h2
  have HC1 := Lib.hid hck1
  obtain ⟨A1, c1, rfl, hr1, hn1⟩ := h1
  obtain ⟨p1, o1, rfl, _, _⟩ := hr1.at_ (Nat.lt_of_lt_of_le Nat.zero_lt_one (Nat.le_trans (Nat.mul_le_mul hR.1 hC.1) (Nat.le_of_eq hza.symm)))
  have hpB := hn1 p1 o1 rfl
  have hcap := hr1.cap
  obtain ⟨A2, c2, rfl, hl2, hr2⟩ := h2
  have HZA := Lib.hid hza
  have HZX := Lib.hid hzx
  have HAR := Lib.hid hr1
  have hbe : ((x.length : Int) == (C : Int)) = true := by rw [hzx]; simp
  have hcw : 0 ≤ c ∧ c ≤ 4611686018427387904 := ⟨hc.1, by omega⟩
  clear h hr1 hn1 hr2 hck1 hza hzx hN
  go_enter Try.func18, Try.ntmps18
  go_upto_region 5 with (first | (go_at_call 44; refine (mRef1 (H.out.keep ?_) hcw true (R1 := R) (C1 := C) (A1 := some ⟨p1, o1, none⟩) (n1 := a.length) (d1 := c1) ?_ ?_ ?_ ?_ 0 ?_).mono ?_; (focus ((first | ((first | (simp [go_sem]; done) | (simp [go_sem, ↓IntWalk.iteOmega]; done)); done) | (simp only [World.size_alloc]; omega) | ((repeat (first | assumption | exact Below.refl _ _ | with_reducible refine past_t _ ?_ | with_reducible refine below_a _ ?_ | with_reducible refine Below.drew ?_ | with_reducible refine below_d _ ?_ | (with_reducible refine Below.setCell ?_ (by (show _ ≤ _; repeat (first | exact Nat.le_refl _ | assumption | (omega; done) | with_reducible exact le_past (Nat.le_refl _) | with_reducible refine le_past ?_ | with_reducible refine le_al ?_ | with_reducible refine le_set ?_ | with_reducible refine le_p1 ?_))) _))); done) | (unfold rfs; rw [HZA.out, if_pos HC1.out]; rfl)); done)); (focus ((first | ((first | (simp [go_sem]; done) | (simp [go_sem, ↓IntWalk.iteOmega]; done)); done) | (simp only [World.size_alloc]; omega) | ((repeat (first | assumption | exact Below.refl _ _ | with_reducible refine past_t _ ?_ | with_reducible refine below_a _ ?_ | with_reducible refine Below.drew ?_ | with_reducible refine below_d _ ?_ | (with_reducible refine Below.setCell ?_ (by (show _ ≤ _; repeat (first | exact Nat.le_refl _ | assumption | (omega; done) | with_reducible exact le_past (Nat.le_refl _) | with_reducible refine le_past ?_ | with_reducible refine le_al ?_ | with_reducible refine le_set ?_ | with_reducible refine le_p1 ?_))) _))); done) | (unfold rfs; rw [HZA.out, if_pos HC1.out]; rfl)); done)); (focus ((first | ((first | (simp [go_sem]; done) | (simp [go_sem, ↓IntWalk.iteOmega]; done)); done) | (simp only [World.size_alloc]; omega) | ((repeat (first | assumption | exact Below.refl _ _ | with_reducible refine past_t _ ?_ | with_reducible refine below_a _ ?_ | with_reducible refine Below.drew ?_ | with_reducible refine below_d _ ?_ | (with_reducible refine Below.setCell ?_ (by (show _ ≤ _; repeat (first | exact Nat.le_refl _ | assumption | (omega; done) | with_reducible exact le_past (Nat.le_refl _) | with_reducible refine le_past ?_ | with_reducible refine le_al ?_ | with_reducible refine le_set ?_ | with_reducible refine le_p1 ?_))) _))); done) | (unfold rfs; rw [HZA.out, if_pos HC1.out]; rfl)); done)); (focus ((first | ((first | (simp [go_sem]; done) | (simp [go_sem, ↓IntWalk.iteOmega]; done)); done) | (simp only [World.size_alloc]; omega) | ((repeat (first | assumption | exact Below.refl _ _ | with_reducible refine past_t _ ?_ | with_reducible refine below_a _ ?_ | with_reducible refine Below.drew ?_ | with_reducible refine below_d _ ?_ | (with_reducible refine Below.setCell ?_ (by (show _ ≤ _; repeat (first | exact Nat.le_refl _ | assumption | (omega; done) | with_reducible exact le_past (Nat.le_refl _) | with_reducible refine le_past ?_ | with_reducible refine le_al ?_ | with_reducible refine le_set ?_ | with_reducible refine le_p1 ?_))) _))); done) | (unfold rfs; rw [HZA.out, if_pos HC1.out]; rfl)); done)); (focus ((first | ((first | (simp [go_sem]; done) | (simp [go_sem, ↓IntWalk.iteOmega]; done)); done) | (simp only [World.size_alloc]; omega) | ((repeat (first | assumption | exact Below.refl _ _ | with_reducible refine past_t _ ?_ | with_reducible refine below_a _ ?_ | with_reducible refine Below.drew ?_ | with_reducible refine below_d _ ?_ | (with_reducible refine Below.setCell ?_ (by (show _ ≤ _; repeat (first | exact Nat.le_refl _ | assumption | (omega; done) | with_reducible exact le_past (Nat.le_refl _) | with_reducible refine le_past ?_ | with_reducible refine le_al ?_ | with_reducible refine le_set ?_ | with_reducible refine le_p1 ?_))) _))); done) | (unfold rfs; rw [HZA.out, if_pos HC1.out]; rfl)); done)); (focus ((first | ((first | (simp [go_sem]; done) | (simp [go_sem, ↓IntWalk.iteOmega]; done)); done) | (simp only [World.size_alloc]; omega) | ((repeat (first | assumption | exact Below.refl _ _ | with_reducible refine past_t _ ?_ | with_reducible refine below_a _ ?_ | with_reducible refine Below.drew ?_ | with_reducible refine below_d _ ?_ | (with_reducible refine Below.setCell ?_ (by (show _ ≤ _; repeat (first | exact Nat.le_refl _ | assumption | (omega; done) | with_reducible exact le_past (Nat.le_refl _) | with_reducible refine le_past ?_ | with_reducible refine le_al ?_ | with_reducible refine le_set ?_ | with_reducible refine le_p1 ?_))) _))); done) | (unfold rfs; rw [HZA.out, if_pos HC1.out]; rfl)); done)); rintro e w' ⟨rfl, hb⟩; obtain ⟨z, rfl⟩ := ex_past hb; clear hb))
  refine wp_gen (fun W hW => ?_)
  have f0 : Below w.heap.size w W := by rw [hW]; (repeat (first | assumption | exact Below.refl _ _ | with_reducible refine past_t _ ?_ | with_reducible refine below_a _ ?_ | with_reducible refine Below.drew ?_ | with_reducible refine below_d _ ?_ | (with_reducible refine Below.setCell ?_ (by (show _ ≤ _; repeat (first | exact Nat.le_refl _ | assumption | (omega; done) | with_reducible exact le_past (Nat.le_refl _) | with_reducible refine le_past ?_ | with_reducible refine le_al ?_ | with_reducible refine le_set ?_ | with_reducible refine le_p1 ?_))) _)))
  have f1 : W.cell? ⟨w.heap.size, 0, none⟩ = some (.int .i64 R) := by rw [hW]; (first | (simp [go_sem]; done) | (simp [go_sem, ↓IntWalk.iteOmega]; done))
  have f2 : W.cell? ⟨w.heap.size, 1, none⟩ = some (.int .i64 C) := by rw [hW]; (first | (simp [go_sem]; done) | (simp [go_sem, ↓IntWalk.iteOmega]; done))
  have f3 : W.cell? ⟨w.heap.size, 2, none⟩ = some (.slice (some ⟨p1, o1, none⟩) a.length c1) := by rw [hW]; (first | (simp [go_sem]; done) | (simp [go_sem, ↓IntWalk.iteOmega]; done))
  have hBW : B < W.heap.size := Nat.lt_of_lt_of_le hBl f0.size
  have hws := f0.size
  clear hW
  have HU := Lib.hid (H.out.keep f0)
  have HS := Lib.hid (HAR.out.keep f0)
  have HX := Lib.hid (H2.out.keep f0)
  have hpl := put_self HU.out
  have HPL := Lib.hid hpl
  clear hpl
  go_wp2_with fail
  go_loopg [9, 27] R (fun g s9 s27 wr => ∃ (k : Nat) (A' : Option Addr) (cp : Nat), k ≤ R ∧ R ≤ g + k ∧ s27 = .int .i64 k ∧ s9 = .slice A' k cp ∧ OwnI W wr (.slice A' k cp) (mapN (gA a x C) i k).1 ∧ Below (put B (mapN (gA a x C) i k).2 (c + 2 * (C : Int) * (k : Nat)) W).heap.size (put B (mapN (gA a x C) i k).2 (c + 2 * (C : Int) * (k : Nat)) W) wr)
  case atStart =>
    refine ⟨0, none, 0, by omega, by omega, rfl, rfl, OwnK.nil _ _ _ _, ?_⟩
    have e0 : mapN (gA a x C) i 0 = ([], i) := rfl
    rw [e0]
    simp only [Int.natCast_zero, Int.mul_zero, Int.add_zero]
    rw [HPL.out]
    exact Below.refl _ _
  case round =>
    obtain ⟨k, A', cp, hk, hg, rfl, rfl, hown, hbel⟩ := hrel
    have hml := mapN_len (gA a x C) i k
    have hnx : mapN (gA a x C) i (k + 1) = ((mapN (gA a x C) i k).1 ++ [(gA a x C (mapN (gA a x C) i k).2 k).1], (gA a x C (mapN (gA a x C) i k).2 k).2) := rfl
    obtain ⟨P, hP⟩ : ∃ P, mapN (gA a x C) i k = P := ⟨_, rfl⟩
    rw [hP] at hown hbel hnx hml
    obtain ⟨L, f⟩ := P
    simp only at hown hbel hnx hml
    have hcc : 0 ≤ 2 * (C : Int) * (k : Int) ∧ 2 * (C : Int) * (k : Int) ≤ 24 * 12 := ⟨Int.mul_nonneg (by omega) (by omega), Int.mul_le_mul (by omega) (by omega) (by omega) (by omega)⟩
    have hcn : 2 * (C : Int) * ((k + 1 : Nat) : Int) = 2 * (C : Int) * (k : Int) + 2 * (C : Int) := by rw [Int.natCast_succ, Int.mul_add, Int.mul_one]
    generalize hcq : 2 * (C : Int) * (k : Int) = cq at *
    have HCQ := Lib.hid hcq
    clear hcq
    by_cases hlt : k < R
    · have hua := (HU.out.put f (c + cq)).keep hbel
      have c1' := cell_keep ((put_cell B f (c + cq) W ⟨w.heap.size, 1, none⟩ (by show w.heap.size ≠ B; omega)).trans f2) hbel
      have c2' := cell_keep ((put_cell B f (c + cq) W ⟨w.heap.size, 2, none⟩ (by show w.heap.size ≠ B; omega)).trans f3) hbel
      have hle : k * C + C ≤ a.length := by
        have h9 : (k + 1) * C ≤ R * C := Nat.mul_le_mul_right _ hlt
        rw [Nat.succ_mul] at h9
        rw [HZA.out]
        exact h9
      have l1 : (rowL a C k).length = C := by unfold rowL; simp; clear hcc hcn; omega
      have hst := (uDot hua _ _ _ _ (hia.row C k) hix (row_sl ((HS.out.putN (fun b o e => by cases e; exact hpB) f (c + cq)).keep hbel) hpB hle (by clear hle; omega)) ((HX.out.put f (c + cq)).keep hbel) (by rw [l1]; exact HZX.out.symm) (by rw [l1]; clear hle; omega)).mono
        (fun e w' h => (⟨h.1, (ownK_put hown hBW _ _).keep h.2, next_put hbel (Below.refl _ _) h.2⟩ : _ ∧ OwnI W w' (.slice A' k cp) L ∧ Below (put B (runD (0, f) (rowL a C k) x (rowL a C k).length).2 (c + cq + 2 * ((rowL a C k).length : Nat)) W).heap.size (put B (runD (0, f) (rowL a C k) x (rowL a C k).length).2 (c + cq + 2 * ((rowL a C k).length : Nat)) W) w'))
      rw [l1] at hst
      have b1 : k * C + C ≤ 144 := Nat.le_trans hle hal
      have w1v : Value.int .i64 (wrap64 ((k : Int) * (C : Int))) = Value.int .i64 ((k * C : Nat) : Int) := by rw [wrap_mul k C (Nat.le_trans (Nat.le_add_right _ C) (Nat.le_trans b1 (by decide)))]
      have w2v : Value.int .i64 (wrap64 (((k : Int) + 1) * (C : Int))) = Value.int .i64 ((k * C + C : Nat) : Int) := by rw [wrap_mul1 k C (Nat.le_trans b1 (by decide))]
      have hgx : gA a x C f k = runD (0, f) (rowL a C k) x C := rfl
      rw [hgx] at hnx
      generalize runD (0, f) (rowL a C k) x C = y at *
      obtain ⟨y1, y2⟩ := y
      simp only at hnx hst
      generalize k * C = r1 at *
      simp only [Nat.add_sub_cancel_left] at hst
      have HST := Lib.hid hst
      have HNX := Lib.hid hnx
      have HCN := Lib.hid hcn
      have hLl : L.length ≤ 1000000 := by omega
      have HML := Lib.hid hml
      clear hst hnx hcn hml hua hown hbel hP hgx l1
      go_wp2_with (first | (go_at_call 47; refine HST.out.mono ?_; rintro e w2 ⟨rfl, ho2, hb2⟩) | (at_builtin; refine append_i (by rfl) _ _ (by rfl) (put B y2 (c + cq + 2 * (C : Int)) W) (by rfl) (by rfl) ?_ ((ho2.base (by rw [put_size]; exact Nat.le_refl _)).keep ?_) (RS.lit .i64 _ [y1] _ _ ?_ 1 ?_ ?_ 1 ?_ _ ?_) ?_ ?_; (focus ((first | ((repeat (first | assumption | exact Below.refl _ _ | with_reducible refine past_t _ ?_ | with_reducible refine below_a _ ?_ | with_reducible refine Below.drew ?_ | with_reducible refine below_d _ ?_ | (with_reducible refine Below.setCell ?_ (by (show _ ≤ _; repeat (first | exact Nat.le_refl _ | assumption | (omega; done) | with_reducible exact le_past (Nat.le_refl _) | with_reducible refine le_past ?_ | with_reducible refine le_al ?_ | with_reducible refine le_set ?_ | with_reducible refine le_p1 ?_))) _))); done) | (with_reducible rfl; done) | omega | (rfl; done) | (simp; done) | (simp [go_sem]; done) | (simp; omega) | (simp [go_sem]; omega)); done)); (focus ((first | ((repeat (first | assumption | exact Below.refl _ _ | with_reducible refine past_t _ ?_ | with_reducible refine below_a _ ?_ | with_reducible refine Below.drew ?_ | with_reducible refine below_d _ ?_ | (with_reducible refine Below.setCell ?_ (by (show _ ≤ _; repeat (first | exact Nat.le_refl _ | assumption | (omega; done) | with_reducible exact le_past (Nat.le_refl _) | with_reducible refine le_past ?_ | with_reducible refine le_al ?_ | with_reducible refine le_set ?_ | with_reducible refine le_p1 ?_))) _))); done) | (with_reducible rfl; done) | omega | (rfl; done) | (simp; done) | (simp [go_sem]; done) | (simp; omega) | (simp [go_sem]; omega)); done)); (focus ((first | ((repeat (first | assumption | exact Below.refl _ _ | with_reducible refine past_t _ ?_ | with_reducible refine below_a _ ?_ | with_reducible refine Below.drew ?_ | with_reducible refine below_d _ ?_ | (with_reducible refine Below.setCell ?_ (by (show _ ≤ _; repeat (first | exact Nat.le_refl _ | assumption | (omega; done) | with_reducible exact le_past (Nat.le_refl _) | with_reducible refine le_past ?_ | with_reducible refine le_al ?_ | with_reducible refine le_set ?_ | with_reducible refine le_p1 ?_))) _))); done) | (with_reducible rfl; done) | omega | (rfl; done) | (simp; done) | (simp [go_sem]; done) | (simp; omega) | (simp [go_sem]; omega)); done)); (focus ((first | ((repeat (first | assumption | exact Below.refl _ _ | with_reducible refine past_t _ ?_ | with_reducible refine below_a _ ?_ | with_reducible refine Below.drew ?_ | with_reducible refine below_d _ ?_ | (with_reducible refine Below.setCell ?_ (by (show _ ≤ _; repeat (first | exact Nat.le_refl _ | assumption | (omega; done) | with_reducible exact le_past (Nat.le_refl _) | with_reducible refine le_past ?_ | with_reducible refine le_al ?_ | with_reducible refine le_set ?_ | with_reducible refine le_p1 ?_))) _))); done) | (with_reducible rfl; done) | omega | (rfl; done) | (simp; done) | (simp [go_sem]; done) | (simp; omega) | (simp [go_sem]; omega)); done)); (focus ((first | ((repeat (first | assumption | exact Below.refl _ _ | with_reducible refine past_t _ ?_ | with_reducible refine below_a _ ?_ | with_reducible refine Below.drew ?_ | with_reducible refine below_d _ ?_ | (with_reducible refine Below.setCell ?_ (by (show _ ≤ _; repeat (first | exact Nat.le_refl _ | assumption | (omega; done) | with_reducible exact le_past (Nat.le_refl _) | with_reducible refine le_past ?_ | with_reducible refine le_al ?_ | with_reducible refine le_set ?_ | with_reducible refine le_p1 ?_))) _))); done) | (with_reducible rfl; done) | omega | (rfl; done) | (simp; done) | (simp [go_sem]; done) | (simp; omega) | (simp [go_sem]; omega)); done)); (focus ((first | ((repeat (first | assumption | exact Below.refl _ _ | with_reducible refine past_t _ ?_ | with_reducible refine below_a _ ?_ | with_reducible refine Below.drew ?_ | with_reducible refine below_d _ ?_ | (with_reducible refine Below.setCell ?_ (by (show _ ≤ _; repeat (first | exact Nat.le_refl _ | assumption | (omega; done) | with_reducible exact le_past (Nat.le_refl _) | with_reducible refine le_past ?_ | with_reducible refine le_al ?_ | with_reducible refine le_set ?_ | with_reducible refine le_p1 ?_))) _))); done) | (with_reducible rfl; done) | omega | (rfl; done) | (simp; done) | (simp [go_sem]; done) | (simp; omega) | (simp [go_sem]; omega)); done)); (focus ((first | ((repeat (first | assumption | exact Below.refl _ _ | with_reducible refine past_t _ ?_ | with_reducible refine below_a _ ?_ | with_reducible refine Below.drew ?_ | with_reducible refine below_d _ ?_ | (with_reducible refine Below.setCell ?_ (by (show _ ≤ _; repeat (first | exact Nat.le_refl _ | assumption | (omega; done) | with_reducible exact le_past (Nat.le_refl _) | with_reducible refine le_past ?_ | with_reducible refine le_al ?_ | with_reducible refine le_set ?_ | with_reducible refine le_p1 ?_))) _))); done) | (with_reducible rfl; done) | omega | (rfl; done) | (simp; done) | (simp [go_sem]; done) | (simp; omega) | (simp [go_sem]; omega)); done)); (focus ((first | ((repeat (first | assumption | exact Below.refl _ _ | with_reducible refine past_t _ ?_ | with_reducible refine below_a _ ?_ | with_reducible refine Below.drew ?_ | with_reducible refine below_d _ ?_ | (with_reducible refine Below.setCell ?_ (by (show _ ≤ _; repeat (first | exact Nat.le_refl _ | assumption | (omega; done) | with_reducible exact le_past (Nat.le_refl _) | with_reducible refine le_past ?_ | with_reducible refine le_al ?_ | with_reducible refine le_set ?_ | with_reducible refine le_p1 ?_))) _))); done) | (with_reducible rfl; done) | omega | (rfl; done) | (simp; done) | (simp [go_sem]; done) | (simp; omega) | (simp [go_sem]; omega)); done)); intro A3 c3 z3 ho3; (try simp only [List.length_cons, List.length_nil, Nat.zero_add] at ho3 ⊢)))
      go_roundg (R - (k + 1))
      case measure => omega
      case rel =>
        have hml := HML.out
        refine ⟨k + 1, A3, c3, by omega, by omega, by go_num, by rw [hml], ?_, ?_⟩
        · rw [HNX.out]
          have := ho3.base (U := W) (by rw [put_size]; exact Nat.le_refl _)
          rw [hml] at this
          exact this
        · rw [HNX.out, HCN.out, ← Int.add_assoc]
          exact past_below _ _
    · obtain rfl : k = R := by omega
      have HO := Lib.hid hown
      have HB := Lib.hid hbel
      have HP := Lib.hid hP
      clear hown hbel hP hnx hml hcn
      go_wp2_with fail
      go_ret2
      rw [HP.out]
      refine ⟨_, _, rfl, HO.out.base (U := w) hws, ?_⟩
      rw [HCQ.out]
      exact (below_put f0 B _ _).trans (HB.out.mono (by rw [put_size]; exact hws))
end Go.Proofs.Ytlhadociaekkhaa
