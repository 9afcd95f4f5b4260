/- A slice of ints that a call makes by append, in worlds past V. -/
import Derived.Test.YtlhadociaekkhaaQUnit2
import Derived.Laws.AppendOwn
import Derived.OpenShut
namespace Go.Proofs.Ytlhadociaekkhaa
set_option linter.unusedVariables false
open Go.RowKit
theorem infoInt : (Try.prog.info? 3).map (fun i => (i.zero, i.size, i.bytes)) = some (some (.int .i64 0), 1, 8) := by kernel_rfl
abbrev iv (zs : List Int) : List Value := zs.map (Value.int .i64)
abbrev Own (V w : World) (v : Value) (zs : List Int) : Prop := w.ownsRow V.heap.size 3 1 v zs.length (iv zs)
theorem Own.nil (V w : World) : Own V w (.slice none 0 0) [] := ⟨by simp, .inl ⟨rfl, rfl⟩⟩
theorem append_int {ops : Array Oper} {rest : List Oper} {o : Oper} {a : Act} {Q : Exit → Act → World → Prop} (hgd : o.guard = none) (s x : Operand)
    (ho : o.op = .call { callee := .builtin .append, args := #[s, x], argTypes := #[22, 22] }) (V : World) {W : World} (hV : Below V.heap.size V W)
    (v : Value) (zs : List Int) (hs : a.eval s = v) (hown : Own V W v zs) (b c : Nat) (y : Int) (hx : a.eval x = .slice (some ⟨b, 0, none⟩) 1 c) (hy : W.cell? ⟨b, 0, none⟩ = some (.int .i64 y)) (hn : zs.length ≤ 1000000)
    (h : ∀ v' z, Own V (past V z) v' (zs ++ [y]) → wpList Try.prog ops Q rest (a.put o.dst v') (past V z)) : wpList Try.prog ops Q (o :: rest) a W := by
  obtain ⟨i0, hi, hz0, hz1, hz2⟩ := info_parts infoInt
  refine wpList_append_own W hgd s x 22 ho V.heap.size 3 i0 (.int .i64 0) 1 8 Try.underlying22 hi hz0 hz1 hz2 rfl (by decide) v zs.length (iv zs) hs hown ⟨b, 0, none⟩ 1 c [.int .i64 y] hx rfl ?_ ?_ ?_ ?_ hV.size ?_
  · intro j u hj
    have : j = 0 := by
      rcases j with _ | j
      · rfl
      · simp at hj
    subst this
    simp at hj; subst hj; simpa [Addr.add] using hy
  · intro u hu; simp at hu; subst hu; rfl
  · unfold maxLen; omega
  · omega
  · intro v' w' hown' hg _
    have hB : Below V.heap.size V w' := hV.grown hg hV.size fun k hk => by
      obtain ⟨_, h1 | ⟨g, cap, cur, hv, hgb, _⟩⟩ := hown
      · rw [h1.1] at hk; cases hk
      · rw [hv] at hk; simp only [Value.ownBlock, Option.some.injEq] at hk; omega
    have e := past_of hB
    rw [e]
    refine h v' w' ?_
    rw [← e]
    have : iv zs ++ [Value.int .i64 y] = iv (zs ++ [y]) := by simp
    rw [this] at hown'
    unfold Own
    rw [List.length_append]; exact hown'
/-- It reads as a slice, beside any block that was there before. -/
theorem Own.sl {V w : World} {v : Value} {zs : List Int} (h : Own V w v zs) (B : Nat) (hB : B < V.heap.size) (hl : zs.length ≤ 4611686018427387904) : SL w B v zs := by
  obtain ⟨h0, ⟨rfl, h2⟩ | ⟨g, cap, cur, rfl, hg, hh, h3, h4, h5, h6⟩⟩ := h
  · obtain rfl : zs = [] := List.length_eq_zero_iff.1 h2
    exact SL.nil _ _
  · refine ⟨_, cap, rfl, hl, fun _ => ⟨g, 0, rfl, by omega, ?_, fun k hk => ?_⟩⟩
    · exact (Array.getElem?_eq_some_iff.1 hh).1
    · have e : w.cell? ⟨g, 0 + k, none⟩ = cur[k]? := by simp [World.cell?, hh]
      rw [e]
      have e2 : cur.toList[k]? = (cur.toList.take (zs.length * 1))[k]? := by rw [List.getElem?_take]; simp [hk]
      rw [← Array.getElem?_toList, e2, h6]
      simp [List.getD, hk]
/-- A slice that came in reads as L. -/
def RL (w : World) (A : Option Addr) (L : List Int) : Prop := 0 < L.length → ∃ b o : Nat, A = some ⟨b, o, none⟩ ∧ b < w.heap.size ∧ Row w b o L
theorem RL.sl {w V : World} {A : Option Addr} {L : List Int} (h : RL w A L) (k : Below w.heap.size w V) {B : Nat} (hB : w.heap.size ≤ B) (hl : L.length ≤ 4611686018427387904) (c : Nat) : SL V B (.slice A L.length c) L :=
  ⟨A, c, rfl, hl, fun h0 => by
    obtain ⟨b, o, e1, e2, e3⟩ := h h0
    exact ⟨b, o, e1, by omega, Nat.lt_of_lt_of_le e2 k.size, fun j hj => (k.cell e2).trans (e3 j hj)⟩⟩
theorem RL.keep {w V : World} {A : Option Addr} {L : List Int} (h : RL w A L) (k : Below w.heap.size w V) : RL V A L := fun h0 => by
  obtain ⟨b, o, e1, e2, e3⟩ := h h0
  exact ⟨b, o, e1, Nat.lt_of_lt_of_le e2 k.size, fun j hj => (k.cell e2).trans (e3 j hj)⟩
theorem RL_of {w : World} {a : Option Addr} {len cap : Nat} {zs : List Int}
    (h : (a = none ∧ len = 0 ∧ cap = 0 ∧ zs = []) ∨ ∃ x, a = some x ∧ len ≤ cap ∧ cap ≤ maxLen ∧ zs.length = cap ∧ (∀ i, i < zs.length → w.cell? (x.add i) = some (.int .i64 (zs.getD i 0))) ∧ ∀ n ∈ zs, (Lit.int .i64 n).wf = true) :
    ∃ L : List Int, len = L.length ∧ (len ≤ cap ∧ (a = none → cap = 0)) ∧ AllI L ∧ RL w a L := by
  rcases h with ⟨rfl, rfl, rfl, rfl⟩ | ⟨x, rfl, h1, h2, rfl, h4, h5⟩
  · exact ⟨[], rfl, ⟨Nat.le_refl _, fun _ => rfl⟩, fun n hn => absurd hn (by simp), fun h0 => absurd h0 (by simp)⟩
  · have hlen : (zs.take len).length = len := by simp; omega
    refine ⟨zs.take len, hlen.symm, ⟨h1, fun e => by cases e⟩, fun n hn => bounds_i64 (h5 n (List.mem_of_mem_take hn)), fun h0 => ?_⟩
    rw [hlen] at h0
    obtain ⟨b, o, sp⟩ := x
    have c0 := h4 0 (by omega)
    have hsp : sp = none := by
      cases sp with
      | none => rfl
      | some s =>
        rw [Addr.add_zero'] at c0
        simp only [World.cell?] at c0
        split at c0 <;> simp at c0
    subst hsp
    refine ⟨b, o, rfl, ?_, fun k hk => ?_⟩
    · have := World.block_lt_of_cell? w _ c0
      rw [Addr.add_zero'] at this; exact this
    · rw [hlen] at hk
      have ck := h4 k (by omega)
      rw [Addr.add_lit] at ck
      have e : (zs.take len).getD k 0 = zs.getD k 0 := by simp [List.getD, hk]
      rw [e]; exact ck
theorem below_putn {w v : World} {B : Nat} (i : Bool) (c : Int) (h : Below w.heap.size w v) (hB : w.heap.size ≤ B) : Below w.heap.size w (put B i c v) := by
  unfold put; exact (h.setCell (by exact hB) _).setCell (by exact hB) _
theorem RL.put {w : World} {A : Option Addr} {L : List Int} (h : RL w A L) {B : Nat} (i : Bool) (c : Int) (hB : ∀ b o, A = some ⟨b, o, none⟩ → b ≠ B) : RL (put B i c w) A L := fun h0 => by
  obtain ⟨b, o, e1, e2, e3⟩ := h h0
  exact ⟨b, o, e1, by rw [put_size]; exact e2, fun j hj => (put_cell B i c w _ (hB b o e1)).trans (e3 j hj)⟩
theorem Own.slN {V w : World} {v : Value} {zs : List Int} (h : Own V w v zs) (B : Nat) (hB : w.heap.size ≤ B) (hl : zs.length ≤ 4611686018427387904) : SL w B v zs := by
  obtain ⟨h0, ⟨rfl, h2⟩ | ⟨g, cap, cur, rfl, hg, hh, h3, h4, h5, h6⟩⟩ := h
  · obtain rfl : zs = [] := List.length_eq_zero_iff.1 h2
    exact SL.nil _ _
  · have hgl := (Array.getElem?_eq_some_iff.1 hh).1
    refine ⟨_, cap, rfl, hl, fun _ => ⟨g, 0, rfl, by omega, hgl, fun k hk => ?_⟩⟩
    have e : w.cell? ⟨g, 0 + k, none⟩ = cur[k]? := by simp [World.cell?, hh]
    rw [e]
    have e2 : cur.toList[k]? = (cur.toList.take (zs.length * 1))[k]? := by rw [List.getElem?_take]; simp [hk]
    rw [← Array.getElem?_toList, e2, h6]
    simp [List.getD, hk]
theorem Own.keep {V w : World} {v : Value} {zs : List Int} (h : Own V w v zs) (o : Obj) : Own V (w.alloc o) v zs := World.ownsRow.alloc h o
/-- A list, its end first. -/
def backw (L : List Int) : Nat → List Int
  | 0 => []
  | j + 1 => backw L j ++ [L.getD (L.length - 1 - j) 0]
theorem backw_len (L : List Int) (j : Nat) : (backw L j).length = j := by
  induction j with
  | zero => rfl
  | succ j ih => unfold backw; rw [List.length_append, ih]; rfl
theorem backw_in {L : List Int} (h : AllI L) (j : Nat) (hj : j ≤ L.length) : AllI (backw L j) := by
  induction j with
  | zero => intro n hn; cases hn
  | succ j ih =>
    intro n hn
    unfold backw at hn
    rcases List.mem_append.1 hn with hn | hn
    · exact ih (by omega) n hn
    · simp only [List.mem_singleton] at hn
      rw [hn]; exact h.get (by omega)
theorem backw_rev (L : List Int) (j : Nat) (hj : j ≤ L.length) : backw L j = (L.drop (L.length - j)).reverse := by
  induction j with
  | zero => simp [backw]
  | succ j ih =>
    unfold backw
    rw [ih (by omega)]
    have e : L.length - (j + 1) = L.length - 1 - j := by omega
    have hk : L.length - 1 - j < L.length := by omega
    have e2 : L.drop (L.length - (j + 1)) = L.getD (L.length - 1 - j) 0 :: L.drop (L.length - j) := by
      rw [e, List.drop_eq_getElem_cons hk]
      congr 1
      · simp [List.getD, hk]
      · congr 1; omega
    rw [e2, List.reverse_cons]
theorem run_sum {zs : List Int} {n s : Int} {i : Bool} (hn : InF n) (h : runL opAdd (n, i) zs = (s, false)) : i = false ∧ s = n + zs.foldl (· + ·) 0 := by
  induction zs generalizing n i with
  | nil => unfold runL at h; simp at h; exact ⟨h.2, by simp [h.1]⟩
  | cons x zs ih =>
    have h' : runL opAdd (acc opAdd (n, i) x) zs = (s, false) := h
    unfold acc at h'
    have b := fitV_bd (addW n x)
    obtain ⟨e1, e2⟩ := ih (n := (opAdd n x).1) (by unfold opAdd; exact b) h'
    simp only [Bool.or_eq_false_iff] at e1
    have c := e1.2
    unfold opAdd cutW at c
    simp only [Bool.or_eq_false_iff] at c
    have hx : ¬ x < -9223372036854775807 := by have := c.2.2; unfold bad at this; simpa using this
    have f := fitC_no c.1
    have hv : (opAdd n x).1 = n + x := by
      unfold opAdd
      show fitV (addW n x) = n + x
      rw [(fitV_in f).1]
      unfold addW; rw [hd_in hn.1, hd_in (by omega)]
    refine ⟨e1.1, ?_⟩
    rw [e2, hv]
    have k : ∀ (l : List Int) (a b : Int), l.foldl (· + ·) (a + b) = a + l.foldl (· + ·) b := by
      intro l
      induction l with
      | nil => intro a b; rfl
      | cons y l ih => intro a b; simp only [List.foldl_cons, Int.add_assoc]; exact ih a (b + y)
    have := k zs x 0
    simp only [List.foldl_cons, Int.zero_add]
    rw [Int.add_zero] at this
    rw [this]; omega
theorem sum_rev (l : List Int) : l.reverse.foldl (· + ·) 0 = l.foldl (· + ·) (0 : Int) := by
  have k : ∀ (l : List Int) (a b : Int), l.foldl (· + ·) (a + b) = a + l.foldl (· + ·) b := by
    intro l
    induction l with
    | nil => intro a b; rfl
    | cons y l ih => intro a b; simp only [List.foldl_cons, Int.add_assoc]; exact ih a (b + y)
  induction l with
  | nil => rfl
  | cons x l ih =>
    rw [List.reverse_cons, List.foldl_append, ih]
    have := k l x 0
    simp only [List.foldl_cons, List.foldl_nil, Int.zero_add]
    rw [Int.add_zero] at this
    rw [this]; omega
theorem SL.take {w : World} {B : Nat} {A : Option Addr} {c : Nat} {L : List Int} (h : SL w B (.slice A L.length c) L) (n : Nat) (hn : n ≤ L.length) (c' : Nat) : SL w B (.slice A n c') (L.take n) := by
  obtain ⟨A', c0, e, l, f⟩ := h
  obtain ⟨rfl, -, -⟩ : A = A' ∧ L.length = L.length ∧ c = c0 := by simpa using e
  have hl : (L.take n).length = n := by simp; omega
  refine ⟨A, c', by rw [hl], by omega, fun h0 => ?_⟩
  obtain ⟨b, o, e1, e2, e3, e4⟩ := f (by omega)
  refine ⟨b, o, e1, e2, e3, fun k hk => ?_⟩
  have := e4 k (by omega)
  have e : (L.take n).getD k 0 = L.getD k 0 := by
    have : k < n := by omega
    simp [List.getD, this]
  rw [e]; exact this
theorem AllI.take {L : List Int} (h : AllI L) (n : Nat) : AllI (L.take n) := fun x hx => h x (List.mem_of_mem_take hx)
theorem runD_take (p : Int × Bool) (a b : List Int) (n k : Nat) (hk : k ≤ n) : runD p (a.take n) (b.take n) k = runD p a b k := by
  induction k with
  | zero => rfl
  | succ k ih =>
    have e : ∀ l : List Int, (l.take n).getD k 0 = l.getD k 0 := fun l => by
      have : k < n := by omega
      simp [List.getD, this]
    unfold runD
    rw [ih (by omega), e, e]
theorem SL.row {w : World} {B : Nat} {A : Option Addr} {c : Nat} {L : List Int} (h : SL w B (.slice A L.length c) L) (h0 : 0 < L.length) : ∃ b o : Nat, A = some ⟨b, o, none⟩ ∧ b ≠ B ∧ b < w.heap.size ∧ Row w b o L := by
  obtain ⟨A', c0, e, l, f⟩ := h
  obtain ⟨rfl, -, -⟩ : A = A' ∧ L.length = L.length ∧ c = c0 := by simpa using e
  exact f h0
theorem past_t2 {w X z : World} {U : Nat} {i : Bool} {c : Int} (h : Below w.heap.size w (put U i c X)) (y : World) : Below w.heap.size w (past (put U i c X) y) := past_t y h
end Go.Proofs.Ytlhadociaekkhaa
