/- Slices of whole numbers of any kind: what they read as, those that a call has made by append, and the laws of the operations on them. -/
import Derived.Test.YtlhadociaekkhaaQPast2
import Derived.Laws.AppendOwn
import Derived.Laws.BytesArg
import Derived.Deep.RegionHeld
import Derived.Laws.Strings
import Derived.OpenShut
import Derived.Lib.Hide
namespace Go.Proofs.Ytlhadociaekkhaa
set_option linter.unusedVariables false
open Go.RowKit
/-- A row of numbers in memory. -/
def RowK (k : IntKind) (w : World) (b o : Nat) (zs : List Int) : Prop := ∀ j : Nat, j < zs.length → w.cell? ⟨b, o + j, none⟩ = some (.int k (zs.getD j 0))
/-- A slice reads as zs. -/
structure RS (k : IntKind) (w : World) (A : Option Addr) (n c : Nat) (zs : List Int) : Prop where
  len : n = zs.length
  cap : n ≤ c
  top : c ≤ 9223372036854775807
  nil_ : A = none → c = 0
  at_ : 0 < n → ∃ b o, A = some ⟨b, o, none⟩ ∧ b < w.heap.size ∧ RowK k w b o zs
theorem RS.nil (k : IntKind) (w : World) : RS k w none 0 0 [] := ⟨rfl, Nat.le_refl _, by omega, fun _ => rfl, fun h => absurd h (by omega)⟩
theorem RowK.keep {k : IntKind} {w v : World} {b o : Nat} {zs : List Int} (h : RowK k w b o zs) (hb : b < w.heap.size) (kp : Below w.heap.size w v) : RowK k v b o zs := fun j hj => (kp.cell (p := ⟨b, o + j, none⟩) hb).trans (h j hj)
theorem RS.keep {k : IntKind} {w v : World} {A : Option Addr} {n c : Nat} {zs : List Int} (h : RS k w A n c zs) (kp : Below w.heap.size w v) : RS k v A n c zs :=
  ⟨h.len, h.cap, h.top, h.nil_, fun h0 => by
    obtain ⟨b, o, e, hb, hr⟩ := h.at_ h0
    exact ⟨b, o, e, Nat.lt_of_lt_of_le hb kp.size, hr.keep hb kp⟩⟩
theorem RowK.far {k : IntKind} {w : World} {b o : Nat} {zs : List Int} (h : RowK k w b o zs) {g i : Nat} (hg : g ≠ b) (v : Value) : RowK k (w.setCell ⟨g, i, none⟩ v) b o zs := fun j hj => by
  rw [World.cell?_setCell_far _ _ _ _ (by show g ≠ b; exact hg)]; exact h j hj
theorem RS.far {k : IntKind} {w : World} {A : Option Addr} {n c : Nat} {zs : List Int} (h : RS k w A n c zs) {g i : Nat} (hg : ∀ b o, A = some ⟨b, o, none⟩ → g ≠ b) (v : Value) : RS k (w.setCell ⟨g, i, none⟩ v) A n c zs :=
  ⟨h.len, h.cap, h.top, h.nil_, fun h0 => by
    obtain ⟨b, o, e, hb, hr⟩ := h.at_ h0
    exact ⟨b, o, e, by simpa [World.setCell] using hb, hr.far (hg b o e) v⟩⟩
/-- A piece of it. -/
theorem RS.cut {k : IntKind} {w : World} {b o n c : Nat} {zs : List Int} (h : RS k w (some ⟨b, o, none⟩) n c zs) (lo hi : Nat) (h1 : lo ≤ hi) (h2 : hi ≤ n) :
    RS k w (some ⟨b, o + lo, none⟩) (hi - lo) (c - lo) ((zs.drop lo).take (hi - lo)) := by
  have hl := h.len
  have hc := h.cap
  have ht := h.top
  refine ⟨by simp; omega, by omega, by omega, (fun e => by cases e), fun h0 => ?_⟩
  obtain ⟨b', o', e, hb, hr⟩ := h.at_ (by omega)
  obtain ⟨rfl, rfl⟩ : b = b' ∧ o = o' := by simpa using e
  refine ⟨b, o + lo, rfl, hb, fun j hj => ?_⟩
  have hj' : j < hi - lo := by simp at hj; omega
  have := hr (lo + j) (by omega)
  rw [Nat.add_assoc, this]
  simp [List.getD, hj']
/-- Cut at the end, from its beginning on. -/
theorem RS.upto {k : IntKind} {w : World} {A : Option Addr} {n c : Nat} {zs : List Int} (h : RS k w A n c zs) (hi : Nat) (h2 : hi ≤ n) : RS k w A hi c (zs.take hi) := by
  have hl := h.len
  have hc := h.cap
  refine ⟨by simp; omega, by omega, h.top, h.nil_, fun h0 => ?_⟩
  obtain ⟨b, o, e, hb, hr⟩ := h.at_ (by omega)
  refine ⟨b, o, e, hb, fun j hj => ?_⟩
  have hj' : j < hi := by simp at hj; omega
  rw [hr j (by omega)]
  simp [List.getD, hj']
/-- A block that has just been made. -/
theorem RS.lit {fr : Nat × Nat} (k : IntKind) (w : World) (zs : List Int) (cs : Array Value) (T : TypeId) (hcs : cs = (zs.map (Value.int k)).toArray) (c : Nat) (hc : zs.length = c) (ht : c ≤ 9223372036854775807) (n : Nat) (hn : n = zs.length) (B : Nat) (hB : B = w.heap.size) :
    RS k (w.alloc (.cells cs T fr)) (some ⟨B, 0, none⟩) n c zs := by
  subst hB hn
  refine ⟨rfl, by omega, ht, (fun e => by cases e), fun h0 => ⟨w.heap.size, 0, rfl, by simp, fun j hj => ?_⟩⟩
  rw [hcs]
  rw [show (⟨w.heap.size, 0 + j, none⟩ : Addr) = ⟨w.heap.size, j, none⟩ by rw [Nat.zero_add]]
  rw [World.cell?_alloc_mark]
  simp [List.getD, hj]
abbrev kv (k : IntKind) (zs : List Int) : List Value := zs.map (Value.int k)
/-- A slice whose block the call has made: it begins at the head of the block. -/
abbrev OwnK (V w : World) (E : TypeId) (k : IntKind) (v : Value) (zs : List Int) : Prop := w.ownsRow V.heap.size E 1 v zs.length (kv k zs)
theorem OwnK.nil (V w : World) (E : TypeId) (k : IntKind) : OwnK V w E k (.slice none 0 0) [] := ⟨by simp, .inl ⟨rfl, rfl⟩⟩
theorem OwnK.form {V w : World} {E : TypeId} {k : IntKind} {v : Value} {zs : List Int} (h : OwnK V w E k v zs) : ∃ A c, v = .slice A zs.length c := by
  rcases h.2 with ⟨rfl, h0⟩ | ⟨g, cap, cur, rfl, _⟩
  · exact ⟨none, 0, by rw [h0]⟩
  · exact ⟨_, _, rfl⟩
theorem OwnK.rs {V w : World} {E : TypeId} {k : IntKind} {A : Option Addr} {n c : Nat} {zs : List Int} (h : OwnK V w E k (.slice A n c) zs) : RS k w A n c zs := by
  obtain ⟨h0, ⟨h1, h2⟩ | ⟨g, cap, cur, h1, hg, hh, h3, h4, h5, h6⟩⟩ := h
  · obtain ⟨rfl, rfl, rfl⟩ : A = none ∧ n = 0 ∧ c = 0 := by simpa using h1
    obtain rfl : zs = [] := List.length_eq_zero_iff.1 h2
    exact RS.nil _ _
  · obtain ⟨rfl, rfl, rfl⟩ : A = some ⟨g, 0, none⟩ ∧ n = zs.length ∧ c = cap := by simpa using h1
    refine ⟨rfl, h3, by unfold maxLen at h4; omega, (fun e => by cases e), fun _ => ⟨g, 0, rfl, (Array.getElem?_eq_some_iff.1 hh).1, fun j hj => ?_⟩⟩
    have e : w.cell? ⟨g, 0 + j, none⟩ = cur[j]? := by simp [World.cell?, hh]
    rw [e]
    have e2 : cur.toList[j]? = (cur.toList.take (zs.length * 1))[j]? := by rw [List.getElem?_take]; simp [hj]
    rw [← Array.getElem?_toList, e2, h6]
    simp [List.getD, hj]
/-- Where it lies. -/
theorem OwnK.far {V w : World} {E : TypeId} {k : IntKind} {A : Option Addr} {n c : Nat} {zs : List Int} (h : OwnK V w E k (.slice A n c) zs) {b : Nat} {o : Nat} {s : Option Nat} : ∀ b o, A = some ⟨b, o, none⟩ → V.heap.size ≤ b ∧ o = 0 ∧ b < w.heap.size := by
  intro b o e
  rcases h.2 with ⟨h1, _⟩ | ⟨g, cap, cur, h1, hg, hh, _⟩
  · subst e; cases h1
  · obtain ⟨rfl, rfl, rfl⟩ : A = some ⟨g, 0, none⟩ ∧ n = zs.length ∧ c = cap := by simpa using h1
    obtain ⟨rfl, rfl⟩ : g = b ∧ 0 = o := by simpa using e
    exact ⟨hg, rfl, (Array.getElem?_eq_some_iff.1 hh).1⟩
theorem OwnK.keep {V w v : World} {E : TypeId} {k : IntKind} {x : Value} {zs : List Int} (h : OwnK V w E k x zs) (kp : Below w.heap.size w v) : OwnK V v E k x zs := by
  obtain ⟨h0, h1 | ⟨g, cap, cur, h1, hg, hh, h3⟩⟩ := h
  · exact ⟨h0, .inl h1⟩
  · exact ⟨h0, .inr ⟨g, cap, cur, h1, hg, (kp.block g (Array.getElem?_eq_some_iff.1 hh).1).trans hh, h3⟩⟩
/-- Of an elder base. -/
theorem OwnK.base {V U w : World} {E : TypeId} {k : IntKind} {x : Value} {zs : List Int} (h : OwnK V w E k x zs) (hV : U.heap.size ≤ V.heap.size) : OwnK U w E k x zs := by
  obtain ⟨h0, h1 | ⟨g, cap, cur, h1, hg, hh, h3⟩⟩ := h
  · exact ⟨h0, .inl h1⟩
  · exact ⟨h0, .inr ⟨g, cap, cur, h1, Nat.le_trans hV hg, hh, h3⟩⟩
/-- A block that has just been made, whole. -/
theorem OwnK.lit (V w : World) (k : IntKind) (zs : List Int) (cs : Array Value) (E : TypeId) (hcs : cs = (zs.map (Value.int k)).toArray) (hV : V.heap.size ≤ w.heap.size) (c : Nat) (hc : zs.length = c) (ht : c ≤ 9223372036854775807) (n : Nat) (hn : n = zs.length) (B : Nat) (hB : B = w.heap.size) :
    OwnK V (w.alloc (.cells cs E)) E k (.slice (some ⟨B, 0, none⟩) n c) zs := by
  subst hB hn hc
  refine ⟨by simp, .inr ⟨w.heap.size, zs.length, cs, rfl, hV, heap_alloc_new w _, Nat.le_refl _, by unfold maxLen; exact ht, by rw [hcs]; simp, ?_⟩⟩
  rw [hcs]
  exact List.take_of_length_le (by simp)
/-- append onto such a slice, whatever is appended. -/
theorem run_append_rs (P : Program) {T E : TypeId} {k : IntKind} {B : Nat} (hT : P.underlying T = some (.slice E)) (hi : (P.info? E).map (fun i => (i.zero, i.size, i.bytes)) = some (some (.int k 0), 1, B)) (hB : B ≤ 8)
    (V : World) {W : World} (hV : Below V.heap.size V W) {v : Value} {zs news : List Int} (hown : OwnK V W E k v zs) {A : Option Addr} {n c : Nat} (hr : RS k W A n c news) (hn : zs.length + news.length ≤ 17592186044416) (ty : TypeId) :
    ∃ A' c' z, (Builtin.append_ #[T, T] ty #[v, .slice A n c]).run P W = .ok (.slice A' (zs.length + news.length) c') (past V z) ∧ OwnK V (past V z) E k (.slice A' (zs.length + news.length) c') (zs ++ news) := by
  obtain ⟨i0, hi, hz0, hz1, hz2⟩ := info_parts hi
  have hln := hr.len
  have fin : ∀ v' w', (Builtin.append_ #[T, T] ty #[v, .slice A n c]).run P W = .ok v' w' → w'.ownsRow V.heap.size E 1 v' (zs.length + n) (kv k zs ++ kv k news) → W.grownBy w' v.ownBlock →
      ∃ A' c' z, (Builtin.append_ #[T, T] ty #[v, .slice A n c]).run P W = .ok (.slice A' (zs.length + news.length) c') (past V z) ∧ OwnK V (past V z) E k (.slice A' (zs.length + news.length) c') (zs ++ news) := by
    intro v' w' h1 h2 h3
    have hB : Below V.heap.size V w' := hV.grown h3 hV.size fun g hg => by
      obtain ⟨_, h1 | ⟨g', cap, cur, hv, hgb, _⟩⟩ := hown
      · rw [h1.1] at hg; cases hg
      · rw [hv] at hg; simp only [Value.ownBlock, Option.some.injEq] at hg; omega
    have e := past_of hB
    rw [hln] at h2
    have h2' : OwnK V w' E k v' (zs ++ news) := by
      unfold OwnK kv; rw [List.length_append, List.map_append]; exact h2
    obtain ⟨A', c', rfl⟩ := h2'.form
    refine ⟨A', c', w', ?_, ?_⟩
    · rw [← e, h1, List.length_append]
    · rw [← e]; rw [List.length_append] at h2'; exact h2'
  rcases A with _ | ad
  · have hc0 := hr.nil_ rfl
    have hcap := hr.cap
    obtain rfl : n = 0 := by omega
    subst hc0
    obtain rfl : news = [] := List.length_eq_zero_iff.1 hln.symm
    refine fin v W ?_ (by simpa using hown) ⟨rfl, rfl, rfl, Nat.le_refl _, fun _ _ _ => rfl⟩
    rcases hown.2 with ⟨rfl, h⟩ | ⟨g, cap, cur, rfl, _, _, hnc, _⟩
    · simp [Builtin.append_, run_underlying hT, sizeOf, typeInfo, hi, Builtin.lenOf, Builtin.firstCells]
    · simp [Builtin.append_, run_underlying hT, sizeOf, typeInfo, hi, Builtin.lenOf, Builtin.firstCells, hnc, storeCells]
  · have hnews : ∀ j u, (kv k news)[j]? = some u → W.cell? (ad.add j) = some u := by
      intro j u hj
      have hj' : j < news.length := by
        have := (List.getElem?_eq_some_iff.1 hj).1
        simpa using this
      obtain ⟨b, o, e, hb, hrow⟩ := hr.at_ (by omega)
      obtain rfl : ad = ⟨b, o, none⟩ := by simpa using e
      rw [Addr.add_lit, hrow j hj']
      rw [← hj]
      simp [List.getD, hj']
    obtain ⟨v', w', h1, h2, h3, _⟩ := run_append_own (P := P) W V.heap.size T ty E i0 (.int k 0) 1 B hT hi hz0 hz1 hz2 rfl (by decide) v zs.length (kv k zs) hown ad n c (kv k news) (by simp [hln]) hnews
      (fun u hu => by obtain ⟨x, _, rfl⟩ := List.mem_map.1 hu; rfl) (by unfold maxLen; omega) (by
        have : (zs.length + n) * B ≤ (zs.length + n) * 8 := Nat.mul_le_mul_left _ hB
        omega) hV.size
    exact fin v' w' h1 h2 h3
/-- .. at the operation. -/
theorem append_rs {P : Program} {ops : Array Oper} {rest : List Oper} {o : Oper} {a : Act} {Q : Exit → Act → World → Prop} (hgd : o.guard = none) (s x : Operand) {T E : TypeId}
    (ho : o.op = .call { callee := .builtin .append, args := #[s, x], argTypes := #[T, T] }) {k : IntKind} {B : Nat} (hT : P.underlying T = some (.slice E)) (hi : (P.info? E).map (fun i => (i.zero, i.size, i.bytes)) = some (some (.int k 0), 1, B)) (hB : B ≤ 8)
    (V : World) {W : World} {v : Value} {zs news : List Int} (hs : a.eval s = v) {A : Option Addr} {n c : Nat} (hx : a.eval x = .slice A n c) (hV : Below V.heap.size V W) (hown : OwnK V W E k v zs) (hr : RS k W A n c news) (hn : zs.length + news.length ≤ 17592186044416)
    (h : ∀ A' c' z, OwnK V (past V z) E k (.slice A' (zs.length + news.length) c') (zs ++ news) → wpList P ops Q rest (a.put o.dst (.slice A' (zs.length + news.length) c')) (past V z)) : wpList P ops Q (o :: rest) a W := by
  obtain ⟨A', c', z, h1, h2⟩ := run_append_rs P hT hi hB V hV hown hr hn o.type
  refine wpList_plain hgd fun _ hK => ?_
  unfold Oper.wp execOp
  simp only [ho, resolve, invoke, builtin, Sem.run_bind, Sem.run_pure, Result.andThen_ok, List.map_toArray, List.map_cons, List.map_nil, hs, hx, h1]
  exact hK _ _ (h A' c' z h2)
/-- string(b). -/
theorem run_conv_rs (P : Program) {S D E : TypeId} (hS : P.underlying S = some (.slice E)) (hE : P.underlying E = some (.int .u8)) (hD : P.underlying D = some .string) {W : World} {A : Option Addr} {n c : Nat} {zs : List Int} (hr : RS .u8 W A n c zs) :
    (convert S D (.slice A n c)).run P W = .ok (.string (strOfNums zs)) W := by
  have hln := hr.len
  by_cases h0 : 0 < n
  · obtain ⟨b, o, rfl, hb, hrow⟩ := hr.at_ h0
    exact run_convert_bytes_arg (P := P) W S E hS hE b o n c zs hln.symm (fun i hi => hrow i (by omega)) D hD
  · obtain rfl : zs = [] := List.length_eq_zero_iff.1 (by omega)
    obtain rfl : n = 0 := by omega
    rcases A with _ | ad
    · exact run_convert_bytes_nil (P := P) W S E hS hE 0 c D hD
    · rw [run_convert_bytes_string W S D E _ 0 c hS hE hD, run_bytesToString W _ 0 c [] (by simp [loadCells, loadCellsFrom])]
      rfl
theorem conv_rs {P : Program} {ops : Array Oper} {rest : List Oper} {o : Oper} {a : Act} {W : World} {Q : Exit → Act → World → Prop} (hgd : o.guard = none) (x : Operand) {S D E : TypeId} (ho : o.op = .convert S D x)
    (hS : P.underlying S = some (.slice E)) (hE : P.underlying E = some (.int .u8)) (hD : P.underlying D = some .string) {A : Option Addr} {n c : Nat} {zs : List Int} (hx : a.eval x = .slice A n c) (hr : RS .u8 W A n c zs)
    (h : wpList P ops Q rest (a.put o.dst (.string (strOfNums zs))) W) : wpList P ops Q (o :: rest) a W := by
  refine wpList_plain hgd fun _ hK => ?_
  unfold Oper.wp execOp
  simp only [ho, hx, Sem.run_bind, Sem.run_pure, Result.andThen_ok, run_conv_rs P hS hE hD hr]
  exact hK _ _ h
theorem strOfNums_eq {a b : List Int} (ha : ∀ x ∈ a, 0 ≤ x ∧ x < 256) (hb : ∀ x ∈ b, 0 ≤ x ∧ x < 256) : ((strOfNums a).toList == (strOfNums b).toList) = decide (a = b) := by
  by_cases h : a = b
  · subst h; simp
  · have : (strOfNums a).toList ≠ (strOfNums b).toList := by
      intro e
      apply h
      have e1 : (strOfNums a).data.toList = (strOfNums b).data.toList := by
        rw [ByteArray.toList_eq, ByteArray.toList_eq] at e; exact e
      rw [strOfNums_data, strOfNums_data] at e1
      have e2 := congrArg (List.map fun x : UInt8 => (x.toNat : Int)) e1
      rw [List.map_map, List.map_map] at e2
      have g : ∀ l : List Int, (∀ x ∈ l, 0 ≤ x ∧ x < 256) → l.map ((fun x : UInt8 => (x.toNat : Int)) ∘ fun n => UInt8.ofNat n.toNat) = l := by
        intro l hl
        conv => rhs; rw [← List.map_id l]
        apply List.map_congr_left
        intro x hx
        have := hl x hx
        simp only [Function.comp, UInt8.toNat_ofNat', id]
        omega
      rw [g a ha, g b hb] at e2
      exact e2
    simp only [h, decide_false, beq_eq_false_iff_ne]
    exact this
end Go.Proofs.Ytlhadociaekkhaa
