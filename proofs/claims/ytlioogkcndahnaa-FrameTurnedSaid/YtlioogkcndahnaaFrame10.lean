/- What layer 26's statements share. -/
import Derived.Test.YtlioogkcndahnaaFrame9
namespace Go.Proofs.Ytlioogkcndahnaa
set_option linter.unusedVariables false
set_option maxRecDepth 100000
open Go.RowKit
theorem byte_in {n : Int} (h : (Lit.int .u8 n).wf = true) : 0 ≤ n ∧ n < 256 := by
  have := bounds_u8 h; omega
theorem RS_of {w : World} {a : Option Addr} {len cap : Nat} {zs : List Int}
    (h : (a = none ∧ len = 0 ∧ cap = 0 ∧ zs = []) ∨ ∃ x, a = some x ∧ len ≤ cap ∧ cap ≤ maxLen ∧ zs.length = cap ∧ (∀ i, i < zs.length → w.cell? (x.add i) = some (.int .u8 (zs.getD i 0))) ∧ ∀ n ∈ zs, (Lit.int .u8 n).wf = true) :
    ∃ L : List Int, RS .u8 w a len cap L ∧ AllB L := by
  rcases h with ⟨rfl, rfl, rfl, rfl⟩ | ⟨x, rfl, h1, h2, rfl, h4, h5⟩
  · exact ⟨[], RS.nil _ _, fun n hn => absurd hn (by simp)⟩
  · have hlen : (zs.take len).length = len := by simp; omega
    refine ⟨zs.take len, ⟨hlen.symm, h1, by unfold maxLen at h2; omega, (fun e => by cases e), fun h0 => ?_⟩, fun n hn => byte_in (h5 n (List.mem_of_mem_take hn))⟩
    obtain ⟨b, o, sp⟩ := x
    have c0 := h4 0 (by omega)
    have hsp : sp = none := by
      cases sp with
      | none => rfl
      | some s =>
        rw [Addr.add_zero'] at c0
        simp only [World.cell?] at c0
        split at c0 <;> simp at c0
    subst hsp
    refine ⟨b, o, rfl, ?_, fun k hk => ?_⟩
    · have := World.block_lt_of_cell? w _ c0
      rw [Addr.add_zero'] at this; exact this
    · rw [hlen] at hk
      have ck := h4 k (by omega)
      rw [Addr.add_lit] at ck
      have e : (zs.take len).getD k 0 = zs.getD k 0 := by simp [List.getD, hk]
      rw [e]; exact ck
/-- The first of two new variables is stored into; then the second. -/
theorem store_fst {ops : Array Oper} {rest : List Oper} {op : Oper} {a : Act} {X W : World} {Q : Exit → Act → World → Prop} (hgd : op.guard = none) (T : TypeId) (x y : Operand) (ho : op.op = .store T x y)
    {T' T'' : TypeId} {g : Nat} {cs cs' ds : Array Value} (hW : W = (X.alloc (.cells cs T')).alloc (.cells cs' T'')) (hx : a.eval x = .pointer (some ⟨g, 0, none⟩)) (hy : a.eval y = .agg ds) (hg : g = X.heap.size) (hs : ds.size = cs.size)
    (hi : (Try.prog.info? T).map (·.size) = some cs.size) (h1 : ∀ v ∈ ds.toList, v.oneCell' = true)
    (h : ∀ z, Blk (past X z) X.heap.size T' ds → Blk (past X z) (X.heap.size + 1) T'' cs' → wpList Try.prog ops Q rest (a.put op.dst undef) (past X z)) : wpList Try.prog ops Q (op :: rest) a W := by
  subst hg hW
  have b0 := (Blk.new X T' cs).keep ((Below.refl _ _).alloc (Nat.le_refl _) (.cells cs' T''))
  have b1 := Blk.new (X.alloc (.cells cs T')) T'' cs'
  rw [show (X.alloc (.cells cs T')).heap.size = X.heap.size + 1 by simp] at b1
  exact store_row hgd T x y ho X hx hy (below_a _ ((Below.refl _ _).alloc (Nat.le_refl _) _)) (Nat.le_refl _) b0 hs hi h1 fun z k f => h z k ((f _ (by omega)).trans b1)
theorem store_snd {ops : Array Oper} {rest : List Oper} {op : Oper} {a : Act} {X z0 W : World} {Q : Exit → Act → World → Prop} (hgd : op.guard = none) (T : TypeId) (x y : Operand) (ho : op.op = .store T x y)
    {T' T'' : TypeId} {g : Nat} {cs cs' ds : Array Value} (hW : W = past X z0) (hx : a.eval x = .pointer (some ⟨g, 0, none⟩)) (hy : a.eval y = .agg ds) (hb0 : Blk (past X z0) X.heap.size T' cs) (hb1 : Blk (past X z0) (X.heap.size + 1) T'' cs') (hg : g = X.heap.size + 1) (hs : ds.size = cs'.size)
    (hi : (Try.prog.info? T).map (·.size) = some cs'.size) (h1 : ∀ v ∈ ds.toList, v.oneCell' = true)
    (h : ∀ z, Blk (past X z) X.heap.size T' cs → Blk (past X z) (X.heap.size + 1) T'' ds → wpList Try.prog ops Q rest (a.put op.dst undef) (past X z)) : wpList Try.prog ops Q (op :: rest) a W := by
  subst hg hW
  exact store_row hgd T x y ho X hx hy (past_below _ _) (by omega) hb1 hs hi h1 fun z k f => h z ((f _ (by omega)).trans hb0) k
theorem tab_same (w : World) : (binOp .neq 25 (.agg (tabC tab)) (.agg (tabC tab))).run Try.prog w = .ok (.bool false) w := by unfold tabC; kernel_rfl
/-- A contract whose world is past some world P0. -/
theorem Calls_to0 {P : Program} {f : FuncId} {args : Array Value} {w P0 : World} {v : Value} {K : Ending → World → Prop}
    (h : Calls P f args w fun e w' => e = .returned v ∧ Below P0.heap.size P0 w') (k : ∀ x, K (.returned v) (past P0 x)) : Calls P f args w K :=
  h.mono fun e w' ⟨he, hb⟩ => by rw [he, past_of hb]; exact k w'
theorem gE_ok {f : Nat → Nat} {L : List Int} (h : gE f L = 0) : 0 < L.length ∧ L.getD 0 0 = 126 ∧ 3 ≤ L.length ∧ 0 < gN L ∧ gN L ≤ 1000 ∧ gN L + 7 ≤ L.length ∧ sumOk f L = true := by
  unfold gE at h
  by_cases h0 : L.length = 0
  · rw [if_pos h0] at h; omega
  rw [if_neg h0] at h
  by_cases h1 : L.getD 0 0 = 126
  case neg => rw [if_pos h1] at h; omega
  rw [if_neg (by simpa using h1)] at h
  by_cases h2 : L.length < 3
  · rw [if_pos h2] at h; omega
  rw [if_neg h2] at h
  by_cases h3 : gN L = 0 ∨ 1000 < gN L
  · rw [if_pos h3] at h; omega
  rw [if_neg h3] at h
  by_cases h4 : L.length < gN L + 7
  · rw [if_pos h4] at h; omega
  rw [if_neg h4] at h
  by_cases h5 : sumOk f L = true
  · exact ⟨by omega, h1, by omega, by omega, by omega, by omega, h5⟩
  · rw [if_neg h5] at h; omega
theorem gN_le {f : Nat → Nat} {L : List Int} (h : gE f L = 0) : gN L ≤ 1000 := (gE_ok h).2.2.2.2.1
end Go.Proofs.Ytlioogkcndahnaa
