/- The document's unit: was something cut; how many operations matrices take. -/
import Derived.Test.YtlhadociaekkhaaQF
set_option linter.unusedSimpArgs false
set_option linter.unusedVariables false
namespace Go.Proofs.Ytlhadociaekkhaa
set_option linter.unusedVariables false
set_option maxRecDepth 100000
open Go.RowKit Go.Shelf
theorem own_lis {V B x wc : World} {A : Option Addr} {n c : Nat} {L : List Int} (ho : OwnI B x (.slice A n c) L) (hk : Below x.heap.size x wc) (h0 : Below V.heap.size V B) : LIs wc A n c L V.heap.size wc.heap.size := by
  have h := own_ri ho
  refine ⟨h.1.keep hk, fun b o e => ?_⟩
  have := h.2 b o e
  have s1 := hk.size
  have s2 := h0.size
  omega
theorem stp_al {U V : Nat} {x w : World} (o : Obj) (h : Stp U V x w) : Stp U V x (w.alloc o) := h.trans (Stp.bel ((Below.refl _ _).alloc (Nat.le_refl _) o))
theorem stp_dr {U V : Nat} {x w : World} (h : Stp U V x w) : Stp U V x w.drew := h.trans (Stp.bel (Below.drew (Below.refl _ _)))
theorem stp_pa {U V : Nat} {x w z : World} (h : Stp U V x w) : Stp U V x (past w z) := h.trans (Stp.bel (past_below w z))
theorem stp_sU {U V i : Nat} {x w : World} (v : Value) (h : Stp U V x w) : Stp U V x (w.setCell ⟨U, i, none⟩ v) :=
  h.trans ⟨rfl, rfl, rfl, by simp [World.setCell], fun k _ h1 _ => Below.heap_setCell _ ⟨U, i, none⟩ _ _ h1⟩
theorem stp_sV {U V i : Nat} {x w : World} (v : Value) (h : Stp U V x w) : Stp U V x (w.setCell ⟨V, i, none⟩ v) :=
  h.trans ⟨rfl, rfl, rfl, by simp [World.setCell], fun k _ _ h2 => Below.heap_setCell _ ⟨V, i, none⟩ _ _ h2⟩
theorem stp_junkU {U V i : Nat} {x X X' z : World} {v : Value} (hX : X.setCell ⟨U, i, none⟩ v = X') (hn : U < X.heap.size) (h : Stp U V x (past X z)) : Stp U V x (past X' (junkSet (past X z) ⟨U, i, none⟩ v)) := by
  have e := set_past X z U i v
  rw [if_pos hn, hX] at e
  rw [← e]
  exact stp_sU v h
theorem stp_junkV {U V i : Nat} {x X X' z : World} {v : Value} (hX : X.setCell ⟨V, i, none⟩ v = X') (hn : V < X.heap.size) (h : Stp U V x (past X z)) : Stp U V x (past X' (junkSet (past X z) ⟨V, i, none⟩ v)) := by
  have e := set_past X z V i v
  rw [if_pos hn, hX] at e
  rw [← e]
  exact stp_sV v h
theorem own_lis2 {U V : Nat} {W B x wc : World} {A : Option Addr} {n c : Nat} {L : List Int} (ho : OwnI B x (.slice A n c) L) (hs : Stp U V x wc) (h1 : x.heap.size ≤ U ∨ U < B.heap.size) (h2 : x.heap.size ≤ V ∨ V < B.heap.size) (h0 : Below W.heap.size W B) : LIs wc A n c L W.heap.size wc.heap.size := by
  have h := (own_ri ho).stp hs h1 h2
  refine ⟨h.1, fun b o e => ?_⟩
  have := h.2 b o e
  have s1 := hs.size
  have s2 := h0.size
  omega
/-- A list beside two variables. -/
def LK (U V : Nat) (wc : World) (A : Option Addr) (n c : Nat) (L : List Int) (lo : Nat) : Prop := LIs wc A n c L lo wc.heap.size
theorem own_lk {U V : Nat} {W B x wc : World} {A : Option Addr} {n c : Nat} {L : List Int} (ho : OwnI B x (.slice A n c) L) (hs : Stp U V x wc) (h1 : x.heap.size ≤ U ∨ U < B.heap.size) (h2 : x.heap.size ≤ V ∨ V < B.heap.size) (h0 : Below W.heap.size W B) : LK U V wc A n c L W.heap.size := own_lis2 ho hs h1 h2 h0
theorem World.drew_heap (w : World) : w.drew.heap.size = w.heap.size := rfl
theorem gap_set (X x : World) (n i : Nat) (v : Value) (hn : n < X.heap.size) : gap (X.setCell ⟨n, i, none⟩ v) (junkSet (past X x) ⟨n, i, none⟩ v) = gap X x := by
  have e := set_past X x n i v
  rw [if_pos hn] at e
  unfold gap
  rw [← e]
  simp [World.setCell]
/-- A store changes no heights. -/
@[go_sem] theorem gap_junk (X X' x : World) (n i : Nat) (v : Value) (hn : n < X.heap.size) (hX : X.setCell ⟨n, i, none⟩ v = X') : gap X' (junkSet (past X x) ⟨n, i, none⟩ v) = gap X x := by
  rw [← hX]
  exact gap_set X x n i v hn
@[go_sem] theorem gap_junk2 (X x : World) (c c' : Array Value) (t : TypeId) (n i : Nat) (v : Value) (hn : n = X.heap.size) (hc : c' = c.setIfInBounds i v) : gap (X.alloc (.cells c' t)) (junkSet (past (X.alloc (.cells c t)) x) ⟨n, i, none⟩ v) = gap (X.alloc (.cells c t)) x := by
  subst hc
  rw [← World.setCell_alloc_at c t n i v hn]
  exact gap_set _ x n i v (by simp [hn])
@[go_sem] theorem gap_junk3 (X y x : World) (c c' : Array Value) (t : TypeId) (n i : Nat) (v : Value) (hn : n = X.heap.size) (hc : c' = c.setIfInBounds i v) : gap (past (X.alloc (.cells c' t)) (junkSet (past (X.alloc (.cells c t)) y) ⟨n, i, none⟩ v)) (junkSet (past (past (X.alloc (.cells c t)) y) x) ⟨n, i, none⟩ v) = gap (past (X.alloc (.cells c t)) y) x := by
  subst hc
  have hlt : n < (X.alloc (.cells c t)).heap.size := by simp [hn]
  have e := set_past (X.alloc (.cells c t)) y n i v
  rw [if_pos hlt, World.setCell_alloc_at c t n i v hn] at e
  rw [← e]
  exact gap_set _ x n i v (Nat.lt_of_lt_of_le hlt (past_size _ _))
theorem set_drew (X : World) (p : Addr) (v : Value) : X.drew.setCell p v = (X.setCell p v).drew := rfl
@[go_sem] theorem gap_junk2d (X x : World) (c c' : Array Value) (t : TypeId) (n i : Nat) (v : Value) (hn : n = X.heap.size) (hc : c' = c.setIfInBounds i v) : gap (X.alloc (.cells c' t)).drew (junkSet (past (X.alloc (.cells c t)).drew x) ⟨n, i, none⟩ v) = gap (X.alloc (.cells c t)).drew x := by
  subst hc
  rw [← World.setCell_alloc_at c t n i v hn, ← set_drew]
  exact gap_set _ x n i v (by show n < (X.alloc _).heap.size; simp [hn])
@[go_sem] theorem gap_junk3d (X y x : World) (c c' : Array Value) (t : TypeId) (n i : Nat) (v : Value) (hn : n = X.heap.size) (hc : c' = c.setIfInBounds i v) : gap (past (X.alloc (.cells c' t)).drew (junkSet (past (X.alloc (.cells c t)).drew y) ⟨n, i, none⟩ v)) (junkSet (past (past (X.alloc (.cells c t)).drew y) x) ⟨n, i, none⟩ v) = gap (past (X.alloc (.cells c t)).drew y) x := by
  subst hc
  have hlt : n < (X.alloc (.cells c t)).drew.heap.size := by show n < (X.alloc _).heap.size; simp [hn]
  have e := set_past (X.alloc (.cells c t)).drew y n i v
  rw [if_pos hlt, set_drew, World.setCell_alloc_at c t n i v hn] at e
  rw [← e]
  exact gap_set _ x n i v (Nat.lt_of_lt_of_le hlt (past_size _ _))
@[go_sem] theorem gap_junk4d (X y x z : World) (c c' : Array Value) (t : TypeId) (n i : Nat) (v : Value) (hn : n = X.heap.size) (hc : c' = c.setIfInBounds i v) : gap (past (past (X.alloc (.cells c' t)).drew (junkSet (past (X.alloc (.cells c t)).drew y) ⟨n, i, none⟩ v)) (junkSet (past (past (X.alloc (.cells c t)).drew y) x) ⟨n, i, none⟩ v)) (junkSet (past (past (past (X.alloc (.cells c t)).drew y) x) z) ⟨n, i, none⟩ v) = gap (past (past (X.alloc (.cells c t)).drew y) x) z := by
  subst hc
  have hlt : n < (X.alloc (.cells c t)).drew.heap.size := by show n < (X.alloc _).heap.size; simp [hn]
  have hlt2 := Nat.lt_of_lt_of_le hlt (past_size (X.alloc (.cells c t)).drew y)
  have e := set_past (X.alloc (.cells c t)).drew y n i v
  rw [if_pos hlt, set_drew, World.setCell_alloc_at c t n i v hn] at e
  have e2 := set_past (past (X.alloc (.cells c t)).drew y) x n i v
  rw [if_pos hlt2, e] at e2
  rw [← e2]
  exact gap_set _ z n i v (Nat.lt_of_lt_of_le hlt2 (past_size _ _))
@[go_sem] theorem lt_g1 (a b : Nat) : (a < a + 1 + b) = True := eq_true (by omega)
@[go_sem] theorem lt_g2 (a b : Nat) : (a < a + 1 + b + 1) = True := eq_true (by omega)
@[go_sem] theorem lt_g3 (a b c : Nat) : (a < a + 1 + b + 1 + c) = True := eq_true (by omega)
@[go_sem] theorem lt_g4 (a b : Nat) : (a < a + 1 + 1 + b) = True := eq_true (by omega)
@[go_sem] theorem lt_g5 (a b c : Nat) : (a < a + 1 + b + c) = True := eq_true (by omega)
@[go_sem] theorem lt_g6 (a b c : Nat) : (a < a + 1 + b + c + 1) = True := eq_true (by omega)
@[go_sem] theorem lt_g7 (a b c : Nat) : (a < a + 1 + 1 + b + c) = True := eq_true (by omega)
@[go_sem] theorem lt_g8 (a b c : Nat) : (a + 1 < a + 1 + 1 + b + c) = True := eq_true (by omega)
theorem r4Cut {B : Nat} {i : Bool} {c : Int} {w : World} (h : RA B i c w) : Calls Try.prog 23 #[UP B] w fun e w' => e = .returned (.bool i) ∧ Below w.heap.size w w' := by
  have c0 := h.c0
  clear h
  go_enter Try.func23, Try.ntmps23
  go_wp2_with fail
  go_ret
  exact ⟨rfl, by (repeat (first | assumption | exact Below.refl _ _ | with_reducible refine past_t _ ?_ | with_reducible refine below_a _ ?_ | with_reducible refine Below.drew ?_ | with_reducible refine below_d _ ?_ | (with_reducible refine Below.setCell ?_ (by (show _ ≤ _; repeat (first | exact Nat.le_refl _ | assumption | (omega; done) | with_reducible exact le_past (Nat.le_refl _) | with_reducible refine le_past ?_ | with_reducible refine le_al ?_ | with_reducible refine le_set ?_ | with_reducible refine le_p1 ?_))) _)))⟩
theorem pairM_cnt {g : Bool → Int → Int → Int × Bool} {cost : Int} (h0 : 0 ≤ cost) (h2 : cost ≤ 2) {R1 C1 : Int} {L1 : List Int} {R2 C2 : Int} {L2 : List Int} {i : Bool} {c : Int} (hl : L1.length ≤ 160) {P : (Int × Int × List Int × Int) × Bool × Int} (hP : pairM g cost R1 C1 L1 R2 C2 L2 i c = P) : c ≤ P.2.2 ∧ P.2.2 ≤ c + 320 := by
  have h3 : 0 ≤ cost * (L1.length : Int) := Int.mul_nonneg h0 (by omega)
  have h4 : cost * (L1.length : Int) ≤ 2 * (L1.length : Int) := Int.mul_le_mul_of_nonneg_right h2 (by omega)
  subst hP
  unfold pairM
  split <;> (simp only []; omega)
theorem mulM_cnt {R1 C1 : Int} {L1 : List Int} {R2 C2 : Int} {L2 : List Int} {i : Bool} {c : Int} {P : (Int × Int × List Int × Int) × Bool × Int} (hP : mulM R1 C1 L1 R2 C2 L2 i c = P) : c ≤ P.2.2 ∧ P.2.2 ≤ c + 3456 := by
  subst hP
  unfold mulM
  split
  · rename_i h
    obtain ⟨rfl, k1, k2⟩ := h
    obtain ⟨R', K', rfl, rfl, hR, hK, _⟩ := chk_yes k1
    obtain ⟨K2, C', e1, rfl, _, hC, _⟩ := chk_yes k2
    have := cnt_bd K' (R' * C') hK.2 (Nat.mul_le_mul hR.2 hC.2)
    simp only [Int.toNat_natCast] at this ⊢
    omega
  · simp only []
    omega
end Go.Proofs.Ytlhadociaekkhaa
