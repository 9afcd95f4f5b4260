/- A call of the document's unit, by its kind (printed by mk_told.py). -/
import Derived.Test.YtlhadociaekkhaaGreatAct3
import Derived.Test.YtlhadociaekkhaaGreatRVec3
import Derived.Test.YtlhadociaekkhaaGreatRoot4
namespace Go.Proofs.YtlhadociaekkhaaGreat
set_option linter.unusedVariables false
set_option maxRecDepth 100000
open Go.RowKit
theorem r4Sqrt {B : Nat} {i : Bool} {c : Int} {w : World} (h : RA B i c w) (hc : 0 ≤ c ∧ c ≤ 4611686018427387904) (a : Int) (ha : InI a) :
    Calls Tryz.prog 29 #[UP B, .int .i64 a] w fun e w' => e = .returned (.int .i64 (opSqrt a 0).1) ∧ Below (put B (i || (opSqrt a 0).2) (c + 1) w).heap.size (put B (i || (opSqrt a 0).2) (c + 1) w) w' := by
  have hop : ∀ w, Calls Tryz.prog 52 #[.int .i64 a] w fun e w' => e = .returned (.tuple #[.int .i64 (opSqrt a 0).1, .bool (opSqrt a 0).2]) ∧ Below w.heap.size w w' := fun w => rSqrt a w ha.1 ha.2
  obtain ⟨p, hp⟩ : ∃ p, opSqrt a 0 = p := ⟨_, rfl⟩
  rw [hp] at hop ⊢
  obtain ⟨n, cut⟩ := p
  simp only at hop ⊢
  have hd := r4DidP h hc n cut
  clear h hp
  go_enter Tryz.func29, Tryz.ntmps29
  go_wp2_with (first | (go_at_call 52; first | (with_reducible refine Calls_past2 (hop _) (fun z => ?_)) | (with_reducible refine Calls_past (hop _) (fun z => ?_))) | (go_at_call 49; with_reducible refine Calls_to (hd _) (fun z => ?_)))
  go_ret
  exact ⟨rfl, past_below _ _⟩
theorem r4Set {B : Nat} {i : Bool} {c : Int} {w : World} (h : RA B i c w) (b : Bool) :
    Calls Tryz.prog 32 #[UP B, .bool b] w fun e w' => e = .returned (.tuple #[]) ∧ Below (put B (i || b) c w).heap.size (put B (i || b) c w) w' := by
  have c0 := h.c0
  have f0 := h.f0
  have hp : put B (i || b) c w = w.setCell ⟨B, 0, none⟩ (.bool (i || b)) := by
    unfold put
    rw [set_comm w B 0 1 _ _ (by omega), set_self w B 1 _ h.c1]
  rw [hp]
  clear h hp
  cases i <;> cases b
  all_goals
    simp only [Bool.or_false, Bool.or_true]
    go_enter Tryz.func32, Tryz.ntmps32
    go_wp2_with fail
    go_end0
    exact ⟨rfl, Below.refl _ _⟩
theorem r4Clear {B : Nat} {i : Bool} {c : Int} {w : World} (h : RA B i c w) :
    Calls Tryz.prog 33 #[UP B] w fun e w' => e = .returned (.tuple #[]) ∧ Below (put B false c w).heap.size (put B false c w) w' := by
  have c0 := h.c0
  have f0 := h.f0
  have hp : put B false c w = w.setCell ⟨B, 0, none⟩ (.bool false) := by
    unfold put
    rw [set_comm w B 0 1 _ _ (by omega), set_self w B 1 _ h.c1]
  rw [hp]
  clear h hp
  go_enter Tryz.func33, Tryz.ntmps33
  go_wp2_with fail
  go_end0
  exact ⟨rfl, Below.refl _ _⟩
theorem tAdd4 {U : Nat} {i : Bool} {c : Int} {w : World} (h : RA U i c w) (a b : Int) (ha : InI a) (hb : InI b) (A1 A2 : Option Addr) (c1 c2 : Nat) (L K : List Int) (hL : AllI L) (hK : AllI K) (sL : SL w U (.slice A1 L.length c1) L) (sK : SL w U (.slice A2 K.length c2) K) (is : Bool) (hc : 0 ≤ c ∧ c + 2 * L.length + 1 ≤ 4611686018427387904) :
    Calls Tryz.prog 10 #[UP U, actV 0 a b (.slice A1 L.length c1) (.slice A2 K.length c2) is] w fun e w' => e = .returned (.tuple #[.int .i64 (runL opAdd (0, i) L).1, .int .i64 0]) ∧ Below (put U ((runL opAdd (0, i) L).2) (c + (L.length : Int)) w).heap.size (put U ((runL opAdd (0, i) L).2) (c + (L.length : Int)) w) w' := by
  have hd := fun (W : World) (k : Below w.heap.size w W) => r4Add (h.keep k) _ L hL (sL.keep k) ⟨by omega, by omega⟩
  obtain ⟨p, hp⟩ : ∃ p, runL opAdd (0, i) L = p := ⟨_, rfl⟩
  rw [hp]
  simp only [hp] at hd
  obtain ⟨p, q⟩ := p
  simp only at hd ⊢
  have hUl := h.lt
  clear hp h sL sK hL hK
  go_enter Tryz.func10, Tryz.ntmps10
  go_wp2_with ((go_at_call 24; with_reducible refine Calls_to0 (hd _ ?_) (fun z => ?_); (focus ((first | ((repeat (first | assumption | exact Below.refl _ _ | with_reducible refine past_t _ ?_ | with_reducible refine below_a _ ?_ | with_reducible refine Below.drew ?_ | with_reducible refine below_d _ ?_ | (with_reducible refine Below.setCell ?_ (by (show _ ≤ _; repeat (first | exact Nat.le_refl _ | assumption | (omega; done) | with_reducible exact le_past (Nat.le_refl _) | with_reducible refine le_past ?_ | with_reducible refine le_al ?_ | with_reducible refine le_set ?_ | with_reducible refine le_p1 ?_))) _))); done) | (with_reducible rfl; done) | omega | (rfl; done) | (simp; done) | (simp [go_sem]; done) | (simp; omega) | (simp [go_sem]; omega)); done))))
  go_ret2
  exact ⟨rfl, by (repeat (first | assumption | exact Below.refl _ _ | with_reducible refine past_t _ ?_ | with_reducible refine below_a _ ?_ | with_reducible refine Below.drew ?_ | with_reducible refine below_d _ ?_ | (with_reducible refine Below.setCell ?_ (by (show _ ≤ _; repeat (first | exact Nat.le_refl _ | assumption | (omega; done) | with_reducible exact le_past (Nat.le_refl _) | with_reducible refine le_past ?_ | with_reducible refine le_al ?_ | with_reducible refine le_set ?_ | with_reducible refine le_p1 ?_))) _)))⟩
theorem tMul4 {U : Nat} {i : Bool} {c : Int} {w : World} (h : RA U i c w) (a b : Int) (ha : InI a) (hb : InI b) (A1 A2 : Option Addr) (c1 c2 : Nat) (L K : List Int) (hL : AllI L) (hK : AllI K) (sL : SL w U (.slice A1 L.length c1) L) (sK : SL w U (.slice A2 K.length c2) K) (is : Bool) (hc : 0 ≤ c ∧ c + 2 * L.length + 1 ≤ 4611686018427387904) :
    Calls Tryz.prog 10 #[UP U, actV 1 a b (.slice A1 L.length c1) (.slice A2 K.length c2) is] w fun e w' => e = .returned (.tuple #[.int .i64 (runL opMul (4294967296, i) L).1, .int .i64 0]) ∧ Below (put U ((runL opMul (4294967296, i) L).2) (c + (L.length : Int)) w).heap.size (put U ((runL opMul (4294967296, i) L).2) (c + (L.length : Int)) w) w' := by
  have hd := fun (W : World) (k : Below w.heap.size w W) => r4Mul (h.keep k) _ L hL (sL.keep k) ⟨by omega, by omega⟩
  obtain ⟨p, hp⟩ : ∃ p, runL opMul (4294967296, i) L = p := ⟨_, rfl⟩
  rw [hp]
  simp only [hp] at hd
  obtain ⟨p, q⟩ := p
  simp only at hd ⊢
  have hUl := h.lt
  clear hp h sL sK hL hK
  go_enter Tryz.func10, Tryz.ntmps10
  go_wp2_with ((go_at_call 25; with_reducible refine Calls_to0 (hd _ ?_) (fun z => ?_); (focus ((first | ((repeat (first | assumption | exact Below.refl _ _ | with_reducible refine past_t _ ?_ | with_reducible refine below_a _ ?_ | with_reducible refine Below.drew ?_ | with_reducible refine below_d _ ?_ | (with_reducible refine Below.setCell ?_ (by (show _ ≤ _; repeat (first | exact Nat.le_refl _ | assumption | (omega; done) | with_reducible exact le_past (Nat.le_refl _) | with_reducible refine le_past ?_ | with_reducible refine le_al ?_ | with_reducible refine le_set ?_ | with_reducible refine le_p1 ?_))) _))); done) | (with_reducible rfl; done) | omega | (rfl; done) | (simp; done) | (simp [go_sem]; done) | (simp; omega) | (simp [go_sem]; omega)); done))))
  go_ret2
  exact ⟨rfl, by (repeat (first | assumption | exact Below.refl _ _ | with_reducible refine past_t _ ?_ | with_reducible refine below_a _ ?_ | with_reducible refine Below.drew ?_ | with_reducible refine below_d _ ?_ | (with_reducible refine Below.setCell ?_ (by (show _ ≤ _; repeat (first | exact Nat.le_refl _ | assumption | (omega; done) | with_reducible exact le_past (Nat.le_refl _) | with_reducible refine le_past ?_ | with_reducible refine le_al ?_ | with_reducible refine le_set ?_ | with_reducible refine le_p1 ?_))) _)))⟩
theorem tSub4 {U : Nat} {i : Bool} {c : Int} {w : World} (h : RA U i c w) (a b : Int) (ha : InI a) (hb : InI b) (A1 A2 : Option Addr) (c1 c2 : Nat) (L K : List Int) (hL : AllI L) (hK : AllI K) (sL : SL w U (.slice A1 L.length c1) L) (sK : SL w U (.slice A2 K.length c2) K) (is : Bool) (hc : 0 ≤ c ∧ c + 2 * L.length + 1 ≤ 4611686018427387904) :
    Calls Tryz.prog 10 #[UP U, actV 2 a b (.slice A1 L.length c1) (.slice A2 K.length c2) is] w fun e w' => e = .returned (.tuple #[.int .i64 (opSub a b).1, .int .i64 0]) ∧ Below (put U (i || (opSub a b).2) (c + 1) w).heap.size (put U (i || (opSub a b).2) (c + 1) w) w' := by
  have hd := fun (W : World) (k : Below w.heap.size w W) => r4Sub (h.keep k) ⟨by omega, by omega⟩ a b ha hb
  obtain ⟨p, hp⟩ : ∃ p, opSub a b = p := ⟨_, rfl⟩
  rw [hp]
  simp only [hp] at hd
  obtain ⟨p, q⟩ := p
  simp only at hd ⊢
  have hUl := h.lt
  clear hp h sL sK hL hK
  go_enter Tryz.func10, Tryz.ntmps10
  go_wp2_with ((go_at_call 26; with_reducible refine Calls_to0 (hd _ ?_) (fun z => ?_); (focus ((first | ((repeat (first | assumption | exact Below.refl _ _ | with_reducible refine past_t _ ?_ | with_reducible refine below_a _ ?_ | with_reducible refine Below.drew ?_ | with_reducible refine below_d _ ?_ | (with_reducible refine Below.setCell ?_ (by (show _ ≤ _; repeat (first | exact Nat.le_refl _ | assumption | (omega; done) | with_reducible exact le_past (Nat.le_refl _) | with_reducible refine le_past ?_ | with_reducible refine le_al ?_ | with_reducible refine le_set ?_ | with_reducible refine le_p1 ?_))) _))); done) | (with_reducible rfl; done) | omega | (rfl; done) | (simp; done) | (simp [go_sem]; done) | (simp; omega) | (simp [go_sem]; omega)); done))))
  go_ret2
  exact ⟨rfl, by (repeat (first | assumption | exact Below.refl _ _ | with_reducible refine past_t _ ?_ | with_reducible refine below_a _ ?_ | with_reducible refine Below.drew ?_ | with_reducible refine below_d _ ?_ | (with_reducible refine Below.setCell ?_ (by (show _ ≤ _; repeat (first | exact Nat.le_refl _ | assumption | (omega; done) | with_reducible exact le_past (Nat.le_refl _) | with_reducible refine le_past ?_ | with_reducible refine le_al ?_ | with_reducible refine le_set ?_ | with_reducible refine le_p1 ?_))) _)))⟩
theorem tDiv4 {U : Nat} {i : Bool} {c : Int} {w : World} (h : RA U i c w) (a b : Int) (ha : InI a) (hb : InI b) (A1 A2 : Option Addr) (c1 c2 : Nat) (L K : List Int) (hL : AllI L) (hK : AllI K) (sL : SL w U (.slice A1 L.length c1) L) (sK : SL w U (.slice A2 K.length c2) K) (is : Bool) (hc : 0 ≤ c ∧ c + 2 * L.length + 1 ≤ 4611686018427387904) :
    Calls Tryz.prog 10 #[UP U, actV 3 a b (.slice A1 L.length c1) (.slice A2 K.length c2) is] w fun e w' => e = .returned (.tuple #[.int .i64 (opDiv a b).1, .int .i64 0]) ∧ Below (put U (i || (opDiv a b).2) (c + 1) w).heap.size (put U (i || (opDiv a b).2) (c + 1) w) w' := by
  have hd := fun (W : World) (k : Below w.heap.size w W) => r4Div (h.keep k) ⟨by omega, by omega⟩ a b ha hb
  obtain ⟨p, hp⟩ : ∃ p, opDiv a b = p := ⟨_, rfl⟩
  rw [hp]
  simp only [hp] at hd
  obtain ⟨p, q⟩ := p
  simp only at hd ⊢
  have hUl := h.lt
  clear hp h sL sK hL hK
  go_enter Tryz.func10, Tryz.ntmps10
  go_wp2_with ((go_at_call 27; with_reducible refine Calls_to0 (hd _ ?_) (fun z => ?_); (focus ((first | ((repeat (first | assumption | exact Below.refl _ _ | with_reducible refine past_t _ ?_ | with_reducible refine below_a _ ?_ | with_reducible refine Below.drew ?_ | with_reducible refine below_d _ ?_ | (with_reducible refine Below.setCell ?_ (by (show _ ≤ _; repeat (first | exact Nat.le_refl _ | assumption | (omega; done) | with_reducible exact le_past (Nat.le_refl _) | with_reducible refine le_past ?_ | with_reducible refine le_al ?_ | with_reducible refine le_set ?_ | with_reducible refine le_p1 ?_))) _))); done) | (with_reducible rfl; done) | omega | (rfl; done) | (simp; done) | (simp [go_sem]; done) | (simp; omega) | (simp [go_sem]; omega)); done))))
  go_ret2
  exact ⟨rfl, by (repeat (first | assumption | exact Below.refl _ _ | with_reducible refine past_t _ ?_ | with_reducible refine below_a _ ?_ | with_reducible refine Below.drew ?_ | with_reducible refine below_d _ ?_ | (with_reducible refine Below.setCell ?_ (by (show _ ≤ _; repeat (first | exact Nat.le_refl _ | assumption | (omega; done) | with_reducible exact le_past (Nat.le_refl _) | with_reducible refine le_past ?_ | with_reducible refine le_al ?_ | with_reducible refine le_set ?_ | with_reducible refine le_p1 ?_))) _)))⟩
theorem tHalf4 {U : Nat} {i : Bool} {c : Int} {w : World} (h : RA U i c w) (a b : Int) (ha : InI a) (hb : InI b) (A1 A2 : Option Addr) (c1 c2 : Nat) (L K : List Int) (hL : AllI L) (hK : AllI K) (sL : SL w U (.slice A1 L.length c1) L) (sK : SL w U (.slice A2 K.length c2) K) (is : Bool) (hc : 0 ≤ c ∧ c + 2 * L.length + 1 ≤ 4611686018427387904) :
    Calls Tryz.prog 10 #[UP U, actV 4 a b (.slice A1 L.length c1) (.slice A2 K.length c2) is] w fun e w' => e = .returned (.tuple #[.int .i64 (opHalf a b).1, .int .i64 0]) ∧ Below (put U (i || (opHalf a b).2) (c + 1) w).heap.size (put U (i || (opHalf a b).2) (c + 1) w) w' := by
  have hd := fun (W : World) (k : Below w.heap.size w W) => r4Half (h.keep k) ⟨by omega, by omega⟩ a b ha hb
  obtain ⟨p, hp⟩ : ∃ p, opHalf a b = p := ⟨_, rfl⟩
  rw [hp]
  simp only [hp] at hd
  obtain ⟨p, q⟩ := p
  simp only at hd ⊢
  have hUl := h.lt
  clear hp h sL sK hL hK
  go_enter Tryz.func10, Tryz.ntmps10
  go_wp2_with ((go_at_call 28; with_reducible refine Calls_to0 (hd _ ?_) (fun z => ?_); (focus ((first | ((repeat (first | assumption | exact Below.refl _ _ | with_reducible refine past_t _ ?_ | with_reducible refine below_a _ ?_ | with_reducible refine Below.drew ?_ | with_reducible refine below_d _ ?_ | (with_reducible refine Below.setCell ?_ (by (show _ ≤ _; repeat (first | exact Nat.le_refl _ | assumption | (omega; done) | with_reducible exact le_past (Nat.le_refl _) | with_reducible refine le_past ?_ | with_reducible refine le_al ?_ | with_reducible refine le_set ?_ | with_reducible refine le_p1 ?_))) _))); done) | (with_reducible rfl; done) | omega | (rfl; done) | (simp; done) | (simp [go_sem]; done) | (simp; omega) | (simp [go_sem]; omega)); done))))
  go_ret2
  exact ⟨rfl, by (repeat (first | assumption | exact Below.refl _ _ | with_reducible refine past_t _ ?_ | with_reducible refine below_a _ ?_ | with_reducible refine Below.drew ?_ | with_reducible refine below_d _ ?_ | (with_reducible refine Below.setCell ?_ (by (show _ ≤ _; repeat (first | exact Nat.le_refl _ | assumption | (omega; done) | with_reducible exact le_past (Nat.le_refl _) | with_reducible refine le_past ?_ | with_reducible refine le_al ?_ | with_reducible refine le_set ?_ | with_reducible refine le_p1 ?_))) _)))⟩
theorem tSqrt4 {U : Nat} {i : Bool} {c : Int} {w : World} (h : RA U i c w) (a b : Int) (ha : InI a) (hb : InI b) (A1 A2 : Option Addr) (c1 c2 : Nat) (L K : List Int) (hL : AllI L) (hK : AllI K) (sL : SL w U (.slice A1 L.length c1) L) (sK : SL w U (.slice A2 K.length c2) K) (is : Bool) (hc : 0 ≤ c ∧ c + 2 * L.length + 1 ≤ 4611686018427387904) :
    Calls Tryz.prog 10 #[UP U, actV 5 a b (.slice A1 L.length c1) (.slice A2 K.length c2) is] w fun e w' => e = .returned (.tuple #[.int .i64 (opSqrt a 0).1, .int .i64 0]) ∧ Below (put U (i || (opSqrt a 0).2) (c + 1) w).heap.size (put U (i || (opSqrt a 0).2) (c + 1) w) w' := by
  have hd := fun (W : World) (k : Below w.heap.size w W) => r4Sqrt (h.keep k) ⟨by omega, by omega⟩ a ha
  obtain ⟨p, hp⟩ : ∃ p, opSqrt a 0 = p := ⟨_, rfl⟩
  rw [hp]
  simp only [hp] at hd
  obtain ⟨p, q⟩ := p
  simp only at hd ⊢
  have hUl := h.lt
  clear hp h sL sK hL hK
  go_enter Tryz.func10, Tryz.ntmps10
  go_wp2_with ((go_at_call 29; with_reducible refine Calls_to0 (hd _ ?_) (fun z => ?_); (focus ((first | ((repeat (first | assumption | exact Below.refl _ _ | with_reducible refine past_t _ ?_ | with_reducible refine below_a _ ?_ | with_reducible refine Below.drew ?_ | with_reducible refine below_d _ ?_ | (with_reducible refine Below.setCell ?_ (by (show _ ≤ _; repeat (first | exact Nat.le_refl _ | assumption | (omega; done) | with_reducible exact le_past (Nat.le_refl _) | with_reducible refine le_past ?_ | with_reducible refine le_al ?_ | with_reducible refine le_set ?_ | with_reducible refine le_p1 ?_))) _))); done) | (with_reducible rfl; done) | omega | (rfl; done) | (simp; done) | (simp [go_sem]; done) | (simp; omega) | (simp [go_sem]; omega)); done))))
  go_ret2
  exact ⟨rfl, by (repeat (first | assumption | exact Below.refl _ _ | with_reducible refine past_t _ ?_ | with_reducible refine below_a _ ?_ | with_reducible refine Below.drew ?_ | with_reducible refine below_d _ ?_ | (with_reducible refine Below.setCell ?_ (by (show _ ≤ _; repeat (first | exact Nat.le_refl _ | assumption | (omega; done) | with_reducible exact le_past (Nat.le_refl _) | with_reducible refine le_past ?_ | with_reducible refine le_al ?_ | with_reducible refine le_set ?_ | with_reducible refine le_p1 ?_))) _)))⟩
theorem tWhole4 {U : Nat} {i : Bool} {c : Int} {w : World} (h : RA U i c w) (a b : Int) (ha : InI a) (hb : InI b) (A1 A2 : Option Addr) (c1 c2 : Nat) (L K : List Int) (hL : AllI L) (hK : AllI K) (sL : SL w U (.slice A1 L.length c1) L) (sK : SL w U (.slice A2 K.length c2) K) (is : Bool) (hc : 0 ≤ c ∧ c + 2 * L.length + 1 ≤ 4611686018427387904) :
    Calls Tryz.prog 10 #[UP U, actV 6 a b (.slice A1 L.length c1) (.slice A2 K.length c2) is] w fun e w' => e = .returned (.tuple #[.int .i64 (opWhole a 0).1, .int .i64 0]) ∧ Below (put U (i || (opWhole a 0).2) (c + 1) w).heap.size (put U (i || (opWhole a 0).2) (c + 1) w) w' := by
  have hd := fun (W : World) (k : Below w.heap.size w W) => r4Whole (h.keep k) ⟨by omega, by omega⟩ a ha
  obtain ⟨p, hp⟩ : ∃ p, opWhole a 0 = p := ⟨_, rfl⟩
  rw [hp]
  simp only [hp] at hd
  obtain ⟨p, q⟩ := p
  simp only at hd ⊢
  have hUl := h.lt
  clear hp h sL sK hL hK
  go_enter Tryz.func10, Tryz.ntmps10
  go_wp2_with ((go_at_call 30; with_reducible refine Calls_to0 (hd _ ?_) (fun z => ?_); (focus ((first | ((repeat (first | assumption | exact Below.refl _ _ | with_reducible refine past_t _ ?_ | with_reducible refine below_a _ ?_ | with_reducible refine Below.drew ?_ | with_reducible refine below_d _ ?_ | (with_reducible refine Below.setCell ?_ (by (show _ ≤ _; repeat (first | exact Nat.le_refl _ | assumption | (omega; done) | with_reducible exact le_past (Nat.le_refl _) | with_reducible refine le_past ?_ | with_reducible refine le_al ?_ | with_reducible refine le_set ?_ | with_reducible refine le_p1 ?_))) _))); done) | (with_reducible rfl; done) | omega | (rfl; done) | (simp; done) | (simp [go_sem]; done) | (simp; omega) | (simp [go_sem]; omega)); done))))
  go_ret2
  exact ⟨rfl, by (repeat (first | assumption | exact Below.refl _ _ | with_reducible refine past_t _ ?_ | with_reducible refine below_a _ ?_ | with_reducible refine Below.drew ?_ | with_reducible refine below_d _ ?_ | (with_reducible refine Below.setCell ?_ (by (show _ ≤ _; repeat (first | exact Nat.le_refl _ | assumption | (omega; done) | with_reducible exact le_past (Nat.le_refl _) | with_reducible refine le_past ?_ | with_reducible refine le_al ?_ | with_reducible refine le_set ?_ | with_reducible refine le_p1 ?_))) _)))⟩
theorem tDot4 {U : Nat} {i : Bool} {c : Int} {w : World} (h : RA U i c w) (a b : Int) (ha : InI a) (hb : InI b) (A1 A2 : Option Addr) (c1 c2 : Nat) (L K : List Int) (hL : AllI L) (hK : AllI K) (sL : SL w U (.slice A1 L.length c1) L) (sK : SL w U (.slice A2 K.length c2) K) (is : Bool) (hc : 0 ≤ c ∧ c + 2 * L.length + 1 ≤ 4611686018427387904) (hlen : L.length = K.length) :
    Calls Tryz.prog 10 #[UP U, actV 7 a b (.slice A1 L.length c1) (.slice A2 K.length c2) is] w fun e w' => e = .returned (.tuple #[.int .i64 (runD (0, i) L K L.length).1, .int .i64 0]) ∧ Below (put U ((runD (0, i) L K L.length).2) (c + 2 * (L.length : Int)) w).heap.size (put U ((runD (0, i) L K L.length).2) (c + 2 * (L.length : Int)) w) w' := by
  have hd := fun (W : World) (k : Below w.heap.size w W) => r4Dot (h.keep k) _ _ L K hL hK (sL.keep k) (sK.keep k) hlen ⟨by omega, by omega⟩
  obtain ⟨p, hp⟩ : ∃ p, runD (0, i) L K L.length = p := ⟨_, rfl⟩
  rw [hp]
  simp only [hp] at hd
  obtain ⟨p, q⟩ := p
  simp only at hd ⊢
  have hUl := h.lt
  clear hp h sL sK hL hK hlen
  go_enter Tryz.func10, Tryz.ntmps10
  go_wp2_with ((go_at_call 31; with_reducible refine Calls_to0 (hd _ ?_) (fun z => ?_); (focus ((first | ((repeat (first | assumption | exact Below.refl _ _ | with_reducible refine past_t _ ?_ | with_reducible refine below_a _ ?_ | with_reducible refine Below.drew ?_ | with_reducible refine below_d _ ?_ | (with_reducible refine Below.setCell ?_ (by (show _ ≤ _; repeat (first | exact Nat.le_refl _ | assumption | (omega; done) | with_reducible exact le_past (Nat.le_refl _) | with_reducible refine le_past ?_ | with_reducible refine le_al ?_ | with_reducible refine le_set ?_ | with_reducible refine le_p1 ?_))) _))); done) | (with_reducible rfl; done) | omega | (rfl; done) | (simp; done) | (simp [go_sem]; done) | (simp; omega) | (simp [go_sem]; omega)); done))))
  go_ret2
  exact ⟨rfl, by (repeat (first | assumption | exact Below.refl _ _ | with_reducible refine past_t _ ?_ | with_reducible refine below_a _ ?_ | with_reducible refine Below.drew ?_ | with_reducible refine below_d _ ?_ | (with_reducible refine Below.setCell ?_ (by (show _ ≤ _; repeat (first | exact Nat.le_refl _ | assumption | (omega; done) | with_reducible exact le_past (Nat.le_refl _) | with_reducible refine le_past ?_ | with_reducible refine le_al ?_ | with_reducible refine le_set ?_ | with_reducible refine le_p1 ?_))) _)))⟩
theorem tDotNo4 {U : Nat} {i : Bool} {c : Int} {w : World} (h : RA U i c w) (a b : Int) (ha : InI a) (hb : InI b) (A1 A2 : Option Addr) (c1 c2 : Nat) (L K : List Int) (hL : AllI L) (hK : AllI K) (sL : SL w U (.slice A1 L.length c1) L) (sK : SL w U (.slice A2 K.length c2) K) (is : Bool) (hc : 0 ≤ c ∧ c + 2 * L.length + 1 ≤ 4611686018427387904) (hlen : L.length ≠ K.length) (hK2 : K.length ≤ 4611686018427387904) :
    Calls Tryz.prog 10 #[UP U, actV 7 a b (.slice A1 L.length c1) (.slice A2 K.length c2) is] w fun e w' => e = .returned (.tuple #[.int .i64 0, .int .i64 3]) ∧ Below w.heap.size w w' := by
  have hd := fun (W : World) => r4DotNo (UP U) A1 A2 L.length K.length c1 c2 hlen (by omega) hK2 W
  have hUl := h.lt
  clear h sL sK hL hK hlen
  go_enter Tryz.func10, Tryz.ntmps10
  go_wp2_with ((go_at_call 31; first | (with_reducible refine Calls_past2 (hd _) (fun z => ?_)) | (with_reducible refine Calls_past (hd _) (fun z => ?_))))
  go_ret2
  exact ⟨rfl, by (repeat (first | assumption | exact Below.refl _ _ | with_reducible refine past_t _ ?_ | with_reducible refine below_a _ ?_ | with_reducible refine Below.drew ?_ | with_reducible refine below_d _ ?_ | (with_reducible refine Below.setCell ?_ (by (show _ ≤ _; repeat (first | exact Nat.le_refl _ | assumption | (omega; done) | with_reducible exact le_past (Nat.le_refl _) | with_reducible refine le_past ?_ | with_reducible refine le_al ?_ | with_reducible refine le_set ?_ | with_reducible refine le_p1 ?_))) _)))⟩
theorem tSet4 {U : Nat} {i : Bool} {c : Int} {w : World} (h : RA U i c w) (a b : Int) (ha : InI a) (hb : InI b) (A1 A2 : Option Addr) (c1 c2 : Nat) (L K : List Int) (hL : AllI L) (hK : AllI K) (sL : SL w U (.slice A1 L.length c1) L) (sK : SL w U (.slice A2 K.length c2) K) (is : Bool) (hc : 0 ≤ c ∧ c + 2 * L.length + 1 ≤ 4611686018427387904) :
    Calls Tryz.prog 10 #[UP U, actV 8 a b (.slice A1 L.length c1) (.slice A2 K.length c2) is] w fun e w' => e = .returned (.tuple #[.int .i64 0, .int .i64 0]) ∧ Below (put U (i || is) (c) w).heap.size (put U (i || is) (c) w) w' := by
  have hd := fun (W : World) (k : Below w.heap.size w W) => r4Set (h.keep k) is
  have hUl := h.lt
  obtain ⟨q, hq⟩ : ∃ q, (i || is) = q := ⟨_, rfl⟩
  simp only [hq] at hd ⊢
  clear h sL sK hL hK hq
  go_enter Tryz.func10, Tryz.ntmps10
  go_wp2_with ((go_at_call 32; with_reducible refine Calls_to0 (hd _ ?_) (fun z => ?_); (focus ((first | ((repeat (first | assumption | exact Below.refl _ _ | with_reducible refine past_t _ ?_ | with_reducible refine below_a _ ?_ | with_reducible refine Below.drew ?_ | with_reducible refine below_d _ ?_ | (with_reducible refine Below.setCell ?_ (by (show _ ≤ _; repeat (first | exact Nat.le_refl _ | assumption | (omega; done) | with_reducible exact le_past (Nat.le_refl _) | with_reducible refine le_past ?_ | with_reducible refine le_al ?_ | with_reducible refine le_set ?_ | with_reducible refine le_p1 ?_))) _))); done) | (with_reducible rfl; done) | omega | (rfl; done) | (simp; done) | (simp [go_sem]; done) | (simp; omega) | (simp [go_sem]; omega)); done))))
  go_ret2
  exact ⟨rfl, by (repeat (first | assumption | exact Below.refl _ _ | with_reducible refine past_t _ ?_ | with_reducible refine below_a _ ?_ | with_reducible refine Below.drew ?_ | with_reducible refine below_d _ ?_ | (with_reducible refine Below.setCell ?_ (by (show _ ≤ _; repeat (first | exact Nat.le_refl _ | assumption | (omega; done) | with_reducible exact le_past (Nat.le_refl _) | with_reducible refine le_past ?_ | with_reducible refine le_al ?_ | with_reducible refine le_set ?_ | with_reducible refine le_p1 ?_))) _)))⟩
theorem tClear4 {U : Nat} {i : Bool} {c : Int} {w : World} (h : RA U i c w) (a b : Int) (ha : InI a) (hb : InI b) (A1 A2 : Option Addr) (c1 c2 : Nat) (L K : List Int) (hL : AllI L) (hK : AllI K) (sL : SL w U (.slice A1 L.length c1) L) (sK : SL w U (.slice A2 K.length c2) K) (is : Bool) (hc : 0 ≤ c ∧ c + 2 * L.length + 1 ≤ 4611686018427387904) :
    Calls Tryz.prog 10 #[UP U, actV 9 a b (.slice A1 L.length c1) (.slice A2 K.length c2) is] w fun e w' => e = .returned (.tuple #[.int .i64 0, .int .i64 0]) ∧ Below (put U (false) (c) w).heap.size (put U (false) (c) w) w' := by
  have hd := fun (W : World) (k : Below w.heap.size w W) => r4Clear (h.keep k)
  have hUl := h.lt
  clear h sL sK hL hK
  go_enter Tryz.func10, Tryz.ntmps10
  go_wp2_with ((go_at_call 33; with_reducible refine Calls_to0 (hd _ ?_) (fun z => ?_); (focus ((first | ((repeat (first | assumption | exact Below.refl _ _ | with_reducible refine past_t _ ?_ | with_reducible refine below_a _ ?_ | with_reducible refine Below.drew ?_ | with_reducible refine below_d _ ?_ | (with_reducible refine Below.setCell ?_ (by (show _ ≤ _; repeat (first | exact Nat.le_refl _ | assumption | (omega; done) | with_reducible exact le_past (Nat.le_refl _) | with_reducible refine le_past ?_ | with_reducible refine le_al ?_ | with_reducible refine le_set ?_ | with_reducible refine le_p1 ?_))) _))); done) | (with_reducible rfl; done) | omega | (rfl; done) | (simp; done) | (simp [go_sem]; done) | (simp; omega) | (simp [go_sem]; omega)); done))))
  go_ret2
  exact ⟨rfl, by (repeat (first | assumption | exact Below.refl _ _ | with_reducible refine past_t _ ?_ | with_reducible refine below_a _ ?_ | with_reducible refine Below.drew ?_ | with_reducible refine below_d _ ?_ | (with_reducible refine Below.setCell ?_ (by (show _ ≤ _; repeat (first | exact Nat.le_refl _ | assumption | (omega; done) | with_reducible exact le_past (Nat.le_refl _) | with_reducible refine le_past ?_ | with_reducible refine le_al ?_ | with_reducible refine le_set ?_ | with_reducible refine le_p1 ?_))) _)))⟩
theorem tElse4 (v : Value) (kd a b : Int) (v1 v2 : Value) (is : Bool) (hk : kd < 0 ∨ 9 < kd) (w : World) :
    Calls Tryz.prog 10 #[v, actV kd a b v1 v2 is] w fun e w' => e = .returned (.tuple #[.int .i64 0, .int .i64 0]) ∧ Below w.heap.size w w' := by
  have e0 : (kd == 0) = false := by simp; omega
  have e1 : (kd == 1) = false := by simp; omega
  have e2 : (kd == 2) = false := by simp; omega
  have e3 : (kd == 3) = false := by simp; omega
  have e4 : (kd == 4) = false := by simp; omega
  have e5 : (kd == 5) = false := by simp; omega
  have e6 : (kd == 6) = false := by simp; omega
  have e7 : (kd == 7) = false := by simp; omega
  have e8 : (kd == 8) = false := by simp; omega
  have e9 : (kd == 9) = false := by simp; omega
  clear hk
  go_enter Tryz.func10, Tryz.ntmps10
  go_wp2_with fail
  go_ret2
  exact ⟨rfl, by (repeat (first | assumption | exact Below.refl _ _ | with_reducible refine past_t _ ?_ | with_reducible refine below_a _ ?_ | with_reducible refine Below.drew ?_ | with_reducible refine below_d _ ?_ | (with_reducible refine Below.setCell ?_ (by (show _ ≤ _; repeat (first | exact Nat.le_refl _ | assumption | (omega; done) | with_reducible exact le_past (Nat.le_refl _) | with_reducible refine le_past ?_ | with_reducible refine le_al ?_ | with_reducible refine le_set ?_ | with_reducible refine le_p1 ?_))) _)))⟩
theorem tActS {U : Nat} {i : Bool} {c : Int} {w : World} (h : RA U i c w) (x : ActX) (ha : InI x.a) (hb' : InI x.b) (hL : AllI x.L) (hK : AllI x.K) (sL : SL w U (.slice x.l x.L.length x.cl) x.L) (sK : SL w U (.slice x.k x.K.length x.ck) x.K) (lL : x.L.length ≤ 20) (lK : x.K.length ≤ 20) (hc : 0 ≤ c ∧ c ≤ 1000000) :
    Calls Tryz.prog 10 #[UP U, x.val] w fun e w' => e = .returned (.tuple #[.int .i64 (actR x.kd x.a x.b x.L x.K x.is i c).1, .int .i64 (actR x.kd x.a x.b x.L x.K x.is i c).2.1]) ∧
      Below (put U (actR x.kd x.a x.b x.L x.K x.is i c).2.2.1 (actR x.kd x.a x.b x.L x.K x.is i c).2.2.2 w).heap.size (put U (actR x.kd x.a x.b x.L x.K x.is i c).2.2.1 (actR x.kd x.a x.b x.L x.K x.is i c).2.2.2 w) w' := by
  obtain ⟨kd, a, b, l, cl, L, k, ck, K, is⟩ := x
  simp only at *
  have hc' : 0 ≤ c ∧ c + 2 * (L.length : Int) + 1 ≤ 4611686018427387904 := ⟨by omega, by omega⟩
  by_cases h0 : kd = 0
  · subst h0
    have e : actR 0 a b L K is i c = ((runL opAdd (0, i) L).1, 0, (runL opAdd (0, i) L).2, c + L.length) := by unfold actR; simp
    rw [e]
    exact tAdd4 h a b ha hb' l k cl ck L K hL hK sL sK is hc'
  by_cases h1 : kd = 1
  · subst h1
    have e : actR 1 a b L K is i c = ((runL opMul (4294967296, i) L).1, 0, (runL opMul (4294967296, i) L).2, c + L.length) := by unfold actR; simp
    rw [e]
    exact tMul4 h a b ha hb' l k cl ck L K hL hK sL sK is hc'
  by_cases h2 : kd = 2
  · subst h2
    have e : actR 2 a b L K is i c = ((opSub a b).1, 0, i || (opSub a b).2, c + 1) := by unfold actR; simp
    rw [e]
    exact tSub4 h a b ha hb' l k cl ck L K hL hK sL sK is hc'
  by_cases h3 : kd = 3
  · subst h3
    have e : actR 3 a b L K is i c = ((opDiv a b).1, 0, i || (opDiv a b).2, c + 1) := by unfold actR; simp
    rw [e]
    exact tDiv4 h a b ha hb' l k cl ck L K hL hK sL sK is hc'
  by_cases h4 : kd = 4
  · subst h4
    have e : actR 4 a b L K is i c = ((opHalf a b).1, 0, i || (opHalf a b).2, c + 1) := by unfold actR; simp
    rw [e]
    exact tHalf4 h a b ha hb' l k cl ck L K hL hK sL sK is hc'
  by_cases h5 : kd = 5
  · subst h5
    have e : actR 5 a b L K is i c = ((opSqrt a 0).1, 0, i || (opSqrt a 0).2, c + 1) := by unfold actR; simp
    rw [e]
    exact tSqrt4 h a b ha hb' l k cl ck L K hL hK sL sK is hc'
  by_cases h6 : kd = 6
  · subst h6
    have e : actR 6 a b L K is i c = ((opWhole a 0).1, 0, i || (opWhole a 0).2, c + 1) := by unfold actR; simp
    rw [e]
    exact tWhole4 h a b ha hb' l k cl ck L K hL hK sL sK is hc'
  by_cases h7 : kd = 7
  · subst h7
    by_cases hlen : L.length = K.length
    · have e : actR 7 a b L K is i c = ((runD (0, i) L K L.length).1, 0, (runD (0, i) L K L.length).2, c + 2 * L.length) := by unfold actR; simp [hlen]
      rw [e]
      exact tDot4 h a b ha hb' l k cl ck L K hL hK sL sK is hc' hlen
    · have e : actR 7 a b L K is i c = (0, 3, i, c) := by unfold actR; simp [hlen]
      rw [e]
      simp only
      rw [rput_self h]
      exact tDotNo4 h a b ha hb' l k cl ck L K hL hK sL sK is hc' hlen (by omega)
  by_cases h8 : kd = 8
  · subst h8
    have e : actR 8 a b L K is i c = (0, 0, i || is, c) := by unfold actR; simp
    rw [e]
    exact tSet4 h a b ha hb' l k cl ck L K hL hK sL sK is hc'
  by_cases h9 : kd = 9
  · subst h9
    have e : actR 9 a b L K is i c = (0, 0, false, c) := by unfold actR; simp
    rw [e]
    exact tClear4 h a b ha hb' l k cl ck L K hL hK sL sK is hc'
  have e : actR kd a b L K is i c = (0, 0, i, c) := by unfold actR; simp only [if_neg h0, if_neg h1, if_neg h2, if_neg h3, if_neg h4, if_neg h5, if_neg h6, if_neg h7, if_neg h8, if_neg h9]
  rw [e]
  simp only
  rw [rput_self h]
  exact tElse4 (UP U) kd a b _ _ is (by omega) w
theorem tAct {U : Nat} {i : Bool} {c : Int} {w0 w : World} (hb : Below w0.heap.size w0 w) (hU : w0.heap.size ≤ U) (h : RA U i c w) (x : ActX) (ok : x.ok w0) (lL : x.L.length ≤ 20) (lK : x.K.length ≤ 20) (hc : 0 ≤ c ∧ c ≤ 1000000) :
    Calls Tryz.prog 10 #[UP U, x.val] w fun e w' => e = .returned (.tuple #[.int .i64 (actR x.kd x.a x.b x.L x.K x.is i c).1, .int .i64 (actR x.kd x.a x.b x.L x.K x.is i c).2.1]) ∧
      Below (put U (actR x.kd x.a x.b x.L x.K x.is i c).2.2.1 (actR x.kd x.a x.b x.L x.K x.is i c).2.2.2 w).heap.size (put U (actR x.kd x.a x.b x.L x.K x.is i c).2.2.1 (actR x.kd x.a x.b x.L x.K x.is i c).2.2.2 w) w' :=
  tActS h x ok.ha ok.hb ok.hL ok.hK (ok.rL.sl hb hU (by omega) x.cl) (ok.rK.sl hb hU (by omega) x.ck) lL lK hc
/-- Two cells of block X written. -/
structure TwoSet (X : Nat) (v u : Value) (wd W : World) : Prop where
  c3 : W.cell? ⟨X, 3, none⟩ = some v
  c4 : W.cell? ⟨X, 4, none⟩ = some u
  oth : ∀ o, o ≠ 3 → o ≠ 4 → W.cell? ⟨X, o, none⟩ = wd.cell? ⟨X, o, none⟩
  far : ∀ B o, B ≠ X → W.cell? ⟨B, o, none⟩ = wd.cell? ⟨B, o, none⟩
  mark : ∀ a, W.frozen? a = wd.frozen? a
  size : W.heap.size = wd.heap.size
theorem two_set {X : Nat} {v u x3 x4 : Value} {wd : World} (p3 : wd.cell? ⟨X, 3, none⟩ = some x3) (p4 : wd.cell? ⟨X, 4, none⟩ = some x4) : TwoSet X v u wd ((wd.setCell ⟨X, 3, none⟩ v).setCell ⟨X, 4, none⟩ u) := by
  have q4 : (wd.setCell ⟨X, 3, none⟩ v).cell? ⟨X, 4, none⟩ = some x4 := by rw [World.cell?_setCell_other _ _ _ _ (by simp)]; exact p4
  refine ⟨?_, World.cell?_setCell_same _ _ _ q4, fun o h3 h4 => ?_, fun B o hB => ?_, fun a => ?_, by simp [World.setCell]⟩
  · rw [World.cell?_setCell_other _ _ _ _ (by simp)]; exact World.cell?_setCell_same _ _ _ p3
  · rw [World.cell?_setCell_other _ _ _ _ (by intro e; cases e; exact h4 rfl), World.cell?_setCell_other _ _ _ _ (by intro e; cases e; exact h3 rfl)]
  · rw [World.cell?_setCell_far _ _ _ _ (by show X ≠ B; omega), World.cell?_setCell_far _ _ _ _ (by show X ≠ B; omega)]
  · rw [World.frozen?_setCell, World.frozen?_setCell]
theorem TwoSet.ua {X : Nat} {v u : Value} {wd W : World} (t : TwoSet X v u wd W) {U : Nat} {i : Bool} {c : Int} (h : UA U i c wd) (hU : U ≠ X) : UA U i c W :=
  ⟨(t.far U 0 hU).trans h.c0, (t.far U 1 hU).trans h.c1, (t.far U 2 hU).trans h.c2, (t.mark _).trans h.f0, (t.mark _).trans h.f1⟩
theorem TwoSet.ra {X : Nat} {v u : Value} {wd W : World} (t : TwoSet X v u wd W) {U : Nat} {i : Bool} {c : Int} (h : RA U i c wd) (hU : U ≠ X) : RA U i c W :=
  ⟨(t.far U 0 hU).trans h.c0, (t.far U 1 hU).trans h.c1, (t.mark _).trans h.f0, (t.mark _).trans h.f1⟩
theorem TwoSet.rs {X : Nat} {v u : Value} {wd W : World} (t : TwoSet X v u wd W) {A : Option Addr} {n c : Nat} {zs : List Int} (h : RS .i64 wd A n c zs) (hX : ∀ b o, A = some ⟨b, o, none⟩ → b ≠ X) : RS .i64 W A n c zs :=
  ⟨h.len, h.cap, h.top, h.nil_, fun h0 => by
    obtain ⟨b, o, e, hb, hr⟩ := h.at_ h0
    exact ⟨b, o, e, by rw [t.size]; exact hb, fun j hj => (t.far b (o + j) (hX b o e)).trans (hr j hj)⟩⟩
theorem TwoSet.at_ {X : Nat} {v u : Value} {wd W : World} (t : TwoSet X v u wd W) {b o : Nat} {x : ActX} (h : ActAt wd b o x) (hX : b ≠ X) : ActAt W b o x :=
  ⟨(t.far b _ hX).trans h.c0, (t.far b _ hX).trans h.c1, (t.far b _ hX).trans h.c2, (t.far b _ hX).trans h.c3, (t.far b _ hX).trans h.c4, (t.far b _ hX).trans h.c5⟩
theorem ActAt.put {w : World} {b o : Nat} {x : ActX} (h : ActAt w b o x) {B : Nat} (hb : b ≠ B) (i : Bool) (c : Int) : ActAt (Proofs.YtlhadociaekkhaaGreat.put B i c w) b o x :=
  ⟨(put_cell B i c w _ hb).trans h.c0, (put_cell B i c w _ hb).trans h.c1, (put_cell B i c w _ hb).trans h.c2, (put_cell B i c w _ hb).trans h.c3, (put_cell B i c w _ hb).trans h.c4, (put_cell B i c w _ hb).trans h.c5⟩
end Go.Proofs.YtlhadociaekkhaaGreat
