/- A call of a unit, by its kind (printed by mk_act.py). -/
import Derived.Test.YtlhadociaekkhaaGreatVec7
namespace Go.Proofs.YtlhadociaekkhaaGreat
set_option linter.unusedVariables false
set_option maxRecDepth 100000
open Go.RowKit
abbrev actV (kd a b : Int) (l : Value) (k : Value) (is : Bool) : Value := .agg #[.int .i64 kd, .int .i64 a, .int .i64 b, l, k, .bool is]
/-- What an act comes to: its number, its error, the flag, the count. -/
noncomputable def actR (kd a b : Int) (L K : List Int) (is i : Bool) (c : Int) : Int × Int × Bool × Int :=
  if kd = 0 then ((runL opAdd (0, i) L).1, 0, (runL opAdd (0, i) L).2, c + L.length)
  else if kd = 1 then ((runL opMul (4294967296, i) L).1, 0, (runL opMul (4294967296, i) L).2, c + L.length)
  else if kd = 2 then ((opSub a b).1, 0, i || (opSub a b).2, c + 1)
  else if kd = 3 then ((opDiv a b).1, 0, i || (opDiv a b).2, c + 1)
  else if kd = 4 then ((opHalf a b).1, 0, i || (opHalf a b).2, c + 1)
  else if kd = 5 then ((opSqrt a 0).1, 0, i || (opSqrt a 0).2, c + 1)
  else if kd = 6 then ((opWhole a 0).1, 0, i || (opWhole a 0).2, c + 1)
  else if kd = 7 then (if L.length = K.length then ((runD (0, i) L K L.length).1, 0, (runD (0, i) L K L.length).2, c + 2 * L.length) else (0, 3, i, c))
  else if kd = 8 then (0, 0, i || is, c)
  else if kd = 9 then (0, 0, false, c)
  else (0, 0, i, c)
theorem aAdd {U : Nat} {i : Bool} {c : Int} {w : World} (h : UA U i c w) (a b : Int) (ha : InI a) (hb : InI b) (A1 A2 : Option Addr) (c1 c2 : Nat) (L K : List Int) (hL : AllI L) (hK : AllI K) (sL : SL w U (.slice A1 L.length c1) L) (sK : SL w U (.slice A2 K.length c2) K) (is : Bool) (hc : 0 ≤ c ∧ c + 2 * L.length + 1 ≤ 4611686018427387904) :
    Calls Tryz.prog 9 #[UP U, actV 0 a b (.slice A1 L.length c1) (.slice A2 K.length c2) is] w fun e w' => e = .returned (.tuple #[.int .i64 (runL opAdd (0, i) L).1, .int .i64 0]) ∧ Below (put U ((runL opAdd (0, i) L).2) (c + (L.length : Int)) w).heap.size (put U ((runL opAdd (0, i) L).2) (c + (L.length : Int)) w) w' := by
  have hd := fun (W : World) (k : Below w.heap.size w W) => uAdd (h.keep k) _ L hL (sL.keep k) ⟨by omega, by omega⟩
  obtain ⟨p, hp⟩ : ∃ p, runL opAdd (0, i) L = p := ⟨_, rfl⟩
  rw [hp]
  simp only [hp] at hd
  obtain ⟨p, q⟩ := p
  simp only at hd ⊢
  have hUl := h.lt
  clear hp h sL sK hL hK
  go_enter Tryz.func9, Tryz.ntmps9
  go_wp2_with ((go_at_call 14; with_reducible refine Calls_to0 (hd _ ?_) (fun z => ?_); (focus ((first | ((repeat (first | assumption | exact Below.refl _ _ | with_reducible refine past_t _ ?_ | with_reducible refine below_a _ ?_ | with_reducible refine Below.drew ?_ | with_reducible refine below_d _ ?_ | (with_reducible refine Below.setCell ?_ (by (show _ ≤ _; repeat (first | exact Nat.le_refl _ | assumption | (omega; done) | with_reducible exact le_past (Nat.le_refl _) | with_reducible refine le_past ?_ | with_reducible refine le_al ?_ | with_reducible refine le_set ?_ | with_reducible refine le_p1 ?_))) _))); done) | (with_reducible rfl; done) | omega | (rfl; done) | (simp; done) | (simp [go_sem]; done) | (simp; omega) | (simp [go_sem]; omega)); done))))
  go_ret2
  exact ⟨rfl, by (repeat (first | assumption | exact Below.refl _ _ | with_reducible refine past_t _ ?_ | with_reducible refine below_a _ ?_ | with_reducible refine Below.drew ?_ | with_reducible refine below_d _ ?_ | (with_reducible refine Below.setCell ?_ (by (show _ ≤ _; repeat (first | exact Nat.le_refl _ | assumption | (omega; done) | with_reducible exact le_past (Nat.le_refl _) | with_reducible refine le_past ?_ | with_reducible refine le_al ?_ | with_reducible refine le_set ?_ | with_reducible refine le_p1 ?_))) _)))⟩
theorem aMul {U : Nat} {i : Bool} {c : Int} {w : World} (h : UA U i c w) (a b : Int) (ha : InI a) (hb : InI b) (A1 A2 : Option Addr) (c1 c2 : Nat) (L K : List Int) (hL : AllI L) (hK : AllI K) (sL : SL w U (.slice A1 L.length c1) L) (sK : SL w U (.slice A2 K.length c2) K) (is : Bool) (hc : 0 ≤ c ∧ c + 2 * L.length + 1 ≤ 4611686018427387904) :
    Calls Tryz.prog 9 #[UP U, actV 1 a b (.slice A1 L.length c1) (.slice A2 K.length c2) is] w fun e w' => e = .returned (.tuple #[.int .i64 (runL opMul (4294967296, i) L).1, .int .i64 0]) ∧ Below (put U ((runL opMul (4294967296, i) L).2) (c + (L.length : Int)) w).heap.size (put U ((runL opMul (4294967296, i) L).2) (c + (L.length : Int)) w) w' := by
  have hd := fun (W : World) (k : Below w.heap.size w W) => uMul (h.keep k) _ L hL (sL.keep k) ⟨by omega, by omega⟩
  obtain ⟨p, hp⟩ : ∃ p, runL opMul (4294967296, i) L = p := ⟨_, rfl⟩
  rw [hp]
  simp only [hp] at hd
  obtain ⟨p, q⟩ := p
  simp only at hd ⊢
  have hUl := h.lt
  clear hp h sL sK hL hK
  go_enter Tryz.func9, Tryz.ntmps9
  go_wp2_with ((go_at_call 15; with_reducible refine Calls_to0 (hd _ ?_) (fun z => ?_); (focus ((first | ((repeat (first | assumption | exact Below.refl _ _ | with_reducible refine past_t _ ?_ | with_reducible refine below_a _ ?_ | with_reducible refine Below.drew ?_ | with_reducible refine below_d _ ?_ | (with_reducible refine Below.setCell ?_ (by (show _ ≤ _; repeat (first | exact Nat.le_refl _ | assumption | (omega; done) | with_reducible exact le_past (Nat.le_refl _) | with_reducible refine le_past ?_ | with_reducible refine le_al ?_ | with_reducible refine le_set ?_ | with_reducible refine le_p1 ?_))) _))); done) | (with_reducible rfl; done) | omega | (rfl; done) | (simp; done) | (simp [go_sem]; done) | (simp; omega) | (simp [go_sem]; omega)); done))))
  go_ret2
  exact ⟨rfl, by (repeat (first | assumption | exact Below.refl _ _ | with_reducible refine past_t _ ?_ | with_reducible refine below_a _ ?_ | with_reducible refine Below.drew ?_ | with_reducible refine below_d _ ?_ | (with_reducible refine Below.setCell ?_ (by (show _ ≤ _; repeat (first | exact Nat.le_refl _ | assumption | (omega; done) | with_reducible exact le_past (Nat.le_refl _) | with_reducible refine le_past ?_ | with_reducible refine le_al ?_ | with_reducible refine le_set ?_ | with_reducible refine le_p1 ?_))) _)))⟩
theorem aSub {U : Nat} {i : Bool} {c : Int} {w : World} (h : UA U i c w) (a b : Int) (ha : InI a) (hb : InI b) (A1 A2 : Option Addr) (c1 c2 : Nat) (L K : List Int) (hL : AllI L) (hK : AllI K) (sL : SL w U (.slice A1 L.length c1) L) (sK : SL w U (.slice A2 K.length c2) K) (is : Bool) (hc : 0 ≤ c ∧ c + 2 * L.length + 1 ≤ 4611686018427387904) :
    Calls Tryz.prog 9 #[UP U, actV 2 a b (.slice A1 L.length c1) (.slice A2 K.length c2) is] w fun e w' => e = .returned (.tuple #[.int .i64 (opSub a b).1, .int .i64 0]) ∧ Below (put U (i || (opSub a b).2) (c + 1) w).heap.size (put U (i || (opSub a b).2) (c + 1) w) w' := by
  have hd := fun (W : World) (k : Below w.heap.size w W) => uSub (h.keep k) ⟨by omega, by omega⟩ a b ha hb
  obtain ⟨p, hp⟩ : ∃ p, opSub a b = p := ⟨_, rfl⟩
  rw [hp]
  simp only [hp] at hd
  obtain ⟨p, q⟩ := p
  simp only at hd ⊢
  have hUl := h.lt
  clear hp h sL sK hL hK
  go_enter Tryz.func9, Tryz.ntmps9
  go_wp2_with ((go_at_call 17; with_reducible refine Calls_to0 (hd _ ?_) (fun z => ?_); (focus ((first | ((repeat (first | assumption | exact Below.refl _ _ | with_reducible refine past_t _ ?_ | with_reducible refine below_a _ ?_ | with_reducible refine Below.drew ?_ | with_reducible refine below_d _ ?_ | (with_reducible refine Below.setCell ?_ (by (show _ ≤ _; repeat (first | exact Nat.le_refl _ | assumption | (omega; done) | with_reducible exact le_past (Nat.le_refl _) | with_reducible refine le_past ?_ | with_reducible refine le_al ?_ | with_reducible refine le_set ?_ | with_reducible refine le_p1 ?_))) _))); done) | (with_reducible rfl; done) | omega | (rfl; done) | (simp; done) | (simp [go_sem]; done) | (simp; omega) | (simp [go_sem]; omega)); done))))
  go_ret2
  exact ⟨rfl, by (repeat (first | assumption | exact Below.refl _ _ | with_reducible refine past_t _ ?_ | with_reducible refine below_a _ ?_ | with_reducible refine Below.drew ?_ | with_reducible refine below_d _ ?_ | (with_reducible refine Below.setCell ?_ (by (show _ ≤ _; repeat (first | exact Nat.le_refl _ | assumption | (omega; done) | with_reducible exact le_past (Nat.le_refl _) | with_reducible refine le_past ?_ | with_reducible refine le_al ?_ | with_reducible refine le_set ?_ | with_reducible refine le_p1 ?_))) _)))⟩
theorem aDiv {U : Nat} {i : Bool} {c : Int} {w : World} (h : UA U i c w) (a b : Int) (ha : InI a) (hb : InI b) (A1 A2 : Option Addr) (c1 c2 : Nat) (L K : List Int) (hL : AllI L) (hK : AllI K) (sL : SL w U (.slice A1 L.length c1) L) (sK : SL w U (.slice A2 K.length c2) K) (is : Bool) (hc : 0 ≤ c ∧ c + 2 * L.length + 1 ≤ 4611686018427387904) :
    Calls Tryz.prog 9 #[UP U, actV 3 a b (.slice A1 L.length c1) (.slice A2 K.length c2) is] w fun e w' => e = .returned (.tuple #[.int .i64 (opDiv a b).1, .int .i64 0]) ∧ Below (put U (i || (opDiv a b).2) (c + 1) w).heap.size (put U (i || (opDiv a b).2) (c + 1) w) w' := by
  have hd := fun (W : World) (k : Below w.heap.size w W) => uDiv (h.keep k) ⟨by omega, by omega⟩ a b ha hb
  obtain ⟨p, hp⟩ : ∃ p, opDiv a b = p := ⟨_, rfl⟩
  rw [hp]
  simp only [hp] at hd
  obtain ⟨p, q⟩ := p
  simp only at hd ⊢
  have hUl := h.lt
  clear hp h sL sK hL hK
  go_enter Tryz.func9, Tryz.ntmps9
  go_wp2_with ((go_at_call 18; with_reducible refine Calls_to0 (hd _ ?_) (fun z => ?_); (focus ((first | ((repeat (first | assumption | exact Below.refl _ _ | with_reducible refine past_t _ ?_ | with_reducible refine below_a _ ?_ | with_reducible refine Below.drew ?_ | with_reducible refine below_d _ ?_ | (with_reducible refine Below.setCell ?_ (by (show _ ≤ _; repeat (first | exact Nat.le_refl _ | assumption | (omega; done) | with_reducible exact le_past (Nat.le_refl _) | with_reducible refine le_past ?_ | with_reducible refine le_al ?_ | with_reducible refine le_set ?_ | with_reducible refine le_p1 ?_))) _))); done) | (with_reducible rfl; done) | omega | (rfl; done) | (simp; done) | (simp [go_sem]; done) | (simp; omega) | (simp [go_sem]; omega)); done))))
  go_ret2
  exact ⟨rfl, by (repeat (first | assumption | exact Below.refl _ _ | with_reducible refine past_t _ ?_ | with_reducible refine below_a _ ?_ | with_reducible refine Below.drew ?_ | with_reducible refine below_d _ ?_ | (with_reducible refine Below.setCell ?_ (by (show _ ≤ _; repeat (first | exact Nat.le_refl _ | assumption | (omega; done) | with_reducible exact le_past (Nat.le_refl _) | with_reducible refine le_past ?_ | with_reducible refine le_al ?_ | with_reducible refine le_set ?_ | with_reducible refine le_p1 ?_))) _)))⟩
theorem aHalf {U : Nat} {i : Bool} {c : Int} {w : World} (h : UA U i c w) (a b : Int) (ha : InI a) (hb : InI b) (A1 A2 : Option Addr) (c1 c2 : Nat) (L K : List Int) (hL : AllI L) (hK : AllI K) (sL : SL w U (.slice A1 L.length c1) L) (sK : SL w U (.slice A2 K.length c2) K) (is : Bool) (hc : 0 ≤ c ∧ c + 2 * L.length + 1 ≤ 4611686018427387904) :
    Calls Tryz.prog 9 #[UP U, actV 4 a b (.slice A1 L.length c1) (.slice A2 K.length c2) is] w fun e w' => e = .returned (.tuple #[.int .i64 (opHalf a b).1, .int .i64 0]) ∧ Below (put U (i || (opHalf a b).2) (c + 1) w).heap.size (put U (i || (opHalf a b).2) (c + 1) w) w' := by
  have hd := fun (W : World) (k : Below w.heap.size w W) => uHalf (h.keep k) ⟨by omega, by omega⟩ a b ha hb
  obtain ⟨p, hp⟩ : ∃ p, opHalf a b = p := ⟨_, rfl⟩
  rw [hp]
  simp only [hp] at hd
  obtain ⟨p, q⟩ := p
  simp only at hd ⊢
  have hUl := h.lt
  clear hp h sL sK hL hK
  go_enter Tryz.func9, Tryz.ntmps9
  go_wp2_with ((go_at_call 19; with_reducible refine Calls_to0 (hd _ ?_) (fun z => ?_); (focus ((first | ((repeat (first | assumption | exact Below.refl _ _ | with_reducible refine past_t _ ?_ | with_reducible refine below_a _ ?_ | with_reducible refine Below.drew ?_ | with_reducible refine below_d _ ?_ | (with_reducible refine Below.setCell ?_ (by (show _ ≤ _; repeat (first | exact Nat.le_refl _ | assumption | (omega; done) | with_reducible exact le_past (Nat.le_refl _) | with_reducible refine le_past ?_ | with_reducible refine le_al ?_ | with_reducible refine le_set ?_ | with_reducible refine le_p1 ?_))) _))); done) | (with_reducible rfl; done) | omega | (rfl; done) | (simp; done) | (simp [go_sem]; done) | (simp; omega) | (simp [go_sem]; omega)); done))))
  go_ret2
  exact ⟨rfl, by (repeat (first | assumption | exact Below.refl _ _ | with_reducible refine past_t _ ?_ | with_reducible refine below_a _ ?_ | with_reducible refine Below.drew ?_ | with_reducible refine below_d _ ?_ | (with_reducible refine Below.setCell ?_ (by (show _ ≤ _; repeat (first | exact Nat.le_refl _ | assumption | (omega; done) | with_reducible exact le_past (Nat.le_refl _) | with_reducible refine le_past ?_ | with_reducible refine le_al ?_ | with_reducible refine le_set ?_ | with_reducible refine le_p1 ?_))) _)))⟩
theorem aSqrt {U : Nat} {i : Bool} {c : Int} {w : World} (h : UA U i c w) (a b : Int) (ha : InI a) (hb : InI b) (A1 A2 : Option Addr) (c1 c2 : Nat) (L K : List Int) (hL : AllI L) (hK : AllI K) (sL : SL w U (.slice A1 L.length c1) L) (sK : SL w U (.slice A2 K.length c2) K) (is : Bool) (hc : 0 ≤ c ∧ c + 2 * L.length + 1 ≤ 4611686018427387904) :
    Calls Tryz.prog 9 #[UP U, actV 5 a b (.slice A1 L.length c1) (.slice A2 K.length c2) is] w fun e w' => e = .returned (.tuple #[.int .i64 (opSqrt a 0).1, .int .i64 0]) ∧ Below (put U (i || (opSqrt a 0).2) (c + 1) w).heap.size (put U (i || (opSqrt a 0).2) (c + 1) w) w' := by
  have hd := fun (W : World) (k : Below w.heap.size w W) => uSqrt (h.keep k) ⟨by omega, by omega⟩ a ha
  obtain ⟨p, hp⟩ : ∃ p, opSqrt a 0 = p := ⟨_, rfl⟩
  rw [hp]
  simp only [hp] at hd
  obtain ⟨p, q⟩ := p
  simp only at hd ⊢
  have hUl := h.lt
  clear hp h sL sK hL hK
  go_enter Tryz.func9, Tryz.ntmps9
  go_wp2_with ((go_at_call 20; with_reducible refine Calls_to0 (hd _ ?_) (fun z => ?_); (focus ((first | ((repeat (first | assumption | exact Below.refl _ _ | with_reducible refine past_t _ ?_ | with_reducible refine below_a _ ?_ | with_reducible refine Below.drew ?_ | with_reducible refine below_d _ ?_ | (with_reducible refine Below.setCell ?_ (by (show _ ≤ _; repeat (first | exact Nat.le_refl _ | assumption | (omega; done) | with_reducible exact le_past (Nat.le_refl _) | with_reducible refine le_past ?_ | with_reducible refine le_al ?_ | with_reducible refine le_set ?_ | with_reducible refine le_p1 ?_))) _))); done) | (with_reducible rfl; done) | omega | (rfl; done) | (simp; done) | (simp [go_sem]; done) | (simp; omega) | (simp [go_sem]; omega)); done))))
  go_ret2
  exact ⟨rfl, by (repeat (first | assumption | exact Below.refl _ _ | with_reducible refine past_t _ ?_ | with_reducible refine below_a _ ?_ | with_reducible refine Below.drew ?_ | with_reducible refine below_d _ ?_ | (with_reducible refine Below.setCell ?_ (by (show _ ≤ _; repeat (first | exact Nat.le_refl _ | assumption | (omega; done) | with_reducible exact le_past (Nat.le_refl _) | with_reducible refine le_past ?_ | with_reducible refine le_al ?_ | with_reducible refine le_set ?_ | with_reducible refine le_p1 ?_))) _)))⟩
theorem aWhole {U : Nat} {i : Bool} {c : Int} {w : World} (h : UA U i c w) (a b : Int) (ha : InI a) (hb : InI b) (A1 A2 : Option Addr) (c1 c2 : Nat) (L K : List Int) (hL : AllI L) (hK : AllI K) (sL : SL w U (.slice A1 L.length c1) L) (sK : SL w U (.slice A2 K.length c2) K) (is : Bool) (hc : 0 ≤ c ∧ c + 2 * L.length + 1 ≤ 4611686018427387904) :
    Calls Tryz.prog 9 #[UP U, actV 6 a b (.slice A1 L.length c1) (.slice A2 K.length c2) is] w fun e w' => e = .returned (.tuple #[.int .i64 (opWhole a 0).1, .int .i64 0]) ∧ Below (put U (i || (opWhole a 0).2) (c + 1) w).heap.size (put U (i || (opWhole a 0).2) (c + 1) w) w' := by
  have hd := fun (W : World) (k : Below w.heap.size w W) => uWhole (h.keep k) ⟨by omega, by omega⟩ a ha
  obtain ⟨p, hp⟩ : ∃ p, opWhole a 0 = p := ⟨_, rfl⟩
  rw [hp]
  simp only [hp] at hd
  obtain ⟨p, q⟩ := p
  simp only at hd ⊢
  have hUl := h.lt
  clear hp h sL sK hL hK
  go_enter Tryz.func9, Tryz.ntmps9
  go_wp2_with ((go_at_call 21; with_reducible refine Calls_to0 (hd _ ?_) (fun z => ?_); (focus ((first | ((repeat (first | assumption | exact Below.refl _ _ | with_reducible refine past_t _ ?_ | with_reducible refine below_a _ ?_ | with_reducible refine Below.drew ?_ | with_reducible refine below_d _ ?_ | (with_reducible refine Below.setCell ?_ (by (show _ ≤ _; repeat (first | exact Nat.le_refl _ | assumption | (omega; done) | with_reducible exact le_past (Nat.le_refl _) | with_reducible refine le_past ?_ | with_reducible refine le_al ?_ | with_reducible refine le_set ?_ | with_reducible refine le_p1 ?_))) _))); done) | (with_reducible rfl; done) | omega | (rfl; done) | (simp; done) | (simp [go_sem]; done) | (simp; omega) | (simp [go_sem]; omega)); done))))
  go_ret2
  exact ⟨rfl, by (repeat (first | assumption | exact Below.refl _ _ | with_reducible refine past_t _ ?_ | with_reducible refine below_a _ ?_ | with_reducible refine Below.drew ?_ | with_reducible refine below_d _ ?_ | (with_reducible refine Below.setCell ?_ (by (show _ ≤ _; repeat (first | exact Nat.le_refl _ | assumption | (omega; done) | with_reducible exact le_past (Nat.le_refl _) | with_reducible refine le_past ?_ | with_reducible refine le_al ?_ | with_reducible refine le_set ?_ | with_reducible refine le_p1 ?_))) _)))⟩
theorem aDot {U : Nat} {i : Bool} {c : Int} {w : World} (h : UA U i c w) (a b : Int) (ha : InI a) (hb : InI b) (A1 A2 : Option Addr) (c1 c2 : Nat) (L K : List Int) (hL : AllI L) (hK : AllI K) (sL : SL w U (.slice A1 L.length c1) L) (sK : SL w U (.slice A2 K.length c2) K) (is : Bool) (hc : 0 ≤ c ∧ c + 2 * L.length + 1 ≤ 4611686018427387904) (hlen : L.length = K.length) :
    Calls Tryz.prog 9 #[UP U, actV 7 a b (.slice A1 L.length c1) (.slice A2 K.length c2) is] w fun e w' => e = .returned (.tuple #[.int .i64 (runD (0, i) L K L.length).1, .int .i64 0]) ∧ Below (put U ((runD (0, i) L K L.length).2) (c + 2 * (L.length : Int)) w).heap.size (put U ((runD (0, i) L K L.length).2) (c + 2 * (L.length : Int)) w) w' := by
  have hd := fun (W : World) (k : Below w.heap.size w W) => uDot (h.keep k) _ _ L K hL hK (sL.keep k) (sK.keep k) hlen ⟨by omega, by omega⟩
  obtain ⟨p, hp⟩ : ∃ p, runD (0, i) L K L.length = p := ⟨_, rfl⟩
  rw [hp]
  simp only [hp] at hd
  obtain ⟨p, q⟩ := p
  simp only at hd ⊢
  have hUl := h.lt
  clear hp h sL sK hL hK hlen
  go_enter Tryz.func9, Tryz.ntmps9
  go_wp2_with ((go_at_call 16; with_reducible refine Calls_to0 (hd _ ?_) (fun z => ?_); (focus ((first | ((repeat (first | assumption | exact Below.refl _ _ | with_reducible refine past_t _ ?_ | with_reducible refine below_a _ ?_ | with_reducible refine Below.drew ?_ | with_reducible refine below_d _ ?_ | (with_reducible refine Below.setCell ?_ (by (show _ ≤ _; repeat (first | exact Nat.le_refl _ | assumption | (omega; done) | with_reducible exact le_past (Nat.le_refl _) | with_reducible refine le_past ?_ | with_reducible refine le_al ?_ | with_reducible refine le_set ?_ | with_reducible refine le_p1 ?_))) _))); done) | (with_reducible rfl; done) | omega | (rfl; done) | (simp; done) | (simp [go_sem]; done) | (simp; omega) | (simp [go_sem]; omega)); done))))
  go_ret2
  exact ⟨rfl, by (repeat (first | assumption | exact Below.refl _ _ | with_reducible refine past_t _ ?_ | with_reducible refine below_a _ ?_ | with_reducible refine Below.drew ?_ | with_reducible refine below_d _ ?_ | (with_reducible refine Below.setCell ?_ (by (show _ ≤ _; repeat (first | exact Nat.le_refl _ | assumption | (omega; done) | with_reducible exact le_past (Nat.le_refl _) | with_reducible refine le_past ?_ | with_reducible refine le_al ?_ | with_reducible refine le_set ?_ | with_reducible refine le_p1 ?_))) _)))⟩
theorem aDotNo {U : Nat} {i : Bool} {c : Int} {w : World} (h : UA U i c w) (a b : Int) (ha : InI a) (hb : InI b) (A1 A2 : Option Addr) (c1 c2 : Nat) (L K : List Int) (hL : AllI L) (hK : AllI K) (sL : SL w U (.slice A1 L.length c1) L) (sK : SL w U (.slice A2 K.length c2) K) (is : Bool) (hc : 0 ≤ c ∧ c + 2 * L.length + 1 ≤ 4611686018427387904) (hlen : L.length ≠ K.length) (hK2 : K.length ≤ 4611686018427387904) :
    Calls Tryz.prog 9 #[UP U, actV 7 a b (.slice A1 L.length c1) (.slice A2 K.length c2) is] w fun e w' => e = .returned (.tuple #[.int .i64 0, .int .i64 3]) ∧ Below w.heap.size w w' := by
  have hd := fun (W : World) (k : Below w.heap.size w W) => uDotNo (h.keep k) A1 A2 L.length K.length c1 c2 hlen (by omega) hK2
  have hUl := h.lt
  clear h sL sK hL hK hlen
  go_enter Tryz.func9, Tryz.ntmps9
  go_wp2_with ((go_at_call 16; with_reducible refine Calls_past (hd _ ?_) (fun z => ?_); (focus ((first | ((repeat (first | assumption | exact Below.refl _ _ | with_reducible refine past_t _ ?_ | with_reducible refine below_a _ ?_ | with_reducible refine Below.drew ?_ | with_reducible refine below_d _ ?_ | (with_reducible refine Below.setCell ?_ (by (show _ ≤ _; repeat (first | exact Nat.le_refl _ | assumption | (omega; done) | with_reducible exact le_past (Nat.le_refl _) | with_reducible refine le_past ?_ | with_reducible refine le_al ?_ | with_reducible refine le_set ?_ | with_reducible refine le_p1 ?_))) _))); done) | (with_reducible rfl; done) | omega | (rfl; done) | (simp; done) | (simp [go_sem]; done) | (simp; omega) | (simp [go_sem]; omega)); done))))
  go_ret2
  exact ⟨rfl, by (repeat (first | assumption | exact Below.refl _ _ | with_reducible refine past_t _ ?_ | with_reducible refine below_a _ ?_ | with_reducible refine Below.drew ?_ | with_reducible refine below_d _ ?_ | (with_reducible refine Below.setCell ?_ (by (show _ ≤ _; repeat (first | exact Nat.le_refl _ | assumption | (omega; done) | with_reducible exact le_past (Nat.le_refl _) | with_reducible refine le_past ?_ | with_reducible refine le_al ?_ | with_reducible refine le_set ?_ | with_reducible refine le_p1 ?_))) _)))⟩
theorem aSet {U : Nat} {i : Bool} {c : Int} {w : World} (h : UA U i c w) (a b : Int) (ha : InI a) (hb : InI b) (A1 A2 : Option Addr) (c1 c2 : Nat) (L K : List Int) (hL : AllI L) (hK : AllI K) (sL : SL w U (.slice A1 L.length c1) L) (sK : SL w U (.slice A2 K.length c2) K) (is : Bool) (hc : 0 ≤ c ∧ c + 2 * L.length + 1 ≤ 4611686018427387904) :
    Calls Tryz.prog 9 #[UP U, actV 8 a b (.slice A1 L.length c1) (.slice A2 K.length c2) is] w fun e w' => e = .returned (.tuple #[.int .i64 0, .int .i64 0]) ∧ Below (put U (i || is) (c) w).heap.size (put U (i || is) (c) w) w' := by
  have hd := fun (W : World) (k : Below w.heap.size w W) => uSet (h.keep k) is
  have hUl := h.lt
  obtain ⟨q, hq⟩ : ∃ q, (i || is) = q := ⟨_, rfl⟩
  simp only [hq] at hd ⊢
  clear h sL sK hL hK hq
  go_enter Tryz.func9, Tryz.ntmps9
  go_wp2_with fail
  (first | refine region_past2_tail 5 (by kernel_rfl) (by kernel_rfl) ?_ | refine region_past_tail 5 (by kernel_rfl) (by kernel_rfl) ?_); simp only [List.take_succ_cons, List.take_zero, List.drop_succ_cons, List.drop_zero]
  repeat (go_big_quiet_step (fail))
  refine wpQuiet_nil ?_; rintro _ ⟨y, rfl⟩
  go_wp2_with ((go_at_call 22; with_reducible refine Calls_to0 (hd _ ?_) (fun z => ?_); (focus ((first | ((repeat (first | assumption | exact Below.refl _ _ | with_reducible refine past_t _ ?_ | with_reducible refine below_a _ ?_ | with_reducible refine Below.drew ?_ | with_reducible refine below_d _ ?_ | (with_reducible refine Below.setCell ?_ (by (show _ ≤ _; repeat (first | exact Nat.le_refl _ | assumption | (omega; done) | with_reducible exact le_past (Nat.le_refl _) | with_reducible refine le_past ?_ | with_reducible refine le_al ?_ | with_reducible refine le_set ?_ | with_reducible refine le_p1 ?_))) _))); done) | (with_reducible rfl; done) | omega | (rfl; done) | (simp; done) | (simp [go_sem]; done) | (simp; omega) | (simp [go_sem]; omega)); done))))
  go_ret2
  exact ⟨rfl, by (repeat (first | assumption | exact Below.refl _ _ | with_reducible refine past_t _ ?_ | with_reducible refine below_a _ ?_ | with_reducible refine Below.drew ?_ | with_reducible refine below_d _ ?_ | (with_reducible refine Below.setCell ?_ (by (show _ ≤ _; repeat (first | exact Nat.le_refl _ | assumption | (omega; done) | with_reducible exact le_past (Nat.le_refl _) | with_reducible refine le_past ?_ | with_reducible refine le_al ?_ | with_reducible refine le_set ?_ | with_reducible refine le_p1 ?_))) _)))⟩
theorem aClear {U : Nat} {i : Bool} {c : Int} {w : World} (h : UA U i c w) (a b : Int) (ha : InI a) (hb : InI b) (A1 A2 : Option Addr) (c1 c2 : Nat) (L K : List Int) (hL : AllI L) (hK : AllI K) (sL : SL w U (.slice A1 L.length c1) L) (sK : SL w U (.slice A2 K.length c2) K) (is : Bool) (hc : 0 ≤ c ∧ c + 2 * L.length + 1 ≤ 4611686018427387904) :
    Calls Tryz.prog 9 #[UP U, actV 9 a b (.slice A1 L.length c1) (.slice A2 K.length c2) is] w fun e w' => e = .returned (.tuple #[.int .i64 0, .int .i64 0]) ∧ Below (put U (false) (c) w).heap.size (put U (false) (c) w) w' := by
  have hd := fun (W : World) (k : Below w.heap.size w W) => uClear (h.keep k)
  have hUl := h.lt
  clear h sL sK hL hK
  go_enter Tryz.func9, Tryz.ntmps9
  go_wp2_with ((go_at_call 23; with_reducible refine Calls_to0 (hd _ ?_) (fun z => ?_); (focus ((first | ((repeat (first | assumption | exact Below.refl _ _ | with_reducible refine past_t _ ?_ | with_reducible refine below_a _ ?_ | with_reducible refine Below.drew ?_ | with_reducible refine below_d _ ?_ | (with_reducible refine Below.setCell ?_ (by (show _ ≤ _; repeat (first | exact Nat.le_refl _ | assumption | (omega; done) | with_reducible exact le_past (Nat.le_refl _) | with_reducible refine le_past ?_ | with_reducible refine le_al ?_ | with_reducible refine le_set ?_ | with_reducible refine le_p1 ?_))) _))); done) | (with_reducible rfl; done) | omega | (rfl; done) | (simp; done) | (simp [go_sem]; done) | (simp; omega) | (simp [go_sem]; omega)); done))))
  go_ret2
  exact ⟨rfl, by (repeat (first | assumption | exact Below.refl _ _ | with_reducible refine past_t _ ?_ | with_reducible refine below_a _ ?_ | with_reducible refine Below.drew ?_ | with_reducible refine below_d _ ?_ | (with_reducible refine Below.setCell ?_ (by (show _ ≤ _; repeat (first | exact Nat.le_refl _ | assumption | (omega; done) | with_reducible exact le_past (Nat.le_refl _) | with_reducible refine le_past ?_ | with_reducible refine le_al ?_ | with_reducible refine le_set ?_ | with_reducible refine le_p1 ?_))) _)))⟩
theorem aElse (v : Value) (kd a b : Int) (v1 v2 : Value) (is : Bool) (hk : kd < 0 ∨ 9 < kd) (w : World) :
    Calls Tryz.prog 9 #[v, actV kd a b v1 v2 is] w fun e w' => e = .returned (.tuple #[.int .i64 0, .int .i64 0]) ∧ Below w.heap.size w w' := by
  have e0 : (kd == 0) = false := by simp; omega
  have e1 : (kd == 1) = false := by simp; omega
  have e2 : (kd == 2) = false := by simp; omega
  have e3 : (kd == 3) = false := by simp; omega
  have e4 : (kd == 4) = false := by simp; omega
  have e5 : (kd == 5) = false := by simp; omega
  have e6 : (kd == 6) = false := by simp; omega
  have e7 : (kd == 7) = false := by simp; omega
  have e8 : (kd == 8) = false := by simp; omega
  have e9 : (kd == 9) = false := by simp; omega
  clear hk
  go_enter Tryz.func9, Tryz.ntmps9
  go_wp2_with fail
  go_ret2
  exact ⟨rfl, by (repeat (first | assumption | exact Below.refl _ _ | with_reducible refine past_t _ ?_ | with_reducible refine below_a _ ?_ | with_reducible refine Below.drew ?_ | with_reducible refine below_d _ ?_ | (with_reducible refine Below.setCell ?_ (by (show _ ≤ _; repeat (first | exact Nat.le_refl _ | assumption | (omega; done) | with_reducible exact le_past (Nat.le_refl _) | with_reducible refine le_past ?_ | with_reducible refine le_al ?_ | with_reducible refine le_set ?_ | with_reducible refine le_p1 ?_))) _)))⟩
end Go.Proofs.YtlhadociaekkhaaGreat
