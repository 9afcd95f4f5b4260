/- Package unit: flags, counts, one operation. -/
import Derived.Test.YtlhadociaekkhaaGreatUnit0
import Derived.Test.YtlhadociaekkhaaGreatRoot2
namespace Go.Proofs.YtlhadociaekkhaaGreat
set_option linter.unusedVariables false
open Go.RowKit
abbrev UP (B : Nat) : Value := .pointer (some ⟨B, 0, none⟩)
theorem uNone {B : Nat} {i : Bool} {c : Int} {w : World} (h : UA B i c w) :
    Calls Tryz.prog 34 #[UP B] w fun e w' => e = .returned (.bool false) ∧ Below w.heap.size w w' := by
  have c2 := h.c2
  clear h
  go_enter Tryz.func34, Tryz.ntmps34
  go_wp2_with fail
  go_ret
  exact ⟨rfl, Below.refl _ _⟩
theorem uCut {B : Nat} {i : Bool} {c : Int} {w : World} (h : UA B i c w) :
    Calls Tryz.prog 11 #[UP B] w fun e w' => e = .returned (.bool i) ∧ Below w.heap.size w w' := by
  have c0 := h.c0
  clear h
  go_enter Tryz.func11, Tryz.ntmps11
  go_wp2_with fail
  go_ret
  exact ⟨rfl, Below.refl _ _⟩
theorem uCount {B : Nat} {i : Bool} {c : Int} {w : World} (h : UA B i c w) :
    Calls Tryz.prog 12 #[UP B] w fun e w' => e = .returned (.int .i64 c) ∧ Below w.heap.size w w' := by
  have c1 := h.c1
  have hn := uNone h
  go_enter Tryz.func12, Tryz.ntmps12
  go_wp2_with (first | (go_at_call 34; first | (with_reducible refine Calls_past2 (hn) (fun z => ?_)) | (with_reducible refine Calls_past (hn) (fun z => ?_))))
  go_ret
  exact ⟨rfl, by (repeat (first | assumption | exact Below.refl _ _ | with_reducible refine past_t _ ?_ | with_reducible refine below_a _ ?_ | with_reducible refine Below.drew ?_ | with_reducible refine below_d _ ?_ | (with_reducible refine Below.setCell ?_ (by (show _ ≤ _; repeat (first | exact Nat.le_refl _ | assumption | (omega; done) | with_reducible exact le_past (Nat.le_refl _) | with_reducible refine le_past ?_ | with_reducible refine le_al ?_ | with_reducible refine le_set ?_ | with_reducible refine le_p1 ?_))) _)))⟩
abbrev PutPost (B : Nat) (i : Bool) (c : Int) (w : World) (e0 : Ending) (e : Ending) (w' : World) : Prop := e = e0 ∧ Below (put B i c w).heap.size (put B i c w) w'
theorem uSet {B : Nat} {i : Bool} {c : Int} {w : World} (h : UA B i c w) (b : Bool) :
    Calls Tryz.prog 22 #[UP B, .bool b] w fun e w' => e = .returned (.tuple #[]) ∧ Below (put B (i || b) c w).heap.size (put B (i || b) c w) w' := by
  have c0 := h.c0
  have f0 := h.f0
  have hp := put_self h
  have hq := put_0 h true
  have HP := Lib.hid hp
  have HQ := Lib.hid hq
  clear hp hq h
  cases b
  · have e : (i || false) = i := by simp
    rw [e, HP.out]
    clear e
    go_enter Tryz.func22, Tryz.ntmps22
    go_wp2_with fail
    go_end0
    exact ⟨rfl, Below.refl _ _⟩
  · have e : (i || true) = true := by simp
    rw [e, ← HQ.out]
    clear e
    go_enter Tryz.func22, Tryz.ntmps22
    go_wp2_with fail
    go_end0
    exact ⟨rfl, Below.refl _ _⟩
theorem uClear {B : Nat} {i : Bool} {c : Int} {w : World} (h : UA B i c w) :
    Calls Tryz.prog 23 #[UP B] w fun e w' => e = .returned (.tuple #[]) ∧ Below (put B false c w).heap.size (put B false c w) w' := by
  have c0 := h.c0
  have f0 := h.f0
  rw [← put_0 h false]
  clear h
  go_enter Tryz.func23, Tryz.ntmps23
  go_wp2_with fail
  go_end0
  exact ⟨rfl, Below.refl _ _⟩
theorem lift_put {B : Nat} {j : Bool} {d : Int} {v v' w' : World} (hv : Below v.heap.size v v') (h : Below (put B j d v').heap.size (put B j d v') w') : Below (put B j d v).heap.size (put B j d v) w' := by
  have h1 := below_put hv B j d
  have s1 := hv.size
  rw [put_size] at h ⊢
  exact h1.trans (h.mono s1)
theorem uDid {B : Nat} {i : Bool} {c : Int} {w : World} (h : UA B i c w) (hc : 0 ≤ c ∧ c ≤ 4611686018427387904) (n : Int) (cut : Bool) :
    Calls Tryz.prog 54 #[UP B, .int .i64 n, .bool cut] w fun e w' => e = .returned (.int .i64 n) ∧ Below (put B (i || cut) (c + 1) w).heap.size (put B (i || cut) (c + 1) w) w' := by
  have c1 := h.c1
  have f1 := h.f1
  have hp := put_1 h (c + 1)
  have hs := uSet (h.put i (c + 1)) cut
  rw [put_put] at hs
  clear h
  go_enter Tryz.func54, Tryz.ntmps54
  go_wp2_with (first | (go_at_call 22; with_reducible refine Calls_to (hs) (fun z => ?_)))
  go_ret
  exact ⟨rfl, past_below _ _⟩
theorem uDidP {B : Nat} {i : Bool} {c : Int} {w : World} (h : UA B i c w) (hc : 0 ≤ c ∧ c ≤ 4611686018427387904) (n : Int) (cut : Bool) (z : World) :
    Calls Tryz.prog 54 #[UP B, .int .i64 n, .bool cut] (past w z) fun e w' => e = .returned (.int .i64 n) ∧ Below (put B (i || cut) (c + 1) w).heap.size (put B (i || cut) (c + 1) w) w' :=
  (uDid (h.keep (past_below _ _)) hc n cut).mono fun e w' ⟨h1, h2⟩ => ⟨h1, lift_put (past_below _ _) h2⟩
theorem uSqrt1 (a b : Int) (w : World) (ha : InI a) :
    Calls Tryz.prog 42 #[.int .i64 a, .int .i64 b] w fun e w' => e = .returned (.tuple #[.int .i64 (sqtV a), .bool (sqtC a)]) ∧ Below w.heap.size w w' := by
  go_enter Tryz.func42, Tryz.ntmps42
  go_wp2_with (first | (go_at_call 43; first | (with_reducible refine Calls_past2 (tSqrt a _ ha.1 ha.2) (fun z => ?_)) | (with_reducible refine Calls_past (tSqrt a _ ha.1 ha.2) (fun z => ?_))))
  go_ret2
  exact ⟨rfl, by (repeat (first | assumption | exact Below.refl _ _ | with_reducible refine past_t _ ?_ | with_reducible refine below_a _ ?_ | with_reducible refine Below.drew ?_ | with_reducible refine below_d _ ?_ | (with_reducible refine Below.setCell ?_ (by (show _ ≤ _; repeat (first | exact Nat.le_refl _ | assumption | (omega; done) | with_reducible exact le_past (Nat.le_refl _) | with_reducible refine le_past ?_ | with_reducible refine le_al ?_ | with_reducible refine le_set ?_ | with_reducible refine le_p1 ?_))) _)))⟩
theorem uWhole1 (a b : Int) (w : World) (ha : InI a) :
    Calls Tryz.prog 44 #[.int .i64 a, .int .i64 b] w fun e w' => e = .returned (.tuple #[.int .i64 (fitV (a * 4294967296)), .bool (fitC (a * 4294967296))]) ∧ Below w.heap.size w w' := by
  go_enter Tryz.func44, Tryz.ntmps44
  go_wp2_with (first | (go_at_call 45; first | (with_reducible refine Calls_past2 (fWhole a _ ha) (fun z => ?_)) | (with_reducible refine Calls_past (fWhole a _ ha) (fun z => ?_))))
  go_ret2
  exact ⟨rfl, by (repeat (first | assumption | exact Below.refl _ _ | with_reducible refine past_t _ ?_ | with_reducible refine below_a _ ?_ | with_reducible refine Below.drew ?_ | with_reducible refine below_d _ ?_ | (with_reducible refine Below.setCell ?_ (by (show _ ≤ _; repeat (first | exact Nat.le_refl _ | assumption | (omega; done) | with_reducible exact le_past (Nat.le_refl _) | with_reducible refine le_past ?_ | with_reducible refine le_al ?_ | with_reducible refine le_set ?_ | with_reducible refine le_p1 ?_))) _)))⟩
def opAdd (a b : Int) : Int × Bool := (fitV (addW a b), cutW (addW a b) a b)
theorem uOneAdd {B : Nat} {i : Bool} {c : Int} {w : World} (h : UA B i c w) (hc : 0 ≤ c ∧ c ≤ 4611686018427387904) (a b : Int) (ha : InI a) (hb : InI b) :
    Calls Tryz.prog 38 #[UP B, .func (.func 36) #[] #[], .int .i64 a, .int .i64 b] w fun e w' => e = .returned (.int .i64 (opAdd a b).1) ∧ Below (put B (i || (opAdd a b).2) (c + 1) w).heap.size (put B (i || (opAdd a b).2) (c + 1) w) w' := by
  have hop : ∀ w, Calls Tryz.prog 36 #[.int .i64 a, .int .i64 b] w fun e w' => e = .returned (.tuple #[.int .i64 (opAdd a b).1, .bool (opAdd a b).2]) ∧ Below w.heap.size w w' := fun w => fAdd a b w ha hb
  obtain ⟨p, hp⟩ : ∃ p, opAdd a b = p := ⟨_, rfl⟩
  rw [hp] at hop ⊢
  obtain ⟨n, cut⟩ := p
  simp only at hop ⊢
  have hn := uNone h
  have hd := uDidP h hc n cut
  clear h hp
  go_enter Tryz.func38, Tryz.ntmps38
  go_wp2_with (first | (go_at_call 34; first | (with_reducible refine Calls_past2 (hn) (fun z => ?_)) | (with_reducible refine Calls_past (hn) (fun z => ?_))) | (go_at_call 36; first | (with_reducible refine Calls_past2 (hop _) (fun z => ?_)) | (with_reducible refine Calls_past (hop _) (fun z => ?_))) | (go_at_call 54; with_reducible refine Calls_to (hd _) (fun z => ?_)))
  go_ret
  exact ⟨rfl, past_below _ _⟩
def opMul (a b : Int) : Int × Bool := (fitV (mulW a b), cutW (mulW a b) a b)
theorem uOneMul {B : Nat} {i : Bool} {c : Int} {w : World} (h : UA B i c w) (hc : 0 ≤ c ∧ c ≤ 4611686018427387904) (a b : Int) (ha : InI a) (hb : InI b) :
    Calls Tryz.prog 38 #[UP B, .func (.func 37) #[] #[], .int .i64 a, .int .i64 b] w fun e w' => e = .returned (.int .i64 (opMul a b).1) ∧ Below (put B (i || (opMul a b).2) (c + 1) w).heap.size (put B (i || (opMul a b).2) (c + 1) w) w' := by
  have hop : ∀ w, Calls Tryz.prog 37 #[.int .i64 a, .int .i64 b] w fun e w' => e = .returned (.tuple #[.int .i64 (opMul a b).1, .bool (opMul a b).2]) ∧ Below w.heap.size w w' := fun w => fMul a b w ha hb
  obtain ⟨p, hp⟩ : ∃ p, opMul a b = p := ⟨_, rfl⟩
  rw [hp] at hop ⊢
  obtain ⟨n, cut⟩ := p
  simp only at hop ⊢
  have hn := uNone h
  have hd := uDidP h hc n cut
  clear h hp
  go_enter Tryz.func38, Tryz.ntmps38
  go_wp2_with (first | (go_at_call 34; first | (with_reducible refine Calls_past2 (hn) (fun z => ?_)) | (with_reducible refine Calls_past (hn) (fun z => ?_))) | (go_at_call 37; first | (with_reducible refine Calls_past2 (hop _) (fun z => ?_)) | (with_reducible refine Calls_past (hop _) (fun z => ?_))) | (go_at_call 54; with_reducible refine Calls_to (hd _) (fun z => ?_)))
  go_ret
  exact ⟨rfl, past_below _ _⟩
def opSub (a b : Int) : Int × Bool := (fitV (subW a b), cutW (subW a b) a b)
theorem uOneSub {B : Nat} {i : Bool} {c : Int} {w : World} (h : UA B i c w) (hc : 0 ≤ c ∧ c ≤ 4611686018427387904) (a b : Int) (ha : InI a) (hb : InI b) :
    Calls Tryz.prog 38 #[UP B, .func (.func 39) #[] #[], .int .i64 a, .int .i64 b] w fun e w' => e = .returned (.int .i64 (opSub a b).1) ∧ Below (put B (i || (opSub a b).2) (c + 1) w).heap.size (put B (i || (opSub a b).2) (c + 1) w) w' := by
  have hop : ∀ w, Calls Tryz.prog 39 #[.int .i64 a, .int .i64 b] w fun e w' => e = .returned (.tuple #[.int .i64 (opSub a b).1, .bool (opSub a b).2]) ∧ Below w.heap.size w w' := fun w => fSub a b w ha hb
  obtain ⟨p, hp⟩ : ∃ p, opSub a b = p := ⟨_, rfl⟩
  rw [hp] at hop ⊢
  obtain ⟨n, cut⟩ := p
  simp only at hop ⊢
  have hn := uNone h
  have hd := uDidP h hc n cut
  clear h hp
  go_enter Tryz.func38, Tryz.ntmps38
  go_wp2_with (first | (go_at_call 34; first | (with_reducible refine Calls_past2 (hn) (fun z => ?_)) | (with_reducible refine Calls_past (hn) (fun z => ?_))) | (go_at_call 39; first | (with_reducible refine Calls_past2 (hop _) (fun z => ?_)) | (with_reducible refine Calls_past (hop _) (fun z => ?_))) | (go_at_call 54; with_reducible refine Calls_to (hd _) (fun z => ?_)))
  go_ret
  exact ⟨rfl, past_below _ _⟩
def opDiv (a b : Int) : Int × Bool := (divV a b, divC a b)
theorem uOneDiv {B : Nat} {i : Bool} {c : Int} {w : World} (h : UA B i c w) (hc : 0 ≤ c ∧ c ≤ 4611686018427387904) (a b : Int) (ha : InI a) (hb : InI b) :
    Calls Tryz.prog 38 #[UP B, .func (.func 40) #[] #[], .int .i64 a, .int .i64 b] w fun e w' => e = .returned (.int .i64 (opDiv a b).1) ∧ Below (put B (i || (opDiv a b).2) (c + 1) w).heap.size (put B (i || (opDiv a b).2) (c + 1) w) w' := by
  have hop : ∀ w, Calls Tryz.prog 40 #[.int .i64 a, .int .i64 b] w fun e w' => e = .returned (.tuple #[.int .i64 (opDiv a b).1, .bool (opDiv a b).2]) ∧ Below w.heap.size w w' := fun w => fDiv a b w ha hb
  obtain ⟨p, hp⟩ : ∃ p, opDiv a b = p := ⟨_, rfl⟩
  rw [hp] at hop ⊢
  obtain ⟨n, cut⟩ := p
  simp only at hop ⊢
  have hn := uNone h
  have hd := uDidP h hc n cut
  clear h hp
  go_enter Tryz.func38, Tryz.ntmps38
  go_wp2_with (first | (go_at_call 34; first | (with_reducible refine Calls_past2 (hn) (fun z => ?_)) | (with_reducible refine Calls_past (hn) (fun z => ?_))) | (go_at_call 40; first | (with_reducible refine Calls_past2 (hop _) (fun z => ?_)) | (with_reducible refine Calls_past (hop _) (fun z => ?_))) | (go_at_call 54; with_reducible refine Calls_to (hd _) (fun z => ?_)))
  go_ret
  exact ⟨rfl, past_below _ _⟩
def opHalf (a b : Int) : Int × Bool := (fitV (halfW a b), cutW (halfW a b) a b)
theorem uOneHalf {B : Nat} {i : Bool} {c : Int} {w : World} (h : UA B i c w) (hc : 0 ≤ c ∧ c ≤ 4611686018427387904) (a b : Int) (ha : InI a) (hb : InI b) :
    Calls Tryz.prog 38 #[UP B, .func (.func 41) #[] #[], .int .i64 a, .int .i64 b] w fun e w' => e = .returned (.int .i64 (opHalf a b).1) ∧ Below (put B (i || (opHalf a b).2) (c + 1) w).heap.size (put B (i || (opHalf a b).2) (c + 1) w) w' := by
  have hop : ∀ w, Calls Tryz.prog 41 #[.int .i64 a, .int .i64 b] w fun e w' => e = .returned (.tuple #[.int .i64 (opHalf a b).1, .bool (opHalf a b).2]) ∧ Below w.heap.size w w' := fun w => fHalf a b w ha hb
  obtain ⟨p, hp⟩ : ∃ p, opHalf a b = p := ⟨_, rfl⟩
  rw [hp] at hop ⊢
  obtain ⟨n, cut⟩ := p
  simp only at hop ⊢
  have hn := uNone h
  have hd := uDidP h hc n cut
  clear h hp
  go_enter Tryz.func38, Tryz.ntmps38
  go_wp2_with (first | (go_at_call 34; first | (with_reducible refine Calls_past2 (hn) (fun z => ?_)) | (with_reducible refine Calls_past (hn) (fun z => ?_))) | (go_at_call 41; first | (with_reducible refine Calls_past2 (hop _) (fun z => ?_)) | (with_reducible refine Calls_past (hop _) (fun z => ?_))) | (go_at_call 54; with_reducible refine Calls_to (hd _) (fun z => ?_)))
  go_ret
  exact ⟨rfl, past_below _ _⟩
noncomputable def opSqrt (a b : Int) : Int × Bool := (sqtV a, sqtC a)
theorem uOneSqrt {B : Nat} {i : Bool} {c : Int} {w : World} (h : UA B i c w) (hc : 0 ≤ c ∧ c ≤ 4611686018427387904) (a b : Int) (ha : InI a) (hb : InI b) :
    Calls Tryz.prog 38 #[UP B, .func (.func 42) #[] #[], .int .i64 a, .int .i64 b] w fun e w' => e = .returned (.int .i64 (opSqrt a b).1) ∧ Below (put B (i || (opSqrt a b).2) (c + 1) w).heap.size (put B (i || (opSqrt a b).2) (c + 1) w) w' := by
  have hop : ∀ w, Calls Tryz.prog 42 #[.int .i64 a, .int .i64 b] w fun e w' => e = .returned (.tuple #[.int .i64 (opSqrt a b).1, .bool (opSqrt a b).2]) ∧ Below w.heap.size w w' := fun w => uSqrt1 a b w ha
  obtain ⟨p, hp⟩ : ∃ p, opSqrt a b = p := ⟨_, rfl⟩
  rw [hp] at hop ⊢
  obtain ⟨n, cut⟩ := p
  simp only at hop ⊢
  have hn := uNone h
  have hd := uDidP h hc n cut
  clear h hp
  go_enter Tryz.func38, Tryz.ntmps38
  go_wp2_with (first | (go_at_call 34; first | (with_reducible refine Calls_past2 (hn) (fun z => ?_)) | (with_reducible refine Calls_past (hn) (fun z => ?_))) | (go_at_call 42; first | (with_reducible refine Calls_past2 (hop _) (fun z => ?_)) | (with_reducible refine Calls_past (hop _) (fun z => ?_))) | (go_at_call 54; with_reducible refine Calls_to (hd _) (fun z => ?_)))
  go_ret
  exact ⟨rfl, past_below _ _⟩
def opWhole (a b : Int) : Int × Bool := (fitV (a * 4294967296), fitC (a * 4294967296))
theorem uOneWhole {B : Nat} {i : Bool} {c : Int} {w : World} (h : UA B i c w) (hc : 0 ≤ c ∧ c ≤ 4611686018427387904) (a b : Int) (ha : InI a) (hb : InI b) :
    Calls Tryz.prog 38 #[UP B, .func (.func 44) #[] #[], .int .i64 a, .int .i64 b] w fun e w' => e = .returned (.int .i64 (opWhole a b).1) ∧ Below (put B (i || (opWhole a b).2) (c + 1) w).heap.size (put B (i || (opWhole a b).2) (c + 1) w) w' := by
  have hop : ∀ w, Calls Tryz.prog 44 #[.int .i64 a, .int .i64 b] w fun e w' => e = .returned (.tuple #[.int .i64 (opWhole a b).1, .bool (opWhole a b).2]) ∧ Below w.heap.size w w' := fun w => uWhole1 a b w ha
  obtain ⟨p, hp⟩ : ∃ p, opWhole a b = p := ⟨_, rfl⟩
  rw [hp] at hop ⊢
  obtain ⟨n, cut⟩ := p
  simp only at hop ⊢
  have hn := uNone h
  have hd := uDidP h hc n cut
  clear h hp
  go_enter Tryz.func38, Tryz.ntmps38
  go_wp2_with (first | (go_at_call 34; first | (with_reducible refine Calls_past2 (hn) (fun z => ?_)) | (with_reducible refine Calls_past (hn) (fun z => ?_))) | (go_at_call 44; first | (with_reducible refine Calls_past2 (hop _) (fun z => ?_)) | (with_reducible refine Calls_past (hop _) (fun z => ?_))) | (go_at_call 54; with_reducible refine Calls_to (hd _) (fun z => ?_)))
  go_ret
  exact ⟨rfl, past_below _ _⟩
theorem uSub {B : Nat} {i : Bool} {c : Int} {w : World} (h : UA B i c w) (hc : 0 ≤ c ∧ c ≤ 4611686018427387904) (a b : Int) (ha : InI a) (hb : InI b) :
    Calls Tryz.prog 17 #[UP B, .int .i64 a, .int .i64 b] w fun e w' => e = .returned (.int .i64 (opSub a b).1) ∧ Below (put B (i || (opSub a b).2) (c + 1) w).heap.size (put B (i || (opSub a b).2) (c + 1) w) w' := by
  go_enter Tryz.func17, Tryz.ntmps17
  go_wp2_with (first | (go_at_call 38; with_reducible refine Calls_to (uOneSub h hc a b ha hb) (fun z => ?_)))
  go_ret
  exact ⟨rfl, past_below _ _⟩
theorem uDiv {B : Nat} {i : Bool} {c : Int} {w : World} (h : UA B i c w) (hc : 0 ≤ c ∧ c ≤ 4611686018427387904) (a b : Int) (ha : InI a) (hb : InI b) :
    Calls Tryz.prog 18 #[UP B, .int .i64 a, .int .i64 b] w fun e w' => e = .returned (.int .i64 (opDiv a b).1) ∧ Below (put B (i || (opDiv a b).2) (c + 1) w).heap.size (put B (i || (opDiv a b).2) (c + 1) w) w' := by
  go_enter Tryz.func18, Tryz.ntmps18
  go_wp2_with (first | (go_at_call 38; with_reducible refine Calls_to (uOneDiv h hc a b ha hb) (fun z => ?_)))
  go_ret
  exact ⟨rfl, past_below _ _⟩
theorem uHalf {B : Nat} {i : Bool} {c : Int} {w : World} (h : UA B i c w) (hc : 0 ≤ c ∧ c ≤ 4611686018427387904) (a b : Int) (ha : InI a) (hb : InI b) :
    Calls Tryz.prog 19 #[UP B, .int .i64 a, .int .i64 b] w fun e w' => e = .returned (.int .i64 (opHalf a b).1) ∧ Below (put B (i || (opHalf a b).2) (c + 1) w).heap.size (put B (i || (opHalf a b).2) (c + 1) w) w' := by
  go_enter Tryz.func19, Tryz.ntmps19
  go_wp2_with (first | (go_at_call 38; with_reducible refine Calls_to (uOneHalf h hc a b ha hb) (fun z => ?_)))
  go_ret
  exact ⟨rfl, past_below _ _⟩
theorem uSqrt {B : Nat} {i : Bool} {c : Int} {w : World} (h : UA B i c w) (hc : 0 ≤ c ∧ c ≤ 4611686018427387904) (a : Int) (ha : InI a) :
    Calls Tryz.prog 20 #[UP B, .int .i64 a] w fun e w' => e = .returned (.int .i64 (opSqrt a 0).1) ∧ Below (put B (i || (opSqrt a 0).2) (c + 1) w).heap.size (put B (i || (opSqrt a 0).2) (c + 1) w) w' := by
  go_enter Tryz.func20, Tryz.ntmps20
  go_wp2_with (first | (go_at_call 38; with_reducible refine Calls_to (uOneSqrt h hc a 0 ha (by omega)) (fun z => ?_)))
  go_ret
  exact ⟨rfl, past_below _ _⟩
theorem uWhole {B : Nat} {i : Bool} {c : Int} {w : World} (h : UA B i c w) (hc : 0 ≤ c ∧ c ≤ 4611686018427387904) (a : Int) (ha : InI a) :
    Calls Tryz.prog 21 #[UP B, .int .i64 a] w fun e w' => e = .returned (.int .i64 (opWhole a 0).1) ∧ Below (put B (i || (opWhole a 0).2) (c + 1) w).heap.size (put B (i || (opWhole a 0).2) (c + 1) w) w' := by
  go_enter Tryz.func21, Tryz.ntmps21
  go_wp2_with (first | (go_at_call 38; with_reducible refine Calls_to (uOneWhole h hc a 0 ha (by omega)) (fun z => ?_)))
  go_ret
  exact ⟨rfl, past_below _ _⟩
end Go.Proofs.YtlhadociaekkhaaGreat
