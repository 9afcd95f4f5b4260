/- Package unit: flags, counts, one operation. -/
import Derived.Test.YtlhadociaekkhaaQUnit0
import Derived.Test.YtlhadociaekkhaaQRoot2
namespace Go.Proofs.Ytlhadociaekkhaa
set_option linter.unusedVariables false
open Go.RowKit
abbrev UP (B : Nat) : Value := .pointer (some ⟨B, 0, none⟩)
theorem uNone {B : Nat} {i : Bool} {c : Int} {w : World} (h : UA B i c w) :
    Calls Try.prog 65 #[UP B] w fun e w' => e = .returned (.bool false) ∧ Below w.heap.size w w' := by
  have c2 := h.c2
  clear h
  go_enter Try.func65, Try.ntmps65
  go_wp2_with fail
  go_ret
  exact ⟨rfl, Below.refl _ _⟩
theorem uCut {B : Nat} {i : Bool} {c : Int} {w : World} (h : UA B i c w) :
    Calls Try.prog 22 #[UP B] w fun e w' => e = .returned (.bool i) ∧ Below w.heap.size w w' := by
  have c0 := h.c0
  clear h
  go_enter Try.func22, Try.ntmps22
  go_wp2_with fail
  go_ret
  exact ⟨rfl, Below.refl _ _⟩
abbrev PutPost (B : Nat) (i : Bool) (c : Int) (w : World) (e0 : Ending) (e : Ending) (w' : World) : Prop := e = e0 ∧ Below (put B i c w).heap.size (put B i c w) w'
theorem uSet {B : Nat} {i : Bool} {c : Int} {w : World} (h : UA B i c w) (b : Bool) :
    Calls Try.prog 89 #[UP B, .bool b] w fun e w' => e = .returned (.tuple #[]) ∧ Below (put B (i || b) c w).heap.size (put B (i || b) c w) w' := by
  have c0 := h.c0
  have f0 := h.f0
  have hp := put_self h
  have hq := put_0 h true
  have HP := Lib.hid hp
  have HQ := Lib.hid hq
  clear hp hq h
  cases b
  · have e : (i || false) = i := by simp
    rw [e, HP.out]
    clear e
    go_enter Try.func89, Try.ntmps89
    go_wp2_with fail
    go_end0
    exact ⟨rfl, Below.refl _ _⟩
  · have e : (i || true) = true := by simp
    rw [e, ← HQ.out]
    clear e
    go_enter Try.func89, Try.ntmps89
    go_wp2_with fail
    go_end0
    exact ⟨rfl, Below.refl _ _⟩
theorem lift_put {B : Nat} {j : Bool} {d : Int} {v v' w' : World} (hv : Below v.heap.size v v') (h : Below (put B j d v').heap.size (put B j d v') w') : Below (put B j d v).heap.size (put B j d v) w' := by
  have h1 := below_put hv B j d
  have s1 := hv.size
  rw [put_size] at h ⊢
  exact h1.trans (h.mono s1)
theorem uDid {B : Nat} {i : Bool} {c : Int} {w : World} (h : UA B i c w) (hc : 0 ≤ c ∧ c ≤ 4611686018427387904) (n : Int) (cut : Bool) :
    Calls Try.prog 77 #[UP B, .int .i64 n, .bool cut] w fun e w' => e = .returned (.int .i64 n) ∧ Below (put B (i || cut) (c + 1) w).heap.size (put B (i || cut) (c + 1) w) w' := by
  have c1 := h.c1
  have f1 := h.f1
  have hp := put_1 h (c + 1)
  have hs := uSet (h.put i (c + 1)) cut
  rw [put_put] at hs
  clear h
  go_enter Try.func77, Try.ntmps77
  go_wp2_with (first | (go_at_call 89; with_reducible refine Calls_to (hs) (fun z => ?_)))
  go_ret
  exact ⟨rfl, past_below _ _⟩
theorem uDidP {B : Nat} {i : Bool} {c : Int} {w : World} (h : UA B i c w) (hc : 0 ≤ c ∧ c ≤ 4611686018427387904) (n : Int) (cut : Bool) (z : World) :
    Calls Try.prog 77 #[UP B, .int .i64 n, .bool cut] (past w z) fun e w' => e = .returned (.int .i64 n) ∧ Below (put B (i || cut) (c + 1) w).heap.size (put B (i || cut) (c + 1) w) w' :=
  (uDid (h.keep (past_below _ _)) hc n cut).mono fun e w' ⟨h1, h2⟩ => ⟨h1, lift_put (past_below _ _) h2⟩
def opAdd (a b : Int) : Int × Bool := (fitV (addW a b), cutW (addW a b) a b)
theorem uOneAdd {B : Nat} {i : Bool} {c : Int} {w : World} (h : UA B i c w) (hc : 0 ≤ c ∧ c ≤ 4611686018427387904) (a b : Int) (ha : InI a) (hb : InI b) :
    Calls Try.prog 66 #[UP B, .func (.func 67) #[] #[], .int .i64 a, .int .i64 b] w fun e w' => e = .returned (.int .i64 (opAdd a b).1) ∧ Below (put B (i || (opAdd a b).2) (c + 1) w).heap.size (put B (i || (opAdd a b).2) (c + 1) w) w' := by
  have hop : ∀ w, Calls Try.prog 67 #[.int .i64 a, .int .i64 b] w fun e w' => e = .returned (.tuple #[.int .i64 (opAdd a b).1, .bool (opAdd a b).2]) ∧ Below w.heap.size w w' := fun w => fAdd a b w ha hb
  obtain ⟨p, hp⟩ : ∃ p, opAdd a b = p := ⟨_, rfl⟩
  rw [hp] at hop ⊢
  obtain ⟨n, cut⟩ := p
  simp only at hop ⊢
  have hn := uNone h
  have hd := uDidP h hc n cut
  clear h hp
  go_enter Try.func66, Try.ntmps66
  go_wp2_with (first | (go_at_call 65; first | (with_reducible refine Calls_past2 (hn) (fun z => ?_)) | (with_reducible refine Calls_past (hn) (fun z => ?_))) | (go_at_call 67; first | (with_reducible refine Calls_past2 (hop _) (fun z => ?_)) | (with_reducible refine Calls_past (hop _) (fun z => ?_))) | (go_at_call 77; with_reducible refine Calls_to (hd _) (fun z => ?_)))
  go_ret
  exact ⟨rfl, past_below _ _⟩
def opMul (a b : Int) : Int × Bool := (fitV (mulW a b), cutW (mulW a b) a b)
theorem uOneMul {B : Nat} {i : Bool} {c : Int} {w : World} (h : UA B i c w) (hc : 0 ≤ c ∧ c ≤ 4611686018427387904) (a b : Int) (ha : InI a) (hb : InI b) :
    Calls Try.prog 66 #[UP B, .func (.func 68) #[] #[], .int .i64 a, .int .i64 b] w fun e w' => e = .returned (.int .i64 (opMul a b).1) ∧ Below (put B (i || (opMul a b).2) (c + 1) w).heap.size (put B (i || (opMul a b).2) (c + 1) w) w' := by
  have hop : ∀ w, Calls Try.prog 68 #[.int .i64 a, .int .i64 b] w fun e w' => e = .returned (.tuple #[.int .i64 (opMul a b).1, .bool (opMul a b).2]) ∧ Below w.heap.size w w' := fun w => fMul a b w ha hb
  obtain ⟨p, hp⟩ : ∃ p, opMul a b = p := ⟨_, rfl⟩
  rw [hp] at hop ⊢
  obtain ⟨n, cut⟩ := p
  simp only at hop ⊢
  have hn := uNone h
  have hd := uDidP h hc n cut
  clear h hp
  go_enter Try.func66, Try.ntmps66
  go_wp2_with (first | (go_at_call 65; first | (with_reducible refine Calls_past2 (hn) (fun z => ?_)) | (with_reducible refine Calls_past (hn) (fun z => ?_))) | (go_at_call 68; first | (with_reducible refine Calls_past2 (hop _) (fun z => ?_)) | (with_reducible refine Calls_past (hop _) (fun z => ?_))) | (go_at_call 77; with_reducible refine Calls_to (hd _) (fun z => ?_)))
  go_ret
  exact ⟨rfl, past_below _ _⟩
def opSub (a b : Int) : Int × Bool := (fitV (subW a b), cutW (subW a b) a b)
theorem uOneSub {B : Nat} {i : Bool} {c : Int} {w : World} (h : UA B i c w) (hc : 0 ≤ c ∧ c ≤ 4611686018427387904) (a b : Int) (ha : InI a) (hb : InI b) :
    Calls Try.prog 66 #[UP B, .func (.func 73) #[] #[], .int .i64 a, .int .i64 b] w fun e w' => e = .returned (.int .i64 (opSub a b).1) ∧ Below (put B (i || (opSub a b).2) (c + 1) w).heap.size (put B (i || (opSub a b).2) (c + 1) w) w' := by
  have hop : ∀ w, Calls Try.prog 73 #[.int .i64 a, .int .i64 b] w fun e w' => e = .returned (.tuple #[.int .i64 (opSub a b).1, .bool (opSub a b).2]) ∧ Below w.heap.size w w' := fun w => fSub a b w ha hb
  obtain ⟨p, hp⟩ : ∃ p, opSub a b = p := ⟨_, rfl⟩
  rw [hp] at hop ⊢
  obtain ⟨n, cut⟩ := p
  simp only at hop ⊢
  have hn := uNone h
  have hd := uDidP h hc n cut
  clear h hp
  go_enter Try.func66, Try.ntmps66
  go_wp2_with (first | (go_at_call 65; first | (with_reducible refine Calls_past2 (hn) (fun z => ?_)) | (with_reducible refine Calls_past (hn) (fun z => ?_))) | (go_at_call 73; first | (with_reducible refine Calls_past2 (hop _) (fun z => ?_)) | (with_reducible refine Calls_past (hop _) (fun z => ?_))) | (go_at_call 77; with_reducible refine Calls_to (hd _) (fun z => ?_)))
  go_ret
  exact ⟨rfl, past_below _ _⟩
def opDiv (a b : Int) : Int × Bool := (divV a b, divC a b)
def opHalf (a b : Int) : Int × Bool := (fitV (halfW a b), cutW (halfW a b) a b)
noncomputable def opSqrt (a b : Int) : Int × Bool := (sqtV a, sqtC a)
def opWhole (a b : Int) : Int × Bool := (fitV (a * 4294967296), fitC (a * 4294967296))
theorem uSub {B : Nat} {i : Bool} {c : Int} {w : World} (h : UA B i c w) (hc : 0 ≤ c ∧ c ≤ 4611686018427387904) (a b : Int) (ha : InI a) (hb : InI b) :
    Calls Try.prog 58 #[UP B, .int .i64 a, .int .i64 b] w fun e w' => e = .returned (.int .i64 (opSub a b).1) ∧ Below (put B (i || (opSub a b).2) (c + 1) w).heap.size (put B (i || (opSub a b).2) (c + 1) w) w' := by
  go_enter Try.func58, Try.ntmps58
  go_wp2_with (first | (go_at_call 66; with_reducible refine Calls_to (uOneSub h hc a b ha hb) (fun z => ?_)))
  go_ret
  exact ⟨rfl, past_below _ _⟩
end Go.Proofs.Ytlhadociaekkhaa
