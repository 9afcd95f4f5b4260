/- Package vec: what is farthest from 0; lists of ints side by side. -/
import Derived.Test.YtfhiodclbabdkaaVec1
namespace Go.Proofs.Ytfhiodclbabdkaa
set_option linter.unusedVariables false
set_option maxRecDepth 100000
open Go.RowKit
/-- The farthest of the first k numbers, the flag, and how many operations. -/
def mostR (i : Bool) (c : Int) (a : List Int) : Nat → Int × Bool × Int
  | 0 => (0, i, c)
  | k + 1 => if a.getD k 0 < 0 then (max (mostR i c a k).1 (opSub 0 (a.getD k 0)).1, (mostR i c a k).2.1 || (opSub 0 (a.getD k 0)).2, (mostR i c a k).2.2 + 1) else (max (mostR i c a k).1 (a.getD k 0), (mostR i c a k).2.1, (mostR i c a k).2.2)
theorem opSub_in (x y : Int) : InI (opSub x y).1 := by have := fitV_bd (subW x y); unfold opSub; exact ⟨by omega, by omega⟩
theorem mostR_in (i : Bool) (c : Int) {a : List Int} (ha : AllI a) (k : Nat) (hk : k ≤ a.length) : InI (mostR i c a k).1 := by
  induction k with
  | zero => exact ⟨by unfold mostR; omega, by unfold mostR; omega⟩
  | succ k ih =>
    have h1 := ih (by omega)
    have h2 := ha.get (k := k) (by omega)
    have h3 := opSub_in 0 (a.getD k 0)
    unfold mostR
    split
    · exact ⟨by simp only []; omega, by simp only []; omega⟩
    · exact ⟨by simp only []; omega, by simp only []; omega⟩
theorem mostR_cnt (i : Bool) (c : Int) (a : List Int) (k : Nat) : c ≤ (mostR i c a k).2.2 ∧ (mostR i c a k).2.2 ≤ c + k := by
  induction k with
  | zero => unfold mostR; simp only []; omega
  | succ k ih =>
    unfold mostR
    split <;> simp only [] <;> omega
set_option maxHeartbeats 4000000 in
theorem vMost {B : Nat} {i : Bool} {c : Int} {w : World} (h : UA B i c w) (v : Value) (a : List Int) (ha : AllI a) (hv : SL w B v a) (hc : 0 ≤ c ∧ c + a.length ≤ 4611686018427387904) :
    Calls Try.prog 25 #[UP B, v] w fun e w' => e = .returned (.tuple #[.int .i64 (mostR i c a a.length).1, .int .i64 0]) ∧
      Below (put B (mostR i c a a.length).2.1 (mostR i c a a.length).2.2 w).heap.size (put B (mostR i c a a.length).2.1 (mostR i c a a.length).2.2 w) w' := by
  have hm := vMade h (by omega)
  obtain ⟨A1, cp1, rfl, hl1, hr1⟩ := hv
  by_cases hz0 : a.length = 0
  · rw [hz0]
    have e0 : mostR i c a 0 = (0, i, c) := rfl
    rw [e0]
    simp only []
    rw [put_self h]
    clear h e0 ha hr1 hz0 hl1 hc
    go_enter Try.func25, Try.ntmps25
    go_wp2_with (first | (go_at_call 70; first | (with_reducible refine Calls_past2 (hm) (fun z => ?_)) | (with_reducible refine Calls_past (hm) (fun z => ?_))))
    go_loopg [6, 14] 1 (fun g s6 s14 wr => s6 = .int .i64 0 ∧ s14 = .int .i64 0 ∧ ∃ z, wr = past w z)
    case atStart => exact ⟨rfl, rfl, _, rfl⟩
    case round =>
      obtain ⟨rfl, rfl, z, rfl⟩ := hrel
      go_wp2_with fail
      go_ret2
      exact ⟨rfl, past_below _ _⟩
  obtain ⟨b1, o1, rfl, hb1, hw1, hc1⟩ := hr1 (by omega)
  have hBw := h.lt
  have H := Lib.hid h
  have HR1 := Lib.hid hc1
  have HA := Lib.hid ha
  have HC := Lib.hid hc
  have hst := ua_start h
  have HS := Lib.hid hst
  clear h hc1 hr1 ha hc hst
  go_enter Try.func25, Try.ntmps25
  go_wp2_with (first | (go_at_call 70; first | (with_reducible refine Calls_past2 (hm) (fun z => ?_)) | (with_reducible refine Calls_past (hm) (fun z => ?_))))
  clear hm
  go_loopg [6, 14] a.length (fun g s6 s14 wr => ∃ k : Nat, k ≤ a.length ∧ a.length ≤ g + k ∧ s14 = .int .i64 k ∧ s6 = .int .i64 (mostR i c a k).1 ∧ ∃ z, wr = past (put B (mostR i c a k).2.1 (mostR i c a k).2.2 w) z)
  case atStart =>
    refine ⟨0, by omega, by omega, rfl, rfl, z, ?_⟩
    have e0 : mostR i c a 0 = (0, i, c) := rfl
    rw [e0]
    simp only []
    rw [put_self H.out]
  case round =>
    obtain ⟨k, hk, hg, rfl, rfl, z, rfl⟩ := hrel
    have hcn := mostR_cnt i c a k
    have hin := mostR_in i c HA.out k hk
    by_cases hlt : k < a.length
    · have hnx : mostR i c a (k + 1) = if a.getD k 0 < 0 then (max (mostR i c a k).1 (opSub 0 (a.getD k 0)).1, (mostR i c a k).2.1 || (opSub 0 (a.getD k 0)).2, (mostR i c a k).2.2 + 1) else (max (mostR i c a k).1 (a.getD k 0), (mostR i c a k).2.1, (mostR i c a k).2.2) := rfl
      have hx := HA.out.get hlt
      have hcx := HR1.out k hlt
      obtain ⟨P, hP⟩ : ∃ P, mostR i c a k = P := ⟨_, rfl⟩
      obtain ⟨m, f, cc⟩ := P
      obtain ⟨x, hxx⟩ : ∃ x, a.getD k 0 = x := ⟨_, rfl⟩
      simp only [hP, hxx] at hnx hcn hin hx hcx ⊢
      by_cases hneg : x < 0
      · rw [if_pos hneg] at hnx
        have hs := fun (z : World) => uSub (ua_past H.out f cc z) (by have := HC.out; omega) 0 x ⟨by omega, by omega⟩ hx
        have hq2 := opSub_in 0 x
        obtain ⟨q, hq⟩ : ∃ q, opSub 0 x = q := ⟨_, rfl⟩
        simp only [hq] at hs hnx hq2
        obtain ⟨q1, q2⟩ := q
        simp only at hs hnx hq2
        have HX := Lib.hid hnx
        clear hP hxx hnx hq
        go_wp2_with (first | (go_at_call 67; with_reducible refine Calls_put (hs _) (fun z => ?_)))
        go_roundg (a.length - (k + 1))
        case measure => omega
        case rel => exact ⟨k + 1, by omega, by omega, by go_num, by rw [HX.out], z, by rw [HX.out]⟩
      · rw [if_neg hneg] at hnx
        have HX := Lib.hid hnx
        clear hP hxx hnx
        go_wp2_with fail
        go_roundg (a.length - (k + 1))
        case measure => omega
        case rel => exact ⟨k + 1, by omega, by omega, by go_num, by rw [HX.out], z, by rw [HX.out]⟩
    · obtain rfl : k = a.length := by omega
      go_wp2_with fail
      go_ret2
      exact ⟨rfl, past_below _ _⟩
end Go.Proofs.Ytfhiodclbabdkaa
