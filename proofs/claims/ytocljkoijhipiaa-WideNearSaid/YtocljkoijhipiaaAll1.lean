/- Round and Div of the program and of the reference at whatever numbers. -/
import Derived.Test.YtocljkoijhipiaaRef5
import Derived.Test.YtocljkoijhipiaaRFit
namespace Go.Proofs.Ytocljkoijhipiaa
set_option linter.unusedVariables false
open Go.RowKit
theorem Inv.cons {w : World} {L : List (Nat × Int)} {S : List (Nat × Nat)} {W : World} (h : Inv w L S W) (x : Int) : Inv w ((W.heap.size, x) :: L) S (W.alloc (Obj.cells #[.int .i64 (whi x), .int .u64 (wlo x)] 24)) := by
  refine ⟨?_, (h.one _).s, (h.one _).B⟩
  intro p hp
  rcases List.mem_cons.1 hp with rfl | hp
  · exact WC.new W x
  · exact (h.one _).c p hp
theorem Inv.tail {w : World} {q : Nat × Int} {L : List (Nat × Int)} {S : List (Nat × Nat)} {W : World} (h : Inv w (q :: L) S W) : Inv w L S W := ⟨fun p hp => h.c p (List.mem_cons_of_mem _ hp), h.s, h.B⟩
theorem Inv.push {w : World} {b : Nat} {x : Int} {L : List (Nat × Int)} {S : List (Nat × Nat)} {W : World} (h : Inv w L S W) (c : WC b x W) : Inv w ((b, x) :: L) S W := by
  refine ⟨?_, h.s, h.B⟩
  intro p hp
  rcases List.mem_cons.1 hp with rfl | hp
  · exact c
  · exact h.c p hp
theorem wne {a b : Int} (h : a < b) (ha : -170141183460469231731687303715884105728 ≤ a) (hb : b < 170141183460469231731687303715884105728) : ¬ whi a = whi b ∨ ¬ wlo a = wlo b := by unfold whi wlo; omega
def roundV (x n : Int) : Int := if 0 ≤ n ∧ n ≤ 127 then rnd x (2 ^ n.toNat) else 0
def roundE (n : Int) : Int := if 0 ≤ n ∧ n ≤ 127 then 0 else 2
def divV (x d : Int) : Int := if d = 0 then 0 else dvr x d
def divE (d : Int) : Int := if d = 0 then 2 else 0
theorem wRoundA (x n : Int) (w : World) (h : -170141183460469231731687303715884105728 ≤ x ∧ x < 170141183460469231731687303715884105728) :
    Calls Try.prog 27 #[WV x, .int .i64 n] w fun e w' => e = .returned (.tuple #[WV (roundV x n), .int .i64 (roundE n)]) ∧ Below w.heap.size w w' := by
  unfold roundV roundE
  by_cases hn : 0 ≤ n ∧ n ≤ 127
  · rw [if_pos hn, if_pos hn]; exact wRound x n w h.1 h.2 hn.1 hn.2
  · rw [if_neg hn, if_neg hn]; exact wRound_bad x n w (by omega)
theorem rRoundA (x n : Int) (w : World) (h : -170141183460469231731687303715884105728 ≤ x ∧ x < 170141183460469231731687303715884105728) :
    Calls Try.prog 28 #[WV x, .int .i64 n] w fun e w' => e = .returned (.tuple #[WV (roundV x n), .int .i64 (roundE n)]) ∧ Below w.heap.size w w' := by
  unfold roundV roundE
  by_cases hn : 0 ≤ n ∧ n ≤ 127
  · rw [if_pos hn, if_pos hn]; exact rRound x n w h.1 h.2 hn.1 hn.2
  · rw [if_neg hn, if_neg hn]; exact rRound_bad x n w (by omega)
theorem wDivA (x d : Int) (w : World) (h : -170141183460469231731687303715884105728 ≤ x ∧ x < 170141183460469231731687303715884105728) (g : -9223372036854775808 ≤ d ∧ d ≤ 9223372036854775807) :
    Calls Try.prog 29 #[WV x, .int .i64 d] w fun e w' => e = .returned (.tuple #[WV (divV x d), .int .i64 (divE d)]) ∧ Below w.heap.size w w' := by
  unfold divV divE
  by_cases hd : d = 0
  · rw [if_pos hd, if_pos hd, hd]; exact wDiv_zero x w
  · rw [if_neg hd, if_neg hd]; exact wDiv x d w h.1 h.2 g.1 g.2 hd
theorem rDivA (x d : Int) (w : World) (h : -170141183460469231731687303715884105728 ≤ x ∧ x < 170141183460469231731687303715884105728) (g : -9223372036854775808 ≤ d ∧ d ≤ 9223372036854775807) :
    Calls Try.prog 30 #[WV x, .int .i64 d] w fun e w' => e = .returned (.tuple #[WV (divV x d), .int .i64 (divE d)]) ∧ Below w.heap.size w w' := by
  unfold divV divE
  by_cases hd : d = 0
  · rw [if_pos hd, if_pos hd, hd]; exact rDiv_zero x w
  · rw [if_neg hd, if_neg hd]; exact rDiv x d w h.1 h.2 g.1 g.2 hd
end Go.Proofs.Ytocljkoijhipiaa
