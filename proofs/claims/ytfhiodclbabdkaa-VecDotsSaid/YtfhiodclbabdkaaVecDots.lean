/- The Dot of a sum is the sum of Dots, but for two parts a number, if nothing is cut; it hangs on no order of two. -/
import Derived.Test.YtfhiodclbabdkaaVec7
import Derived.Test.YtfhiodclbabdkaaRows1
import Derived.Deep.DeepCutAuto
import Derived.Deep.LoopGhost
import Derived.WalkKit
import Derived.ProofKit
import Derived.OpenShut
import Derived.ShutString
import Derived.ChangeOld
import Derived.Below
import Derived.Lib.SmallJoins
namespace Go.Proofs.Ytfhiodclbabdkaa.vecDots
open Go.ChangeShapes Go.WideShapes Go.ChangeAt Go.RowKit
open Go.ChangeMaps (open_string shut_string)
open Go.Joins
set_option linter.unusedVariables false
theorem own : ownKnob Try.prog.godebug = none := by kernel_rfl
theorem laidOut : laidOutB Try.prog = true := by kernel_rfl
def IsRow (k : IntKind) (w : World) (a : Option Addr) (len cap : Nat) (zs : List Int) : Prop :=
  (a = none ∧ len = 0 ∧ cap = 0 ∧ zs = []) ∨
  ∃ x, a = some x ∧ len ≤ cap ∧ cap ≤ maxLen ∧ zs.length = cap ∧ (∀ i, i < zs.length → w.cell? (x.add i) = some (.int k (zs.getD i 0))) ∧ ∀ n ∈ zs, (Lit.int k n).wf = true
set_option maxHeartbeats 8000000 in
set_option maxRecDepth 100000 in
theorem walk (w : World) (a : Option Addr) (lena capa : Nat) (za : List Int) (w0 : IsRow .i64 w a lena capa za) (b : Option Addr) (lenb capb : Nat) (zb : List Int) (w1 : IsRow .i64 w b lenb capb zb) (c : Option Addr) (lenc capc : Nat) (zc : List Int) (w2 : IsRow .i64 w c lenc capc zc) : -- the walk
    Calls Try.prog 3 #[.slice a lena capa, .slice b lenb capb, .slice c lenc capc] w fun e w' => e = .returned (.bool true) ∧ Below w.heap.size w w' := by
  have haw := lAwake6
  unfold SaysYes at haw
  obtain ⟨L, rfl, hcapL, hLi, hrL⟩ := RL_of w0
  have htL : capa ≤ 9223372036854775807 := by rcases w0 with ⟨_, _, e, _⟩ | ⟨_, _, _, e, _⟩ <;> (first | omega | (unfold maxLen at e; exact e))
  have HCL := Lib.hid hcapL.1
  have HNL := Lib.hid hcapL.2
  have HTL := Lib.hid htL
  obtain ⟨K, rfl, hcapK, hKi, hrK⟩ := RL_of w1
  have htK : capb ≤ 9223372036854775807 := by rcases w1 with ⟨_, _, e, _⟩ | ⟨_, _, _, e, _⟩ <;> (first | omega | (unfold maxLen at e; exact e))
  have HCK := Lib.hid hcapK.1
  have HNK := Lib.hid hcapK.2
  have HTK := Lib.hid htK
  obtain ⟨M, rfl, hcapM, hMi, hrM⟩ := RL_of w2
  have htM : capc ≤ 9223372036854775807 := by rcases w2 with ⟨_, _, e, _⟩ | ⟨_, _, _, e, _⟩ <;> (first | omega | (unfold maxLen at e; exact e))
  have HCM := Lib.hid hcapM.1
  have HNM := Lib.hid hcapM.2
  have HTM := Lib.hid htM
  clear w0 w1 w2 hcapL hcapK hcapM htL htK htM
  by_cases hbig0 : 100 < L.length
  · have d1 : decide ((100 : Int) < (L.length : Int)) = true := by simp; omega
    go_enter Try.func3, Try.ntmps3
    go_wp2_with (first | (go_at_call 15; first | (with_reducible refine Calls_past2 (haw _) (fun z => ?_)) | (with_reducible refine Calls_past (haw _) (fun z => ?_))) | (go_at_call 16; refine (uNew _).mono ?_; rintro e w1 ⟨rfl, rfl⟩))
    go_ret
    exact ⟨rfl, by (repeat (first | assumption | exact Below.refl _ _ | with_reducible refine past_t _ ?_ | with_reducible refine below_a _ ?_ | with_reducible refine Below.drew ?_ | with_reducible refine below_d _ ?_ | (with_reducible refine Below.setCell ?_ (by (show _ ≤ _; repeat (first | exact Nat.le_refl _ | assumption | (omega; done) | with_reducible exact le_past (Nat.le_refl _) | with_reducible refine le_past ?_ | with_reducible refine le_al ?_ | with_reducible refine le_set ?_ | with_reducible refine le_p1 ?_))) _)))⟩
  by_cases hbig1 : 100 < K.length
  · have e0 : decide ((100 : Int) < (L.length : Int)) = false := by simp; omega
    have d1 : decide ((100 : Int) < (K.length : Int)) = true := by simp; omega
    go_enter Try.func3, Try.ntmps3
    go_wp2_with (first | (go_at_call 15; first | (with_reducible refine Calls_past2 (haw _) (fun z => ?_)) | (with_reducible refine Calls_past (haw _) (fun z => ?_))) | (go_at_call 16; refine (uNew _).mono ?_; rintro e w1 ⟨rfl, rfl⟩))
    go_ret
    exact ⟨rfl, by (repeat (first | assumption | exact Below.refl _ _ | with_reducible refine past_t _ ?_ | with_reducible refine below_a _ ?_ | with_reducible refine Below.drew ?_ | with_reducible refine below_d _ ?_ | (with_reducible refine Below.setCell ?_ (by (show _ ≤ _; repeat (first | exact Nat.le_refl _ | assumption | (omega; done) | with_reducible exact le_past (Nat.le_refl _) | with_reducible refine le_past ?_ | with_reducible refine le_al ?_ | with_reducible refine le_set ?_ | with_reducible refine le_p1 ?_))) _)))⟩
  by_cases hbig2 : 100 < M.length
  · have e0 : decide ((100 : Int) < (L.length : Int)) = false := by simp; omega
    have e1 : decide ((100 : Int) < (K.length : Int)) = false := by simp; omega
    have d1 : decide ((100 : Int) < (M.length : Int)) = true := by simp; omega
    go_enter Try.func3, Try.ntmps3
    go_wp2_with (first | (go_at_call 15; first | (with_reducible refine Calls_past2 (haw _) (fun z => ?_)) | (with_reducible refine Calls_past (haw _) (fun z => ?_))) | (go_at_call 16; refine (uNew _).mono ?_; rintro e w1 ⟨rfl, rfl⟩))
    go_ret
    exact ⟨rfl, by (repeat (first | assumption | exact Below.refl _ _ | with_reducible refine past_t _ ?_ | with_reducible refine below_a _ ?_ | with_reducible refine Below.drew ?_ | with_reducible refine below_d _ ?_ | (with_reducible refine Below.setCell ?_ (by (show _ ≤ _; repeat (first | exact Nat.le_refl _ | assumption | (omega; done) | with_reducible exact le_past (Nat.le_refl _) | with_reducible refine le_past ?_ | with_reducible refine le_al ?_ | with_reducible refine le_set ?_ | with_reducible refine le_p1 ?_))) _)))⟩
  have d0 : decide ((100 : Int) < (L.length : Int)) = false := by simp; omega
  have d1 : decide ((100 : Int) < (K.length : Int)) = false := by simp; omega
  have d2 : decide ((100 : Int) < (M.length : Int)) = false := by simp; omega
  have hcut1 := fun W => vCut a b L.length capa K.length capb HCL.out HTL.out (by omega) W
  have hcut2 := fun W => vCut a c (min L.length K.length) capa M.length capc (by have := HCL.out; omega) HTL.out (by omega) W
  go_enter Try.func3, Try.ntmps3
  go_upto_region 7 with (first | (go_at_call 15; first | (with_reducible refine Calls_past2 (haw _) (fun z => ?_)) | (with_reducible refine Calls_past (haw _) (fun z => ?_))) | (go_at_call 16; refine (uNew _).mono ?_; rintro e w1 ⟨rfl, rfl⟩))
  refine wp_gen (fun W0 hW0 => ?_)
  have hU0 : UA (w.heap.size + gap w z) false 0 W0 := by rw [hW0]; exact ⟨by (first | (simp [go_sem]; done) | (simp [go_sem, ↓IntWalk.iteOmega]; done)), by (first | (simp [go_sem]; done) | (simp [go_sem, ↓IntWalk.iteOmega]; done)), by (first | (simp [go_sem]; done) | (simp [go_sem, ↓IntWalk.iteOmega]; done)), by (first | (simp [go_sem]; done) | (simp [go_sem, ↓IntWalk.iteOmega]; done)), by (first | (simp [go_sem]; done) | (simp [go_sem, ↓IntWalk.iteOmega]; done))⟩
  have hB0 : Below w.heap.size w W0 := by rw [hW0]; (repeat (first | assumption | exact Below.refl _ _ | with_reducible refine past_t _ ?_ | with_reducible refine below_a _ ?_ | with_reducible refine Below.drew ?_ | with_reducible refine below_d _ ?_ | (with_reducible refine Below.setCell ?_ (by (show _ ≤ _; repeat (first | exact Nat.le_refl _ | assumption | (omega; done) | with_reducible exact le_past (Nat.le_refl _) | with_reducible refine le_past ?_ | with_reducible refine le_al ?_ | with_reducible refine le_set ?_ | with_reducible refine le_p1 ?_))) _)))
  obtain ⟨U, hU⟩ : ∃ U, w.heap.size + gap w z = U := ⟨_, rfl⟩
  rw [hU] at hU0 ⊢
  have hUw : w.heap.size ≤ U := by omega
  clear hW0 hU
  go_upto_region 8 with (first | (go_at_call 17; first | (with_reducible refine Calls_past2 (hcut1 _) (fun z => ?_)) | (with_reducible refine Calls_past (hcut1 _) (fun z => ?_))) | (go_at_call 17; first | (with_reducible refine Calls_past2 (hcut2 _) (fun z => ?_)) | (with_reducible refine Calls_past (hcut2 _) (fun z => ?_))))
  obtain ⟨n, hn⟩ : ∃ n, min L.length (min K.length M.length) = n := ⟨_, rfl⟩
  rw [hn]
  have hcut3 := fun W => vCut b a K.length capb n capa HCK.out HTK.out (by omega) W
  have hcut4 := fun W => vCut c a M.length capc n capa HCM.out HTM.out (by omega) W
  rw [show min K.length n = n by omega] at hcut3
  rw [show min M.length n = n by omega] at hcut4
  go_upto_region 9 with (first | (go_at_call 17; first | (with_reducible refine Calls_past2 (hcut3 _) (fun z => ?_)) | (with_reducible refine Calls_past (hcut3 _) (fun z => ?_))) | (go_at_call 17; first | (with_reducible refine Calls_past2 (hcut4 _) (fun z => ?_)) | (with_reducible refine Calls_past (hcut4 _) (fun z => ?_))))
  have sA := ((hrL.sl hB0 hUw (by omega) capa).take n (by omega) capa).keep (past_below W0 z)
  have sB := ((hrK.sl hB0 hUw (by omega) capb).take n (by omega) capb).keep (past_below W0 z)
  have sC := ((hrM.sl hB0 hUw (by omega) capc).take n (by omega) capc).keep (past_below W0 z)
  have hAi := hLi.take n
  have hBi := hKi.take n
  have hCi := hMi.take n
  have hAl : (L.take n).length = n := by simp; omega
  have hBl : (K.take n).length = n := by simp; omega
  have hCl : (M.take n).length = n := by simp; omega
  obtain ⟨A, hA⟩ : ∃ A, L.take n = A := ⟨_, rfl⟩
  obtain ⟨B, hB⟩ : ∃ B, K.take n = B := ⟨_, rfl⟩
  obtain ⟨C, hC⟩ : ∃ C, M.take n = C := ⟨_, rfl⟩
  rw [hA] at sA hAi hAl
  rw [hB] at sB hBi hBl
  rw [hC] at sC hCi hCl
  have hU1 := hU0.keep (past_below W0 z)
  have hB1 := hB0.trans ((past_below W0 z).mono hB0.size)
  obtain ⟨W1, hW1⟩ : ∃ W1, past W0 z = W1 := ⟨_, rfl⟩
  rw [hW1] at sA sB sC hU1 hB1 ⊢
  have hn3 : n ≤ 100 := by omega
  have hsum := mapG_len gSum false A B n
  have hSi := mapG_all gSum_in false A B n
  have key := fun (f1 f2 f3 : Bool) (h0 : (mapG gSum false A B n).2 = false) (h1 : (runD (0, f1) (mapG gSum false A B n).1 C n).2 = false) (h2 : (runD (0, f2) A C n).2 = false) (h3 : (runD (0, f3) B C n).2 = false) =>
    dots hAi hBi hCi (by omega) (by omega) (i := f1) (j := f2) (l := f3) (s := (mapG gSum false A B n).1) (by rw [hAl]) (by rw [hAl]; exact h0) (by rw [hAl]; exact h1) (by rw [hAl]; exact h2) (by rw [hAl]; exact h3) n (by omega)
  have hs := vSum hU1 _ _ A B hAi hBi sA sB (by omega) ⟨by omega, by omega⟩ (by omega)
  rw [hAl] at hs
  clear hA hB hC hcut1 hcut2 hcut3 hcut4 hn hU0 hB0 hW1 hrL hrK hrM hLi hKi hMi HCL HCK HCM HNL HNK HNM HTL HTK HTM hbig0 hbig1 hbig2 d0 d1 d2
  obtain ⟨P, hP⟩ : ∃ P, mapG gSum false A B n = P := ⟨_, rfl⟩
  rw [hP] at hs key hsum hSi
  obtain ⟨S, f0⟩ := P
  simp only at hs key hsum hSi
  go_upto_region 10 with (go_at_call 18; with_reducible refine Calls.mono hs ?_; rintro _ w2 ⟨A3, c3, rfl, ho3, hb3⟩)
  have hU2 := (hU1.put f0 _).keep hb3
  have sA := (sA.put f0 _).keep hb3
  have sB := (sB.put f0 _).keep hb3
  have sC := (sC.put f0 _).keep hb3
  have hB2 := below_unit hB1 hUw hb3
  have sS := ho3.sl hU1.lt (by omega)
  clear hs hU1 hB1 hb3 ho3 hP
  have hd := vDot hU2 _ _ S C hSi hCi sS sC (by omega) ⟨by omega, by omega⟩
  rw [show S.length = n by omega] at hd
  
  obtain ⟨Q, hQ2⟩ : ∃ Q, runD (0, f0) S C n = Q := ⟨_, rfl⟩
  rw [hQ2] at hd
  obtain ⟨N1, f1⟩ := Q
  simp only at hd
  go_upto_region 11 with (go_at_call 19; with_reducible refine Calls.mono hd ?_; rintro _ w3 ⟨rfl, hb3⟩)
  have hU3 := (hU2.put f1 _).keep hb3
  have sA := (sA.put f1 _).keep hb3
  have sB := (sB.put f1 _).keep hb3
  have sC := (sC.put f1 _).keep hb3
  have sS := (sS.put f1 _).keep hb3
  have hB3 := below_unit hB2 hUw hb3
  clear hd hU2 hB2 hb3
  have hd := vDot hU3 _ _ A C hAi hCi sA sC (by omega) ⟨by omega, by omega⟩
  rw [show A.length = n by omega] at hd
  
  obtain ⟨Q, hQ3⟩ : ∃ Q, runD (0, f1) A C n = Q := ⟨_, rfl⟩
  rw [hQ3] at hd
  obtain ⟨N2, f2⟩ := Q
  simp only at hd
  go_upto_region 12 with (go_at_call 19; with_reducible refine Calls.mono hd ?_; rintro _ w4 ⟨rfl, hb3⟩)
  have hU4 := (hU3.put f2 _).keep hb3
  have sA := (sA.put f2 _).keep hb3
  have sB := (sB.put f2 _).keep hb3
  have sC := (sC.put f2 _).keep hb3
  have sS := (sS.put f2 _).keep hb3
  have hB4 := below_unit hB3 hUw hb3
  clear hd hU3 hB3 hb3
  have hd := vDot hU4 _ _ B C hBi hCi sB sC (by omega) ⟨by omega, by omega⟩
  rw [show B.length = n by omega] at hd
  
  obtain ⟨Q, hQ4⟩ : ∃ Q, runD (0, f2) B C n = Q := ⟨_, rfl⟩
  rw [hQ4] at hd
  obtain ⟨N3, f3⟩ := Q
  simp only at hd
  go_upto_region 13 with (go_at_call 19; with_reducible refine Calls.mono hd ?_; rintro _ w5 ⟨rfl, hb3⟩)
  have hU5 := (hU4.put f3 _).keep hb3
  have sA := (sA.put f3 _).keep hb3
  have sB := (sB.put f3 _).keep hb3
  have sC := (sC.put f3 _).keep hb3
  have sS := (sS.put f3 _).keep hb3
  have hB5 := below_unit hB4 hUw hb3
  clear hd hU4 hB4 hb3
  have hd := vDot hU5 _ _ C S hCi hSi sC sS (by omega) ⟨by omega, by omega⟩
  rw [show C.length = n by omega] at hd
  
  obtain ⟨Q, hQ5⟩ : ∃ Q, runD (0, f3) C S n = Q := ⟨_, rfl⟩
  rw [hQ5] at hd
  obtain ⟨N4, f4⟩ := Q
  simp only at hd
  go_upto_region 14 with (go_at_call 19; with_reducible refine Calls.mono hd ?_; rintro _ w6 ⟨rfl, hb3⟩)
  have hU6 := (hU5.put f4 _).keep hb3
  have sA := (sA.put f4 _).keep hb3
  have sB := (sB.put f4 _).keep hb3
  have sC := (sC.put f4 _).keep hb3
  have sS := (sS.put f4 _).keep hb3
  have hB6 := below_unit hB5 hUw hb3
  clear hd hU5 hB5 hb3
  clear sA sB sC sS
  have hcomm : N1 = N4 := by
    have h1 := runD_comm f0 f3 S C n
    rw [hQ2, hQ5] at h1; exact h1
  subst hcomm
  have i2 : InI N2 := by have := runD_in (p := (0, f1)) ⟨by omega, by omega⟩ A C n; rw [hQ3] at this; exact this
  have i3 : InI N3 := by have := runD_in (p := (0, f2)) ⟨by omega, by omega⟩ B C n; rw [hQ4] at this; exact this
  have i1 : InI N1 := by have := runD_in (p := (0, f0)) ⟨by omega, by omega⟩ S C n; rw [hQ2] at this; exact this
  have hadd := fun (W : World) (k : Below w6.heap.size w6 W) (v : Value) (hv : SL W U v [N2, N3]) => uAdd2 (hU6.keep k) i2 i3 hv ⟨by omega, by omega⟩
  have key2 : (gSum f4 N2 N3).2 = false → dist N1 (gSum f4 N2 N3).1 ≤ 2 * (n : Int) := by
    intro h5
    have g := gSum_back i2 i3 h5
    have h4 := g.1
    subst h4
    have r4 := runD_no (i := f3) (a := C) (b := S) n (by rw [hQ5])
    have h3 := r4.1
    subst h3
    have r3 := runD_no (i := f2) (a := B) (b := C) n (by rw [hQ4])
    have h2 := r3.1
    subst h2
    have r2 := runD_no (i := f1) (a := A) (b := C) n (by rw [hQ3])
    have h1 := r2.1
    subst h1
    have r1 := runD_no (i := f0) (a := S) (b := C) n (by rw [hQ2])
    have h0 := r1.1
    subst h0
    have k := key false false false rfl (by rw [hQ2]) (by rw [hQ3]) (by rw [hQ4])
    rw [hQ2, hQ3, hQ4] at k
    obtain ⟨-, -, -, k1, k2⟩ := k
    rw [g.2.2.2.2.1]
    simp only at k1 k2
    unfold dist
    split <;> omega
  have i4 := gSum_in f4 N2 N3
  obtain ⟨G, hG⟩ : ∃ G, gSum f4 N2 N3 = G := ⟨_, rfl⟩
  rw [hG] at hadd key2 i4
  obtain ⟨N5, f5⟩ := G
  simp only at hadd key2 i4
  clear hG hQ2 hQ3 hQ4 hQ5 key hSi hAi hBi hCi
  have hUl := hU6.lt
  go_upto_region 15 with ((go_at_call 20; with_reducible refine Calls_to0 (hadd _ ?_ _ (SL2 ?_ ?_ ?_)) (fun z => ?_); (focus ((first | ((repeat (first | assumption | exact Below.refl _ _ | with_reducible refine past_t _ ?_ | with_reducible refine below_a _ ?_ | with_reducible refine Below.drew ?_ | with_reducible refine below_d _ ?_ | (with_reducible refine Below.setCell ?_ (by (show _ ≤ _; repeat (first | exact Nat.le_refl _ | assumption | (omega; done) | with_reducible exact le_past (Nat.le_refl _) | with_reducible refine le_past ?_ | with_reducible refine le_al ?_ | with_reducible refine le_set ?_ | with_reducible refine le_p1 ?_))) _))); done) | (with_reducible rfl; done) | omega | (rfl; done) | (simp; done) | (simp [go_sem]; done) | (simp; omega) | (simp [go_sem]; omega)); done)); (focus ((first | ((repeat (first | assumption | exact Below.refl _ _ | with_reducible refine past_t _ ?_ | with_reducible refine below_a _ ?_ | with_reducible refine Below.drew ?_ | with_reducible refine below_d _ ?_ | (with_reducible refine Below.setCell ?_ (by (show _ ≤ _; repeat (first | exact Nat.le_refl _ | assumption | (omega; done) | with_reducible exact le_past (Nat.le_refl _) | with_reducible refine le_past ?_ | with_reducible refine le_al ?_ | with_reducible refine le_set ?_ | with_reducible refine le_p1 ?_))) _))); done) | (with_reducible rfl; done) | omega | (rfl; done) | (simp; done) | (simp [go_sem]; done) | (simp; omega) | (simp [go_sem]; omega)); done)); (focus ((first | ((repeat (first | assumption | exact Below.refl _ _ | with_reducible refine past_t _ ?_ | with_reducible refine below_a _ ?_ | with_reducible refine Below.drew ?_ | with_reducible refine below_d _ ?_ | (with_reducible refine Below.setCell ?_ (by (show _ ≤ _; repeat (first | exact Nat.le_refl _ | assumption | (omega; done) | with_reducible exact le_past (Nat.le_refl _) | with_reducible refine le_past ?_ | with_reducible refine le_al ?_ | with_reducible refine le_set ?_ | with_reducible refine le_p1 ?_))) _))); done) | (with_reducible rfl; done) | omega | (rfl; done) | (simp; done) | (simp [go_sem]; done) | (simp; omega) | (simp [go_sem]; omega)); done)); (focus ((first | ((repeat (first | assumption | exact Below.refl _ _ | with_reducible refine past_t _ ?_ | with_reducible refine below_a _ ?_ | with_reducible refine Below.drew ?_ | with_reducible refine below_d _ ?_ | (with_reducible refine Below.setCell ?_ (by (show _ ≤ _; repeat (first | exact Nat.le_refl _ | assumption | (omega; done) | with_reducible exact le_past (Nat.le_refl _) | with_reducible refine le_past ?_ | with_reducible refine le_al ?_ | with_reducible refine le_set ?_ | with_reducible refine le_p1 ?_))) _))); done) | (with_reducible rfl; done) | omega | (rfl; done) | (simp; done) | (simp [go_sem]; done) | (simp; omega) | (simp [go_sem]; omega)); done))))
  have hap := fun W => vApart N1 N5 W i1 i4
  have hcu := fun (o : Obj) (d : Int) z => uCut (((hU6.put f5 d).keep ((Below.refl _ _).alloc (Nat.le_refl _) o)).keep (past_below _ z))
  obtain ⟨D, hD⟩ : ∃ D, dist N1 N5 = D := ⟨_, rfl⟩
  rw [hD] at hap key2
  cases f5
  · have e1 : decide (D ≤ 2 * (n : Int)) = true := by simpa using key2 rfl
    go_wp2_with (first | (go_at_call 21; first | (with_reducible refine Calls_past2 (hcu _ _ _) (fun z => ?_)) | (with_reducible refine Calls_past (hcu _ _ _) (fun z => ?_))) | (go_at_call 22; first | (with_reducible refine Calls_past2 (hap _) (fun z => ?_)) | (with_reducible refine Calls_past (hap _) (fun z => ?_))))
    go_ret
    exact ⟨rfl, by ((repeat (first | assumption | exact Below.refl _ _ | with_reducible refine past_t _ ?_ | with_reducible refine below_a _ ?_ | with_reducible refine Below.drew ?_ | with_reducible refine below_d _ ?_ | (with_reducible refine Below.setCell ?_ (by (show _ ≤ _; repeat (first | exact Nat.le_refl _ | assumption | (omega; done) | with_reducible exact le_past (Nat.le_refl _) | with_reducible refine le_past ?_ | with_reducible refine le_al ?_ | with_reducible refine le_set ?_ | with_reducible refine le_p1 ?_))) _))); exact below_putn _ _ hB6 hUw)⟩
  · go_wp2_with (first | (go_at_call 21; first | (with_reducible refine Calls_past2 (hcu _ _ _) (fun z => ?_)) | (with_reducible refine Calls_past (hcu _ _ _) (fun z => ?_))) | (go_at_call 22; first | (with_reducible refine Calls_past2 (hap _) (fun z => ?_)) | (with_reducible refine Calls_past (hap _) (fun z => ?_))))
    go_ret
    exact ⟨rfl, by ((repeat (first | assumption | exact Below.refl _ _ | with_reducible refine past_t _ ?_ | with_reducible refine below_a _ ?_ | with_reducible refine Below.drew ?_ | with_reducible refine below_d _ ?_ | (with_reducible refine Below.setCell ?_ (by (show _ ≤ _; repeat (first | exact Nat.le_refl _ | assumption | (omega; done) | with_reducible exact le_past (Nat.le_refl _) | with_reducible refine le_past ?_ | with_reducible refine le_al ?_ | with_reducible refine le_set ?_ | with_reducible refine le_p1 ?_))) _))); exact below_putn _ _ hB6 hUw)⟩
set_option maxRecDepth 100000 in
theorem lifted (os : Os) (started : os.Started) (H : Type) (enc : TypeId × Value → H) :
    ReturnsInHanded {} Try.checked os 3 .any (Rows.vecDotsSpec.pre6 enc Try.prog Try.f3 Rows.vecDotsRow.domain false) (Rows.vecDotsSpec.post enc Try.prog Try.f3 false true false false) := by
  refine returnsInHanded_of_change (C := Try.checked) own started (by kernel_rfl) Try.func3
    (ChangeSpec.witness6 (enc := enc) (C := Try.checked) false ⟨#[], #[.slice none 0 0, .slice none 0 0, .slice none 0 0], []⟩ 8 (by kernel_rfl) (by kernel_rfl) (by kernel_rfl) (by kernel_rfl)) ?_
  intro W base args ds gs before hval0 hW hcnd _
  have hval : ∀ (j : Nat) t v, Try.f3.params[j]? = some t → args[j]? = some v → Value.okWide Try.prog W .any base t v := hval0
  have hW' := hW
  obtain ⟨p, q, hA0, hV, rfl, hfz, hnd⟩ := hW
  have hA : DataW.TrodAll enc Try.prog W 0 (fun _ => true) true Try.f3.params.toList args.toList ds p := hA0
  rw [Try.params3] at hA hval
  obtain ⟨v0, vs0, d0, ds0, p0, q0, hargs, rfl, rfl, h0, r0⟩ := trodAll_cons hA
  obtain ⟨v1, vs1, d1, ds1, p1, q1, rfl, rfl, rfl, h1, r1⟩ := trodAll_cons r0
  obtain ⟨v2, vs2, d2, ds2, p2, q2, rfl, rfl, rfl, h2, r2⟩ := trodAll_cons r1
  obtain ⟨rfl, rfl, rfl⟩ := trodAll_nil r2
  obtain rfl : args = #[v0, v1, v2] := by cases args; simp_all
  obtain ⟨rfl, rfl⟩ := trodVars_none hV
  obtain ⟨a, lena, capa, rfl⟩ := okWide_slice Try.underlying22 (hval 0 22 v0 rfl rfl)
  have k0 := h0
  have lt0 : ∀ x ∈ p0, x.block < W.heap.size := by obtain ⟨m, hm⟩ := k0; exact DataW.trod_lt m _ _ _ hm
  obtain ⟨za, w0⟩ : ∃ zs, IsRow .i64 W a lena capa zs := by
    obtain ⟨fuel, hf⟩ := h0
    rcases open_ints Try.underlying22 Try.underlying3 (by kernel_rfl) hf with ⟨hcs, _⟩ | ⟨x, l, c, zs, hcs, _, hl, hm, hz, _, hcell, hwz⟩
    · simp [Value.cells] at hcs
      obtain ⟨rfl, rfl, rfl⟩ := hcs
      exact ⟨[], .inl ⟨rfl, rfl, rfl, rfl⟩⟩
    · simp [Value.cells] at hcs
      obtain ⟨rfl, rfl, rfl⟩ := hcs
      exact ⟨zs, .inr ⟨_, rfl, hl, hm, by simpa using hz, hcell, hwz⟩⟩
  obtain ⟨b, lenb, capb, rfl⟩ := okWide_slice Try.underlying22 (hval 1 22 v1 rfl rfl)
  have k1 := h1
  have lt1 : ∀ x ∈ p1, x.block < W.heap.size := by obtain ⟨m, hm⟩ := k1; exact DataW.trod_lt m _ _ _ hm
  obtain ⟨zb, w1⟩ : ∃ zs, IsRow .i64 W b lenb capb zs := by
    obtain ⟨fuel, hf⟩ := h1
    rcases open_ints Try.underlying22 Try.underlying3 (by kernel_rfl) hf with ⟨hcs, _⟩ | ⟨x, l, c, zs, hcs, _, hl, hm, hz, _, hcell, hwz⟩
    · simp [Value.cells] at hcs
      obtain ⟨rfl, rfl, rfl⟩ := hcs
      exact ⟨[], .inl ⟨rfl, rfl, rfl, rfl⟩⟩
    · simp [Value.cells] at hcs
      obtain ⟨rfl, rfl, rfl⟩ := hcs
      exact ⟨zs, .inr ⟨_, rfl, hl, hm, by simpa using hz, hcell, hwz⟩⟩
  obtain ⟨c, lenc, capc, rfl⟩ := okWide_slice Try.underlying22 (hval 2 22 v2 rfl rfl)
  have k2 := h2
  have lt2 : ∀ x ∈ p2, x.block < W.heap.size := by obtain ⟨m, hm⟩ := k2; exact DataW.trod_lt m _ _ _ hm
  obtain ⟨zc, w2⟩ : ∃ zs, IsRow .i64 W c lenc capc zs := by
    obtain ⟨fuel, hf⟩ := h2
    rcases open_ints Try.underlying22 Try.underlying3 (by kernel_rfl) hf with ⟨hcs, _⟩ | ⟨x, l, c, zs, hcs, _, hl, hm, hz, _, hcell, hwz⟩
    · simp [Value.cells] at hcs
      obtain ⟨rfl, rfl, rfl⟩ := hcs
      exact ⟨[], .inl ⟨rfl, rfl, rfl, rfl⟩⟩
    · simp [Value.cells] at hcs
      obtain ⟨rfl, rfl, rfl⟩ := hcs
      exact ⟨zs, .inr ⟨_, rfl, hl, hm, by simpa using hz, hcell, hwz⟩⟩
  clear hA0 hval0
  refine (walk W a lena capa za w0 b lenb capb zb w1 c lenc capc zc w2).mono fun e W' ⟨he, bel⟩ => ?_
  subst he
  exact ⟨_, rfl, _, _, _, [], _, [], hW', trodAll_mk1 (shut_bool Try.underlying4 _), (trodAll_cons_mk (Below.trod laidOut (by kernel_rfl) (of_decide_eq_true (by kernel_rfl)) k0 bel lt0) (trodAll_cons_mk (Below.trod laidOut (by kernel_rfl) (of_decide_eq_true (by kernel_rfl)) k1 bel lt1) (trodAll_cons_mk (Below.trod laidOut (by kernel_rfl) (of_decide_eq_true (by kernel_rfl)) k2 bel lt2) trodAll_mk0))), rfl, bel.frame _, fun h => by cases h⟩
theorem over : Rows.vecDotsRow.holds Try.pinned (OpenSpec.ofChange Rows.vecDotsSpec) :=
  OpenClaim.holds_of_wide 3 Try.f3 rfl rfl rfl rfl rfl rfl rfl ⟨rfl, rfl, rfl, rfl, rfl⟩ rfl rfl rfl rfl rfl (by kernel_rfl) Try.func3 (by kernel_rfl)
    (of_decide_eq_true (by kernel_rfl)) (by unfold Func.isWrapper; first | (rw [if_pos (by decide +kernel)]; kernel_rfl) | (rw [if_neg (by decide +kernel)]; exact ⟨rfl, rfl⟩))
    (fun os started H enc _ => lifted os started H enc)
theorem proved : Rows.VecDotsSaid := over
#print axioms proved
end Go.Proofs.Ytfhiodclbabdkaa.vecDots
