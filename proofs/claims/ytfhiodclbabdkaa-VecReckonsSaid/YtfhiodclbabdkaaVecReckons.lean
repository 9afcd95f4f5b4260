/- What lists come to by sums, differences, multiples, products, and what is farthest from 0, is the document's; so are the flag and the count; what is handed in stays. -/
import Derived.Test.YtfhiodclbabdkaaRVec3
import Derived.Deep.DeepCutAuto
import Derived.Deep.LoopGhost
import Derived.WalkKit
import Derived.ProofKit
import Derived.OpenShut
import Derived.ShutString
import Derived.ChangeOld
import Derived.Below
import Derived.Lib.SmallJoins
namespace Go.Proofs.Ytfhiodclbabdkaa.vecReckons
open Go.ChangeShapes Go.WideShapes Go.ChangeAt Go.RowKit
open Go.ChangeMaps (open_string shut_string)
open Go.Joins
set_option linter.unusedVariables false
theorem own : ownKnob Try.prog.godebug = none := by kernel_rfl
theorem laidOut : laidOutB Try.prog = true := by kernel_rfl
def IsRow (k : IntKind) (w : World) (a : Option Addr) (len cap : Nat) (zs : List Int) : Prop :=
  (a = none ∧ len = 0 ∧ cap = 0 ∧ zs = []) ∨
  ∃ x, a = some x ∧ len ≤ cap ∧ cap ≤ maxLen ∧ zs.length = cap ∧ (∀ i, i < zs.length → w.cell? (x.add i) = some (.int k (zs.getD i 0))) ∧ ∀ n ∈ zs, (Lit.int k n).wf = true
set_option maxHeartbeats 8000000 in
set_option maxRecDepth 100000 in
theorem walk (w : World) (a : Option Addr) (lena capa : Nat) (za : List Int) (w0 : IsRow .i64 w a lena capa za) (b : Option Addr) (lenb capb : Nat) (zb : List Int) (w1 : IsRow .i64 w b lenb capb zb) (s : Int) (w2 : (Lit.int .i64 s).wf = true) : -- the walk
    Calls Try.prog 8 #[.slice a lena capa, .slice b lenb capb, .int .i64 s] w fun e w' => e = .returned (.bool true) ∧ Below w.heap.size w w' := by
  have haw := lAwake6
  unfold SaysYes at haw
  have hs := bounds_i64 w2
  obtain ⟨L, rfl, hcapL, hLi, hrL⟩ := RL_of w0
  have htL : capa ≤ 9223372036854775807 := by rcases w0 with ⟨_, _, e, _⟩ | ⟨_, _, _, e, _⟩ <;> (first | omega | (unfold maxLen at e; exact e))
  have HRL := Lib.hid (hrL.rs hcapL htL)
  obtain ⟨K, rfl, hcapK, hKi, hrK⟩ := RL_of w1
  have htK : capb ≤ 9223372036854775807 := by rcases w1 with ⟨_, _, e, _⟩ | ⟨_, _, _, e, _⟩ <;> (first | omega | (unfold maxLen at e; exact e))
  have HRK := Lib.hid (hrK.rs hcapK htK)
  clear w0 w1 w2 hcapL hcapK htL htK
  by_cases hbig0 : 150 < L.length
  · have d1 : decide ((150 : Int) < (L.length : Int)) = true := by simp; omega
    go_enter Try.func8, Try.ntmps8
    go_wp2_with (first | (go_at_call 15; first | (with_reducible refine Calls_past2 (haw _) (fun z => ?_)) | (with_reducible refine Calls_past (haw _) (fun z => ?_))) | (go_at_call 16; refine (uNew _).mono ?_; rintro e w1 ⟨rfl, rfl⟩))
    go_ret
    exact ⟨rfl, by (repeat (first | assumption | exact Below.refl _ _ | with_reducible refine past_t _ ?_ | with_reducible refine below_a _ ?_ | with_reducible refine Below.drew ?_ | with_reducible refine below_d _ ?_ | (with_reducible refine Below.setCell ?_ (by (show _ ≤ _; repeat (first | exact Nat.le_refl _ | assumption | (omega; done) | with_reducible exact le_past (Nat.le_refl _) | with_reducible refine le_past ?_ | with_reducible refine le_al ?_ | with_reducible refine le_set ?_ | with_reducible refine le_p1 ?_))) _)))⟩
  by_cases hbig1 : 150 < K.length
  · have e0 : decide ((150 : Int) < (L.length : Int)) = false := by simp; omega
    have d1 : decide ((150 : Int) < (K.length : Int)) = true := by simp; omega
    go_enter Try.func8, Try.ntmps8
    go_wp2_with (first | (go_at_call 15; first | (with_reducible refine Calls_past2 (haw _) (fun z => ?_)) | (with_reducible refine Calls_past (haw _) (fun z => ?_))) | (go_at_call 16; refine (uNew _).mono ?_; rintro e w1 ⟨rfl, rfl⟩))
    go_ret
    exact ⟨rfl, by (repeat (first | assumption | exact Below.refl _ _ | with_reducible refine past_t _ ?_ | with_reducible refine below_a _ ?_ | with_reducible refine Below.drew ?_ | with_reducible refine below_d _ ?_ | (with_reducible refine Below.setCell ?_ (by (show _ ≤ _; repeat (first | exact Nat.le_refl _ | assumption | (omega; done) | with_reducible exact le_past (Nat.le_refl _) | with_reducible refine le_past ?_ | with_reducible refine le_al ?_ | with_reducible refine le_set ?_ | with_reducible refine le_p1 ?_))) _)))⟩
  have d0 : decide ((150 : Int) < (L.length : Int)) = false := by simp; omega
  have d1 : decide ((150 : Int) < (K.length : Int)) = false := by simp; omega
  go_enter Try.func8, Try.ntmps8
  go_upto_region 7 with (first | (go_at_call 16; refine (uNew _).mono ?_; rintro e w1 ⟨rfl, rfl⟩) | (go_at_call 27; refine (r4New _).mono ?_; rintro e w1 ⟨rfl, rfl⟩))
  refine wp_gen (fun W0 hW0 => ?_)
  have hU0 : UA w.heap.size false 0 W0 := by rw [hW0]; exact ⟨by (first | (simp [go_sem]; done) | (simp [go_sem, ↓IntWalk.iteOmega]; done)), by (first | (simp [go_sem]; done) | (simp [go_sem, ↓IntWalk.iteOmega]; done)), by (first | (simp [go_sem]; done) | (simp [go_sem, ↓IntWalk.iteOmega]; done)), by (first | (simp [go_sem]; done) | (simp [go_sem, ↓IntWalk.iteOmega]; done)), by (first | (simp [go_sem]; done) | (simp [go_sem, ↓IntWalk.iteOmega]; done))⟩
  have hV0 : RA (w.heap.size + 1) false 0 W0 := by rw [hW0]; exact ⟨by (first | (simp [go_sem]; done) | (simp [go_sem, ↓IntWalk.iteOmega]; done)), by (first | (simp [go_sem]; done) | (simp [go_sem, ↓IntWalk.iteOmega]; done)), by (first | (simp [go_sem]; done) | (simp [go_sem, ↓IntWalk.iteOmega]; done)), by (first | (simp [go_sem]; done) | (simp [go_sem, ↓IntWalk.iteOmega]; done))⟩
  have hx0 : W0.cell? ⟨w.heap.size + 1 + 1, 0, none⟩ = some (UP w.heap.size) := by rw [hW0]; (first | (simp [go_sem]; done) | (simp [go_sem, ↓IntWalk.iteOmega]; done))
  have hx1 : W0.cell? ⟨w.heap.size + 1 + 1, 1, none⟩ = some (UP (w.heap.size + 1)) := by rw [hW0]; (first | (simp [go_sem]; done) | (simp [go_sem, ↓IntWalk.iteOmega]; done))
  have hB0 : Below w.heap.size w W0 := by rw [hW0]; (repeat (first | assumption | exact Below.refl _ _ | with_reducible refine past_t _ ?_ | with_reducible refine below_a _ ?_ | with_reducible refine Below.drew ?_ | with_reducible refine below_d _ ?_ | (with_reducible refine Below.setCell ?_ (by (show _ ≤ _; repeat (first | exact Nat.le_refl _ | assumption | (omega; done) | with_reducible exact le_past (Nat.le_refl _) | with_reducible refine le_past ?_ | with_reducible refine le_al ?_ | with_reducible refine le_set ?_ | with_reducible refine le_p1 ?_))) _)))
  have ht : Three w w.heap.size (w.heap.size + 1) (w.heap.size + 1 + 1) := ⟨by omega, by omega, by omega, by omega, by omega⟩
  obtain ⟨U, hU⟩ : ∃ U, w.heap.size = U := ⟨_, rfl⟩
  obtain ⟨V, hV⟩ : ∃ V, w.heap.size + 1 = V := ⟨_, rfl⟩
  obtain ⟨X, hX⟩ : ∃ X, w.heap.size + 1 + 1 = X := ⟨_, rfl⟩
  simp only [hX] at hx0 hx1 ht ⊢
  simp only [hV] at hV0 hx1 ht ⊢
  simp only [hU] at hU0 hx0 ht ⊢
  have hRL := (HRL.out.keep hB0)
  have hRK := (HRK.out.keep hB0)
  have hUl := hU0.lt
  have hVl := hV0.lt
  clear hW0 hU hV hX d0 d1
  have hk0 := iCopy hRL (by omega)
  go_upto_region 8 with (first | (go_at_call 28; with_reducible refine Calls.mono hk0 ?_; rintro _ v1 ⟨I1, e1, rfl, ho1, hz1⟩; have hk3 := iCopy (hRK.keep hz1) (by omega)) | (go_at_call 28; with_reducible refine Calls.mono hk3 ?_; rintro _ v2 ⟨I2, e2, rfl, ho2, hz2⟩))
  have hz3 := hz1.trans (hz2.mono hz1.size)
  have hF : VF w U V X I1 I2 e1 e2 L K v2 false 0 := ⟨hB0.trans (hz3.mono hB0.size), hU0.keep hz3, hV0.keep hz3, (hz3.cell (World.block_lt_of_cell? _ _ hx0)).trans hx0, (hz3.cell (World.block_lt_of_cell? _ _ hx1)).trans hx1,
    ho1.rs.keep hz2, fun b o e => by have := (ho1.far (b := 0) (o := 0) (s := none) b o e).1; omega, ho2.rs, fun b o e => by have := (ho2.far (b := 0) (o := 0) (s := none) b o e).1; have := hz1.size; omega⟩
  clear ho1 ho2 hz1 hz2 hz3 hU0 hV0 hx0 hx1 hB0 hk0 hk3 hRL hRK
  have hc0 : (0 : Int) ≤ 0 ∧ (0 : Int) ≤ 0 := ⟨by omega, by omega⟩
  have cb := pairR_cnt (g := gSum) (n := true) (i := false) (c := 0) (cost := 2) (by omega) (by omega) (a := L) (b := K) (by omega)
  have hv := vSumX hF.ua hLi hKi (hF.in1.sl (fun b o e => (hF.f1 b o e).1) (by omega)) (hF.in2.sl (fun b o e => (hF.f2 b o e).1) (by omega)) ⟨by omega, by omega⟩ (by omega) (by omega)
  have hw := fun (W : World) (hr : RA V false 0 W) (sa : SL W V (.slice a L.length capa) L) (sb : SL W V (.slice b K.length capb) K) => r6SumX hr hLi hKi sa sb ⟨by omega, by omega⟩ (by omega) (by omega)
  obtain ⟨P, hP⟩ : ∃ P, pairR gSum true false 0 2 L K = P := ⟨_, rfl⟩
  rw [hP] at hv cb
  simp only [hP] at hw
  obtain ⟨R, er, j1, d1⟩ := P
  simp only [] at hv cb hw
  have hc0 : 0 ≤ d1 ∧ d1 ≤ 300 := ⟨by omega, by omega⟩
  go_upto_region 9 with (go_at_call 18; with_reducible refine Calls.mono hv ?_; rintro _ w2 ⟨A3, n3, c3, rfl, ho2, hb2⟩)
  have hbel2 := below_unit hF.bel ht.hU hb2
  have hr := (hF.ra.far ht.hUV.symm j1 d1).keep hb2
  have hx1 : w2.cell? ⟨X, 1, none⟩ = some (UP V) := (hb2.cell (p := ⟨X, 1, none⟩) (by rw [put_size]; exact World.block_lt_of_cell? _ _ hF.x1)).trans ((put_cell U j1 d1 _ _ ht.hXU).trans hF.x1)
  have hw := hw w2 hr (hrL.sl hbel2 ht.hV (by omega) capa) (hrK.sl hbel2 ht.hV (by omega) capb)
  go_upto_region 10 with (go_at_call 29; with_reducible refine Calls.mono hw ?_; rintro _ w3 ⟨A4, n4, c4, rfl, ho3, hb3⟩)
  have hm := mid hb2 hb3
  have h3 := hF.step ht hm
  have hoo := mid_own (U := U) hF.ra.lt ho2 hb3
  have hlk := vLike hm h3.ua h3.ra hoo ho3.rs er
  have hx0 := h3.x0
  have hx1 := h3.x1
  go_upto_region 11 with (go_at_call 30; with_reducible refine Calls.mono hlk ?_; rintro _ W1 ⟨rfl, hb4⟩)
  have hF := hF.step ht hb4
  clear hv hw hlk hoo h3 hm ho2 ho3 hb2 hb3 hb4 hr hbel2 hP cb hx0 hx1
  have cb := pairR_cnt (g := gLess) (n := true) (i := j1) (c := d1) (cost := 1) (by omega) (by omega) (a := L) (b := K) (by omega)
  have hv := vLessX hF.ua hLi hKi (hF.in1.sl (fun b o e => (hF.f1 b o e).1) (by omega)) (hF.in2.sl (fun b o e => (hF.f2 b o e).1) (by omega)) ⟨by omega, by omega⟩ (by omega) (by omega)
  have hw := fun (W : World) (hr : RA V j1 d1 W) (sa : SL W V (.slice a L.length capa) L) (sb : SL W V (.slice b K.length capb) K) => r6LessX hr hLi hKi sa sb ⟨by omega, by omega⟩ (by omega) (by omega)
  obtain ⟨P, hP⟩ : ∃ P, pairR gLess true j1 d1 1 L K = P := ⟨_, rfl⟩
  rw [hP] at hv cb
  simp only [hP] at hw
  obtain ⟨R, er, j2, d2⟩ := P
  simp only [] at hv cb hw
  have hc0 : 0 ≤ d2 ∧ d2 ≤ 600 := ⟨by omega, by omega⟩
  go_upto_region 12 with (go_at_call 23; with_reducible refine Calls.mono hv ?_; rintro _ w2 ⟨A3, n3, c3, rfl, ho2, hb2⟩)
  have hbel2 := below_unit hF.bel ht.hU hb2
  have hr := (hF.ra.far ht.hUV.symm j2 d2).keep hb2
  have hx1 : w2.cell? ⟨X, 1, none⟩ = some (UP V) := (hb2.cell (p := ⟨X, 1, none⟩) (by rw [put_size]; exact World.block_lt_of_cell? _ _ hF.x1)).trans ((put_cell U j2 d2 _ _ ht.hXU).trans hF.x1)
  have hw := hw w2 hr (hrL.sl hbel2 ht.hV (by omega) capa) (hrK.sl hbel2 ht.hV (by omega) capb)
  go_upto_region 13 with (go_at_call 31; with_reducible refine Calls.mono hw ?_; rintro _ w3 ⟨A4, n4, c4, rfl, ho3, hb3⟩)
  have hm := mid hb2 hb3
  have h3 := hF.step ht hm
  have hoo := mid_own (U := U) hF.ra.lt ho2 hb3
  have hlk := vLike hm h3.ua h3.ra hoo ho3.rs er
  have hx0 := h3.x0
  have hx1 := h3.x1
  go_upto_region 14 with (go_at_call 30; with_reducible refine Calls.mono hlk ?_; rintro _ W2 ⟨rfl, hb4⟩)
  have hF := hF.step ht hb4
  clear hv hw hlk hoo h3 hm ho2 ho3 hb2 hb3 hb4 hr hbel2 hP cb hx0 hx1
  have cb := pairR_cnt (g := gScaleS s) (n := true) (i := j2) (c := d2) (cost := 2) (by omega) (by omega) (a := L) (b := L) (by omega)
  have hv := vScaleX hF.ua hLi hs (hF.in1.sl (fun b o e => (hF.f1 b o e).1) (by omega)) ⟨by omega, by omega⟩ (by omega)
  have hw := fun (W : World) (hr : RA V j2 d2 W) (sa : SL W V (.slice a L.length capa) L) (sb : SL W V (.slice b K.length capb) K) => r6ScaleX hr hLi hs sa ⟨by omega, by omega⟩ (by omega)
  obtain ⟨P, hP⟩ : ∃ P, pairR (gScaleS s) true j2 d2 2 L L = P := ⟨_, rfl⟩
  rw [hP] at hv cb
  simp only [hP] at hw
  obtain ⟨R, er, j3, d3⟩ := P
  simp only [] at hv cb hw
  have hc0 : 0 ≤ d3 ∧ d3 ≤ 900 := ⟨by omega, by omega⟩
  go_upto_region 15 with (go_at_call 24; with_reducible refine Calls.mono hv ?_; rintro _ w2 ⟨A3, n3, c3, rfl, ho2, hb2⟩)
  have hbel2 := below_unit hF.bel ht.hU hb2
  have hr := (hF.ra.far ht.hUV.symm j3 d3).keep hb2
  have hx1 : w2.cell? ⟨X, 1, none⟩ = some (UP V) := (hb2.cell (p := ⟨X, 1, none⟩) (by rw [put_size]; exact World.block_lt_of_cell? _ _ hF.x1)).trans ((put_cell U j3 d3 _ _ ht.hXU).trans hF.x1)
  have hw := hw w2 hr (hrL.sl hbel2 ht.hV (by omega) capa) (hrK.sl hbel2 ht.hV (by omega) capb)
  go_upto_region 16 with (go_at_call 32; with_reducible refine Calls.mono hw ?_; rintro _ w3 ⟨A4, n4, c4, rfl, ho3, hb3⟩)
  have hm := mid hb2 hb3
  have h3 := hF.step ht hm
  have hoo := mid_own (U := U) hF.ra.lt ho2 hb3
  have hlk := vLike hm h3.ua h3.ra hoo ho3.rs er
  have hx0 := h3.x0
  have hx1 := h3.x1
  go_upto_region 17 with (go_at_call 30; with_reducible refine Calls.mono hlk ?_; rintro _ W3 ⟨rfl, hb4⟩)
  have hF := hF.step ht hb4
  clear hv hw hlk hoo h3 hm ho2 ho3 hb2 hb3 hb4 hr hbel2 hP cb hx0 hx1
  have cb := dotR_cnt (i := j3) (c := d3) (a := L) (b := K) (by omega)
  have hv := vDotX hF.ua hLi hKi (hF.in1.sl (fun b o e => (hF.f1 b o e).1) (by omega)) (hF.in2.sl (fun b o e => (hF.f2 b o e).1) (by omega)) ⟨by omega, by omega⟩ (by omega) (by omega)
  have hw := fun (W : World) (hr : RA V j3 d3 W) (sa : SL W V (.slice a L.length capa) L) (sb : SL W V (.slice b K.length capb) K) => r6DotX hr hLi hKi sa sb ⟨by omega, by omega⟩ (by omega) (by omega)
  obtain ⟨P, hP⟩ : ∃ P, dotR j3 d3 L K = P := ⟨_, rfl⟩
  rw [hP] at hv cb
  simp only [hP] at hw
  obtain ⟨n, er, j4, d4⟩ := P
  simp only [] at hv cb hw
  have hc0 : 0 ≤ d4 ∧ d4 ≤ 1200 := ⟨by omega, by omega⟩
  go_upto_region 18 with (go_at_call 19; with_reducible refine Calls.mono hv ?_; rintro _ w2 ⟨rfl, hb2⟩)
  have hbel2 := below_unit hF.bel ht.hU hb2
  have hr := (hF.ra.far ht.hUV.symm j4 d4).keep hb2
  have hx1 : w2.cell? ⟨X, 1, none⟩ = some (UP V) := (hb2.cell (p := ⟨X, 1, none⟩) (by rw [put_size]; exact World.block_lt_of_cell? _ _ hF.x1)).trans ((put_cell U j4 d4 _ _ ht.hXU).trans hF.x1)
  have hw := hw w2 hr (hrL.sl hbel2 ht.hV (by omega) capa) (hrK.sl hbel2 ht.hV (by omega) capb)
  go_upto_region 19 with (go_at_call 33; with_reducible refine Calls.mono hw ?_; rintro _ w3 ⟨rfl, hb3⟩)
  have hm := mid hb2 hb3
  have h3 := hF.step ht hm
  have hx0 := h3.x0
  have hx1 := h3.x1
  have hsz := hm.size
  have hu3 := h3.ua
  have hr3 := h3.ra
  have k2 : Below w3.heap.size w3 ((w3.alloc (.cells #[.int .i64 n] 3)).alloc (.cells #[.int .i64 n] 3)) := by (repeat (first | assumption | exact Below.refl _ _ | with_reducible refine past_t _ ?_ | with_reducible refine below_a _ ?_ | with_reducible refine Below.drew ?_ | with_reducible refine below_d _ ?_ | (with_reducible refine Below.setCell ?_ (by (show _ ≤ _; repeat (first | exact Nat.le_refl _ | assumption | (omega; done) | with_reducible exact le_past (Nat.le_refl _) | with_reducible refine le_past ?_ | with_reducible refine le_al ?_ | with_reducible refine le_set ?_ | with_reducible refine le_p1 ?_))) _)))
  have hlk := vLike (hm.trans (k2.mono hsz)) (hu3.keep k2) (hr3.keep k2) ((OwnK.lit (put V j4 d4 (put U j4 d4 W3)) w3 .i64 [n] #[.int .i64 n] 3 rfl hsz 1 rfl (by omega) 1 rfl _ rfl).keep ((Below.refl _ _).alloc (Nat.le_refl _) (.cells #[.int .i64 n] 3))) (RS.lit .i64 (w3.alloc (.cells #[.int .i64 n] 3)) [n] #[.int .i64 n] 3 rfl 1 rfl (by omega) 1 rfl (w3.heap.size + 1) (by simp)) er
  go_upto_region 20 with (go_at_call 30; with_reducible refine Calls.mono hlk ?_; rintro _ W4 ⟨rfl, hb4⟩)
  have hF := hF.step ht hb4
  clear hv hw h3 hm hb2 hb3 hb4 hr hbel2 cb hx0 hx1 hu3 hr3 hsz hP k2 hlk
  have cb := mostR_cnt j4 d4 L L.length
  have hv := vMost hF.ua _ L hLi (hF.in1.sl (fun b o e => (hF.f1 b o e).1) (by omega)) ⟨by omega, by omega⟩
  have hw := fun (W : World) (hr : RA V j4 d4 W) (sa : SL W V (.slice a L.length capa) L) (sb : SL W V (.slice b K.length capb) K) => r6Most hr _ L hLi sa ⟨by omega, by omega⟩
  obtain ⟨P, hP⟩ : ∃ P, mostR j4 d4 L L.length = P := ⟨_, rfl⟩
  rw [hP] at hv cb
  simp only [hP] at hw
  obtain ⟨n, j5, d5⟩ := P
  simp only [] at hv cb hw
  have hc0 : 0 ≤ d5 ∧ d5 ≤ 1500 := ⟨by omega, by omega⟩
  go_upto_region 21 with (go_at_call 25; with_reducible refine Calls.mono hv ?_; rintro _ w2 ⟨rfl, hb2⟩)
  have hbel2 := below_unit hF.bel ht.hU hb2
  have hr := (hF.ra.far ht.hUV.symm j5 d5).keep hb2
  have hx1 : w2.cell? ⟨X, 1, none⟩ = some (UP V) := (hb2.cell (p := ⟨X, 1, none⟩) (by rw [put_size]; exact World.block_lt_of_cell? _ _ hF.x1)).trans ((put_cell U j5 d5 _ _ ht.hXU).trans hF.x1)
  have hw := hw w2 hr (hrL.sl hbel2 ht.hV (by omega) capa) (hrK.sl hbel2 ht.hV (by omega) capb)
  go_upto_region 22 with (go_at_call 34; with_reducible refine Calls.mono hw ?_; rintro _ w3 ⟨rfl, hb3⟩)
  have hm := mid hb2 hb3
  have h3 := hF.step ht hm
  have hx0 := h3.x0
  have hx1 := h3.x1
  have hsz := hm.size
  have hu3 := h3.ua
  have hr3 := h3.ra
  have k2 : Below w3.heap.size w3 ((w3.alloc (.cells #[.int .i64 n] 3)).alloc (.cells #[.int .i64 n] 3)) := by (repeat (first | assumption | exact Below.refl _ _ | with_reducible refine past_t _ ?_ | with_reducible refine below_a _ ?_ | with_reducible refine Below.drew ?_ | with_reducible refine below_d _ ?_ | (with_reducible refine Below.setCell ?_ (by (show _ ≤ _; repeat (first | exact Nat.le_refl _ | assumption | (omega; done) | with_reducible exact le_past (Nat.le_refl _) | with_reducible refine le_past ?_ | with_reducible refine le_al ?_ | with_reducible refine le_set ?_ | with_reducible refine le_p1 ?_))) _)))
  have hlk := vLike (hm.trans (k2.mono hsz)) (hu3.keep k2) (hr3.keep k2) ((OwnK.lit (put V j5 d5 (put U j5 d5 W4)) w3 .i64 [n] #[.int .i64 n] 3 rfl hsz 1 rfl (by omega) 1 rfl _ rfl).keep ((Below.refl _ _).alloc (Nat.le_refl _) (.cells #[.int .i64 n] 3))) (RS.lit .i64 (w3.alloc (.cells #[.int .i64 n] 3)) [n] #[.int .i64 n] 3 rfl 1 rfl (by omega) 1 rfl (w3.heap.size + 1) (by simp)) 0
  go_upto_region 23 with (go_at_call 30; with_reducible refine Calls.mono hlk ?_; rintro _ W5 ⟨rfl, hb4⟩)
  have hF := hF.step ht hb4
  clear hv hw h3 hm hb2 hb3 hb4 hr hbel2 cb hx0 hx1 hu3 hr3 hsz hP k2 hlk
  have s1 := hF.in1
  have s2 := hF.in2
  have s3 := HRL.out.keep hF.bel
  have s4 := HRK.out.keep hF.bel
  have hb := hF.bel
  have q1 := fun z => iSameT (s1.keep (past_below W5 z)) (s3.keep (past_below W5 z))
  have q2 := fun z => iSameT (s2.keep (past_below W5 z)) (s4.keep (past_below W5 z))
  have q3 := iSameT s1 s3
  clear hF s1 s2 s3 s4
  go_wp2_with (first | (go_at_call 26; with_reducible refine Calls_past (q3) (fun z => ?_)) | (go_at_call 26; first | (with_reducible refine Calls_past2 (q2 _) (fun z => ?_)) | (with_reducible refine Calls_past (q2 _) (fun z => ?_))) | (go_at_call 15; first | (with_reducible refine Calls_past2 (haw _) (fun z => ?_)) | (with_reducible refine Calls_past (haw _) (fun z => ?_))))
  go_ret
  exact ⟨rfl, by (repeat (first | assumption | exact Below.refl _ _ | with_reducible refine past_t _ ?_ | with_reducible refine below_a _ ?_ | with_reducible refine Below.drew ?_ | with_reducible refine below_d _ ?_ | (with_reducible refine Below.setCell ?_ (by (show _ ≤ _; repeat (first | exact Nat.le_refl _ | assumption | (omega; done) | with_reducible exact le_past (Nat.le_refl _) | with_reducible refine le_past ?_ | with_reducible refine le_al ?_ | with_reducible refine le_set ?_ | with_reducible refine le_p1 ?_))) _)))⟩
set_option maxRecDepth 100000 in
theorem lifted (os : Os) (started : os.Started) (H : Type) (enc : TypeId × Value → H) :
    ReturnsInHanded {} Try.checked os 8 .any (Rows.vecReckonsSpec.pre6 enc Try.prog Try.f8 Rows.vecReckonsRow.domain false) (Rows.vecReckonsSpec.post enc Try.prog Try.f8 false true false false) := by
  refine returnsInHanded_of_change (C := Try.checked) own started (by kernel_rfl) Try.func8
    (ChangeSpec.witness6 (enc := enc) (C := Try.checked) false ⟨#[], #[.slice none 0 0, .slice none 0 0, .int .i64 0], []⟩ 8 (by kernel_rfl) (by kernel_rfl) (by kernel_rfl) (by kernel_rfl)) ?_
  intro W base args ds gs before hval0 hW hcnd _
  have hval : ∀ (j : Nat) t v, Try.f8.params[j]? = some t → args[j]? = some v → Value.okWide Try.prog W .any base t v := hval0
  have hW' := hW
  obtain ⟨p, q, hA0, hV, rfl, hfz, hnd⟩ := hW
  have hA : DataW.TrodAll enc Try.prog W 0 (fun _ => true) true Try.f8.params.toList args.toList ds p := hA0
  rw [Try.params8] at hA hval
  obtain ⟨v0, vs0, d0, ds0, p0, q0, hargs, rfl, rfl, h0, r0⟩ := trodAll_cons hA
  obtain ⟨v1, vs1, d1, ds1, p1, q1, rfl, rfl, rfl, h1, r1⟩ := trodAll_cons r0
  obtain ⟨v2, vs2, d2, ds2, p2, q2, rfl, rfl, rfl, h2, r2⟩ := trodAll_cons r1
  obtain ⟨rfl, rfl, rfl⟩ := trodAll_nil r2
  obtain rfl : args = #[v0, v1, v2] := by cases args; simp_all
  obtain ⟨rfl, rfl⟩ := trodVars_none hV
  obtain ⟨a, lena, capa, rfl⟩ := okWide_slice Try.underlying22 (hval 0 22 v0 rfl rfl)
  have k0 := h0
  have lt0 : ∀ x ∈ p0, x.block < W.heap.size := by obtain ⟨m, hm⟩ := k0; exact DataW.trod_lt m _ _ _ hm
  obtain ⟨za, w0⟩ : ∃ zs, IsRow .i64 W a lena capa zs := by
    obtain ⟨fuel, hf⟩ := h0
    rcases open_ints Try.underlying22 Try.underlying3 (by kernel_rfl) hf with ⟨hcs, _⟩ | ⟨x, l, c, zs, hcs, _, hl, hm, hz, _, hcell, hwz⟩
    · simp [Value.cells] at hcs
      obtain ⟨rfl, rfl, rfl⟩ := hcs
      exact ⟨[], .inl ⟨rfl, rfl, rfl, rfl⟩⟩
    · simp [Value.cells] at hcs
      obtain ⟨rfl, rfl, rfl⟩ := hcs
      exact ⟨zs, .inr ⟨_, rfl, hl, hm, by simpa using hz, hcell, hwz⟩⟩
  obtain ⟨b, lenb, capb, rfl⟩ := okWide_slice Try.underlying22 (hval 1 22 v1 rfl rfl)
  have k1 := h1
  have lt1 : ∀ x ∈ p1, x.block < W.heap.size := by obtain ⟨m, hm⟩ := k1; exact DataW.trod_lt m _ _ _ hm
  obtain ⟨zb, w1⟩ : ∃ zs, IsRow .i64 W b lenb capb zs := by
    obtain ⟨fuel, hf⟩ := h1
    rcases open_ints Try.underlying22 Try.underlying3 (by kernel_rfl) hf with ⟨hcs, _⟩ | ⟨x, l, c, zs, hcs, _, hl, hm, hz, _, hcell, hwz⟩
    · simp [Value.cells] at hcs
      obtain ⟨rfl, rfl, rfl⟩ := hcs
      exact ⟨[], .inl ⟨rfl, rfl, rfl, rfl⟩⟩
    · simp [Value.cells] at hcs
      obtain ⟨rfl, rfl, rfl⟩ := hcs
      exact ⟨zs, .inr ⟨_, rfl, hl, hm, by simpa using hz, hcell, hwz⟩⟩
  obtain ⟨s, rfl, rfl, rfl, w2⟩ := open_int Try.underlying3 (hval 2 3 v2 rfl rfl) h2
  clear hA0 hval0
  refine (walk W a lena capa za w0 b lenb capb zb w1 s w2).mono fun e W' ⟨he, bel⟩ => ?_
  subst he
  exact ⟨_, rfl, _, _, _, [], _, [], hW', trodAll_mk1 (shut_bool Try.underlying4 _), (trodAll_cons_mk (Below.trod laidOut (by kernel_rfl) (of_decide_eq_true (by kernel_rfl)) k0 bel lt0) (trodAll_cons_mk (Below.trod laidOut (by kernel_rfl) (of_decide_eq_true (by kernel_rfl)) k1 bel lt1) (trodAll_cons_mk (shut_int Try.underlying3 w2) trodAll_mk0))), rfl, bel.frame _, fun h => by cases h⟩
theorem over : Rows.vecReckonsRow.holds Try.pinned (OpenSpec.ofChange Rows.vecReckonsSpec) :=
  OpenClaim.holds_of_wide 8 Try.f8 rfl rfl rfl rfl rfl rfl rfl ⟨rfl, rfl, rfl, rfl, rfl⟩ rfl rfl rfl rfl rfl (by kernel_rfl) Try.func8 (by kernel_rfl)
    (of_decide_eq_true (by kernel_rfl)) (by unfold Func.isWrapper; first | (rw [if_pos (by decide +kernel)]; kernel_rfl) | (rw [if_neg (by decide +kernel)]; exact ⟨rfl, rfl⟩))
    (fun os started H enc _ => lifted os started H enc)
theorem proved : Rows.VecReckonsSaid := over
#print axioms proved
end Go.Proofs.Ytfhiodclbabdkaa.vecReckons
