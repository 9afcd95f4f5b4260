/- What was added is taken away again if nothing is cut, and a sum hangs on no order of two. -/
import Derived.Test.YtfhiodclbabdkaaVec7
import Derived.Test.YtfhiodclbabdkaaRows1
import Derived.Deep.DeepCutAuto
import Derived.Deep.LoopGhost
import Derived.WalkKit
import Derived.ProofKit
import Derived.OpenShut
import Derived.ShutString
import Derived.ChangeOld
import Derived.Below
import Derived.Lib.SmallJoins
namespace Go.Proofs.Ytfhiodclbabdkaa.vecBack
open Go.ChangeShapes Go.WideShapes Go.ChangeAt Go.RowKit
open Go.ChangeMaps (open_string shut_string)
open Go.Joins
set_option linter.unusedVariables false
theorem own : ownKnob Try.prog.godebug = none := by kernel_rfl
theorem laidOut : laidOutB Try.prog = true := by kernel_rfl
def IsRow (k : IntKind) (w : World) (a : Option Addr) (len cap : Nat) (zs : List Int) : Prop :=
  (a = none ∧ len = 0 ∧ cap = 0 ∧ zs = []) ∨
  ∃ x, a = some x ∧ len ≤ cap ∧ cap ≤ maxLen ∧ zs.length = cap ∧ (∀ i, i < zs.length → w.cell? (x.add i) = some (.int k (zs.getD i 0))) ∧ ∀ n ∈ zs, (Lit.int k n).wf = true
set_option maxHeartbeats 8000000 in
set_option maxRecDepth 100000 in
theorem walk (w : World) (a : Option Addr) (lena capa : Nat) (za : List Int) (w0 : IsRow .i64 w a lena capa za) (b : Option Addr) (lenb capb : Nat) (zb : List Int) (w1 : IsRow .i64 w b lenb capb zb) : -- the walk
    Calls Try.prog 7 #[.slice a lena capa, .slice b lenb capb] w fun e w' => e = .returned (.bool true) ∧ Below w.heap.size w w' := by
  have haw := lKnown6
  unfold SaysYes at haw
  obtain ⟨L, rfl, hcapL, hLi, hrL⟩ := RL_of w0
  obtain ⟨K, rfl, hcapK, hKi, hrK⟩ := RL_of w1
  have htL : capa ≤ 9223372036854775807 := by rcases w0 with ⟨_, _, e, _⟩ | ⟨_, _, _, e, _⟩ <;> (first | omega | (unfold maxLen at e; exact e))
  have htK : capb ≤ 9223372036854775807 := by rcases w1 with ⟨_, _, e, _⟩ | ⟨_, _, _, e, _⟩ <;> (first | omega | (unfold maxLen at e; exact e))
  have hcut := fun (h1 : L.length ≤ 150) (h2 : K.length ≤ 150) (W : World) => vCut a b L.length capa K.length capb hcapL.1 htL (by omega) W
  have hcut2 := fun (h1 : L.length ≤ 150) (h2 : K.length ≤ 150) (W : World) => vCut b a K.length capb L.length capa hcapK.1 htK (by omega) W
  clear w0 w1
  have hcL := hcapL.1
  have hcK := hcapK.1
  have hnL := hcapL.2
  have hnK := hcapK.2
  clear hcapL hcapK
  have HCL := Lib.hid hcL
  have HCK := Lib.hid hcK
  have HNL := Lib.hid hnL
  have HNK := Lib.hid hnK
  have HTL := Lib.hid htL
  have HTK := Lib.hid htK
  clear hcL hcK hnL hnK htL htK
  by_cases hbig : 150 < L.length
  · have d1 : decide ((150 : Int) < (L.length : Int)) = true := by simp; omega
    clear hcut hcut2
    go_enter Try.func7, Try.ntmps7
    go_wp2_with (first | (go_at_call 5; first | (with_reducible refine Calls_past2 (haw _) (fun z => ?_)) | (with_reducible refine Calls_past (haw _) (fun z => ?_))) | (go_at_call 16; refine (uNew _).mono ?_; rintro e w1 ⟨rfl, rfl⟩))
    go_ret
    exact ⟨rfl, by (repeat (first | assumption | exact Below.refl _ _ | with_reducible refine past_t _ ?_ | with_reducible refine below_a _ ?_ | with_reducible refine Below.drew ?_ | with_reducible refine below_d _ ?_ | (with_reducible refine Below.setCell ?_ (by (show _ ≤ _; repeat (first | exact Nat.le_refl _ | assumption | (omega; done) | with_reducible exact le_past (Nat.le_refl _) | with_reducible refine le_past ?_ | with_reducible refine le_al ?_ | with_reducible refine le_set ?_ | with_reducible refine le_p1 ?_))) _)))⟩
  by_cases hbig2 : 150 < K.length
  · have d1 : decide ((150 : Int) < (L.length : Int)) = false := by simp; omega
    have d2 : decide ((150 : Int) < (K.length : Int)) = true := by simp; omega
    clear hcut hcut2
    go_enter Try.func7, Try.ntmps7
    go_wp2_with (first | (go_at_call 5; first | (with_reducible refine Calls_past2 (haw _) (fun z => ?_)) | (with_reducible refine Calls_past (haw _) (fun z => ?_))) | (go_at_call 16; refine (uNew _).mono ?_; rintro e w1 ⟨rfl, rfl⟩))
    go_ret
    exact ⟨rfl, by (repeat (first | assumption | exact Below.refl _ _ | with_reducible refine past_t _ ?_ | with_reducible refine below_a _ ?_ | with_reducible refine Below.drew ?_ | with_reducible refine below_d _ ?_ | (with_reducible refine Below.setCell ?_ (by (show _ ≤ _; repeat (first | exact Nat.le_refl _ | assumption | (omega; done) | with_reducible exact le_past (Nat.le_refl _) | with_reducible refine le_past ?_ | with_reducible refine le_al ?_ | with_reducible refine le_set ?_ | with_reducible refine le_p1 ?_))) _)))⟩
  have d1 : decide ((150 : Int) < (L.length : Int)) = false := by simp; omega
  have d2 : decide ((150 : Int) < (K.length : Int)) = false := by simp; omega
  have hcut := hcut (by omega) (by omega)
  have hcut2 := hcut2 (by omega) (by omega)
  go_enter Try.func7, Try.ntmps7
  go_upto_region 7 with (first | (go_at_call 5; first | (with_reducible refine Calls_past2 (haw _) (fun z => ?_)) | (with_reducible refine Calls_past (haw _) (fun z => ?_))) | (go_at_call 16; refine (uNew _).mono ?_; rintro e w1 ⟨rfl, rfl⟩))
  refine wp_gen (fun W0 hW0 => ?_)
  have hU0 : UA (w.heap.size + gap w z) false 0 W0 := by rw [hW0]; exact ⟨by (first | (simp [go_sem]; done) | (simp [go_sem, ↓IntWalk.iteOmega]; done)), by (first | (simp [go_sem]; done) | (simp [go_sem, ↓IntWalk.iteOmega]; done)), by (first | (simp [go_sem]; done) | (simp [go_sem, ↓IntWalk.iteOmega]; done)), by (first | (simp [go_sem]; done) | (simp [go_sem, ↓IntWalk.iteOmega]; done)), by (first | (simp [go_sem]; done) | (simp [go_sem, ↓IntWalk.iteOmega]; done))⟩
  have hB0 : Below w.heap.size w W0 := by rw [hW0]; (repeat (first | assumption | exact Below.refl _ _ | with_reducible refine past_t _ ?_ | with_reducible refine below_a _ ?_ | with_reducible refine Below.drew ?_ | with_reducible refine below_d _ ?_ | (with_reducible refine Below.setCell ?_ (by (show _ ≤ _; repeat (first | exact Nat.le_refl _ | assumption | (omega; done) | with_reducible exact le_past (Nat.le_refl _) | with_reducible refine le_past ?_ | with_reducible refine le_al ?_ | with_reducible refine le_set ?_ | with_reducible refine le_p1 ?_))) _)))
  obtain ⟨U, hU⟩ : ∃ U, w.heap.size + gap w z = U := ⟨_, rfl⟩
  rw [hU] at hU0 ⊢
  have hUw : w.heap.size ≤ U := by omega
  clear hW0 hU
  go_upto_region 8 with (first | (go_at_call 17; first | (with_reducible refine Calls_past2 (hcut _) (fun z => ?_)) | (with_reducible refine Calls_past (hcut _) (fun z => ?_))) | (go_at_call 17; first | (with_reducible refine Calls_past2 (hcut2 _) (fun z => ?_)) | (with_reducible refine Calls_past (hcut2 _) (fun z => ?_))))
  obtain ⟨n, hn⟩ : ∃ n, min L.length K.length = n := ⟨_, rfl⟩
  have hn2 : min K.length L.length = n := by omega
  rw [hn, hn2]
  have sL := ((hrL.sl hB0 hUw (by omega) capa).take n (by omega) capa).keep (past_below W0 z)
  have sK := ((hrK.sl hB0 hUw (by omega) capb).take n (by omega) capb).keep (past_below W0 z)
  have hAi := hLi.take n
  have hBi := hKi.take n
  obtain ⟨A, hA⟩ : ∃ A, L.take n = A := ⟨_, rfl⟩
  obtain ⟨C, hC⟩ : ∃ C, K.take n = C := ⟨_, rfl⟩
  have hAl : A.length = n := by rw [← hA]; simp; omega
  have hCl : C.length = n := by rw [← hC]; simp; omega
  rw [hA] at sL hAi
  rw [hC] at sK hBi
  have hU1 := hU0.keep (past_below W0 z)
  have hB1 := hB0.trans ((past_below W0 z).mono hB0.size)
  obtain ⟨W1, hW1⟩ : ∃ W1, past W0 z = W1 := ⟨_, rfl⟩
  rw [hW1] at sL sK hU1 hB1 ⊢
  have hn3 : n ≤ 150 := by omega
  have hnA : n ≤ capa := by have := HCL.out; omega
  have hnC : n ≤ capb := by have := HCK.out; omega
  have rA := sL.rs (c := capa) hnA HTL.out HNL.out
  have rC := sK.rs (c := capb) hnC HTK.out HNK.out
  clear hA hC hcut hcut2 hn hn2 d1 d2 hU0 hB0 hW1 hrL hrK hLi hKi HCL HCK HNL HNK HTL HTK hbig hbig2
  have hs := vSum hU1 _ _ A C hAi hBi sL sK (by omega) ⟨by omega, by omega⟩ (by omega)
  have hcomm := sum_comm false (mapG gSum false A C n).2 hAi hBi n (by omega) (by omega)
  have hno := mapG_no (i := (mapG gSum false A C n).2) (a := C) (b := A) n
  have hback := map_back hAi hBi (by omega)
  have hml := mapG_len gSum false A C n
  have hmi := mapG_all gSum_in false A C n
  rw [hAl] at hs hback
  have hless := hback
  obtain ⟨P, hP⟩ : ∃ P, mapG gSum false A C n = P := ⟨_, rfl⟩
  rw [hP] at hs hcomm hno hback hml hmi
  obtain ⟨R, f⟩ := P
  simp only at hs hcomm hno hback hml hmi
  go_upto_region 9 with (go_at_call 18; with_reducible refine Calls.mono hs ?_; rintro _ w2 ⟨A3, c3, rfl, ho3, hb3⟩)
  have hU2 := (hU1.put f _).keep hb3
  have sL2 := (sL.put f _).keep hb3
  have sK2 := (sK.put f _).keep hb3
  have hB2 := below_unit hB1 hUw hb3
  have hUl := hU1.lt
  have hUl2 := hU2.lt
  have rA2 := sL2.rs (c := capa) hnA rA.top rA.nil_
  have rC2 := sK2.rs (c := capb) hnC rC.top rC.nil_
  clear hs hU1 hB1 hb3 sL sK rA rC hless
  have hs2 := vSum hU2 _ _ C A hBi hAi sK2 sL2 (by omega) ⟨by omega, by omega⟩ (by omega)
  rw [hCl] at hs2
  obtain ⟨Q, hQ⟩ : ∃ Q, mapG gSum f C A n = Q := ⟨_, rfl⟩
  rw [hQ] at hs2 hcomm hno
  obtain ⟨R2, f2⟩ := Q
  simp only at hs2 hcomm hno
  subst hcomm
  go_upto_region 10 with (go_at_call 18; with_reducible refine Calls.mono hs2 ?_; rintro _ w3 ⟨A4, c4, rfl, ho4, hb4⟩)
  have hU3 := (hU2.put f2 _).keep hb4
  have sL3 := (sL2.put f2 _).keep hb4
  have sK3 := (sK2.put f2 _).keep hb4
  have ho3 := (ownK_put ho3 hUl f2 _).keep hb4
  have hB3 := below_unit hB2 hUw hb4
  have hUl3 := hU3.lt
  have hr3 := ho3.rs
  have hr4 := ho4.rs
  have s3 := ho3.sl hUl (by omega)
  have rA3 := sL3.rs (c := capa) hnA rA2.top rA2.nil_
  clear hs2 hU2 hB2 hb4 sL2 sK2 rA2 rC2 ho4
  have hsame := iSameT hr3 hr4
  have hc3 := fun z => uCut (hU3.keep (past_below w3 z))
  cases f2
  · obtain ⟨hf, -⟩ := hno rfl
    subst hf
    have hback := hback rfl n (Nat.le_refl _)
    have hle := fun z => vLess (hU3.keep (past_below w3 z)) _ _ R C hmi hBi (s3.keep (past_below w3 z)) (sK3.keep (past_below w3 z)) (by omega) ⟨by omega, by omega⟩ (by omega)
    have eR : mapG gLess false R C R.length = (A, false) := by
      rw [hml, hback, List.take_of_length_le (by omega)]
    rw [eR, hml] at hle
    simp only at hle
    clear hback eR hno hQ hP
    go_upto_region 14 with (first | (go_at_call 26; first | (with_reducible refine Calls_past2 (hsame) (fun z => ?_)) | (with_reducible refine Calls_past (hsame) (fun z => ?_))) | (go_at_call 21; first | (with_reducible refine Calls_past2 (hc3 _) (fun z => ?_)) | (with_reducible refine Calls_past (hc3 _) (fun z => ?_))))
    go_upto_region 15 with (go_at_call 23; with_reducible refine Calls.mono (hle _) ?_; rintro _ w4 ⟨A5, c5, rfl, ho5, hb5⟩)
    have hU4 := ((hU3.keep (past_below w3 z)).put false _).keep hb5
    have rA4 := (((sL3.keep (past_below w3 z)).put false _).keep hb5).rs (c := capa) hnA rA3.top rA3.nil_
    have hB4 := below_unit (hB3.trans ((past_below w3 z).mono hB3.size)) hUw hb5
    have hr5 := ho5.rs
    have hsame2 := iSameT hr5 rA4
    have hc4 := fun z => uCut (hU4.keep (past_below w4 z))
    clear hU3 hb5 hsame hc3 hle
    go_wp2_with (first | (go_at_call 26; first | (with_reducible refine Calls_past2 (hsame2) (fun z => ?_)) | (with_reducible refine Calls_past (hsame2) (fun z => ?_))) | (go_at_call 21; first | (with_reducible refine Calls_past2 (hc4 _) (fun z => ?_)) | (with_reducible refine Calls_past (hc4 _) (fun z => ?_))))
    go_ret
    exact ⟨rfl, by (repeat (first | assumption | exact Below.refl _ _ | with_reducible refine past_t _ ?_ | with_reducible refine below_a _ ?_ | with_reducible refine Below.drew ?_ | with_reducible refine below_d _ ?_ | (with_reducible refine Below.setCell ?_ (by (show _ ≤ _; repeat (first | exact Nat.le_refl _ | assumption | (omega; done) | with_reducible exact le_past (Nat.le_refl _) | with_reducible refine le_past ?_ | with_reducible refine le_al ?_ | with_reducible refine le_set ?_ | with_reducible refine le_p1 ?_))) _)))⟩
  · clear hno hback
    go_wp2_with (first | (go_at_call 26; first | (with_reducible refine Calls_past2 (hsame) (fun z => ?_)) | (with_reducible refine Calls_past (hsame) (fun z => ?_))) | (go_at_call 21; first | (with_reducible refine Calls_past2 (hc3 _) (fun z => ?_)) | (with_reducible refine Calls_past (hc3 _) (fun z => ?_))))
    go_ret
    exact ⟨rfl, by (repeat (first | assumption | exact Below.refl _ _ | with_reducible refine past_t _ ?_ | with_reducible refine below_a _ ?_ | with_reducible refine Below.drew ?_ | with_reducible refine below_d _ ?_ | (with_reducible refine Below.setCell ?_ (by (show _ ≤ _; repeat (first | exact Nat.le_refl _ | assumption | (omega; done) | with_reducible exact le_past (Nat.le_refl _) | with_reducible refine le_past ?_ | with_reducible refine le_al ?_ | with_reducible refine le_set ?_ | with_reducible refine le_p1 ?_))) _)))⟩
set_option maxRecDepth 100000 in
theorem lifted (os : Os) (started : os.Started) (H : Type) (enc : TypeId × Value → H) :
    ReturnsInHanded {} Try.checked os 7 .any (Rows.vecBackSpec.pre6 enc Try.prog Try.f7 Rows.vecBackRow.domain false) (Rows.vecBackSpec.post enc Try.prog Try.f7 false true false false) := by
  refine returnsInHanded_of_change (C := Try.checked) own started (by kernel_rfl) Try.func7
    (ChangeSpec.witness6 (enc := enc) (C := Try.checked) false ⟨#[], #[.slice none 0 0, .slice none 0 0], []⟩ 8 (by kernel_rfl) (by kernel_rfl) (by kernel_rfl) (by kernel_rfl)) ?_
  intro W base args ds gs before hval0 hW hcnd _
  have hval : ∀ (j : Nat) t v, Try.f7.params[j]? = some t → args[j]? = some v → Value.okWide Try.prog W .any base t v := hval0
  have hW' := hW
  obtain ⟨p, q, hA0, hV, rfl, hfz, hnd⟩ := hW
  have hA : DataW.TrodAll enc Try.prog W 0 (fun _ => true) true Try.f7.params.toList args.toList ds p := hA0
  rw [Try.params7] at hA hval
  obtain ⟨v0, vs0, d0, ds0, p0, q0, hargs, rfl, rfl, h0, r0⟩ := trodAll_cons hA
  obtain ⟨v1, vs1, d1, ds1, p1, q1, rfl, rfl, rfl, h1, r1⟩ := trodAll_cons r0
  obtain ⟨rfl, rfl, rfl⟩ := trodAll_nil r1
  obtain rfl : args = #[v0, v1] := by cases args; simp_all
  obtain ⟨rfl, rfl⟩ := trodVars_none hV
  obtain ⟨a, lena, capa, rfl⟩ := okWide_slice Try.underlying22 (hval 0 22 v0 rfl rfl)
  have k0 := h0
  have lt0 : ∀ x ∈ p0, x.block < W.heap.size := by obtain ⟨m, hm⟩ := k0; exact DataW.trod_lt m _ _ _ hm
  obtain ⟨za, w0⟩ : ∃ zs, IsRow .i64 W a lena capa zs := by
    obtain ⟨fuel, hf⟩ := h0
    rcases open_ints Try.underlying22 Try.underlying3 (by kernel_rfl) hf with ⟨hcs, _⟩ | ⟨x, l, c, zs, hcs, _, hl, hm, hz, _, hcell, hwz⟩
    · simp [Value.cells] at hcs
      obtain ⟨rfl, rfl, rfl⟩ := hcs
      exact ⟨[], .inl ⟨rfl, rfl, rfl, rfl⟩⟩
    · simp [Value.cells] at hcs
      obtain ⟨rfl, rfl, rfl⟩ := hcs
      exact ⟨zs, .inr ⟨_, rfl, hl, hm, by simpa using hz, hcell, hwz⟩⟩
  obtain ⟨b, lenb, capb, rfl⟩ := okWide_slice Try.underlying22 (hval 1 22 v1 rfl rfl)
  have k1 := h1
  have lt1 : ∀ x ∈ p1, x.block < W.heap.size := by obtain ⟨m, hm⟩ := k1; exact DataW.trod_lt m _ _ _ hm
  obtain ⟨zb, w1⟩ : ∃ zs, IsRow .i64 W b lenb capb zs := by
    obtain ⟨fuel, hf⟩ := h1
    rcases open_ints Try.underlying22 Try.underlying3 (by kernel_rfl) hf with ⟨hcs, _⟩ | ⟨x, l, c, zs, hcs, _, hl, hm, hz, _, hcell, hwz⟩
    · simp [Value.cells] at hcs
      obtain ⟨rfl, rfl, rfl⟩ := hcs
      exact ⟨[], .inl ⟨rfl, rfl, rfl, rfl⟩⟩
    · simp [Value.cells] at hcs
      obtain ⟨rfl, rfl, rfl⟩ := hcs
      exact ⟨zs, .inr ⟨_, rfl, hl, hm, by simpa using hz, hcell, hwz⟩⟩
  clear hA0 hval0
  refine (walk W a lena capa za w0 b lenb capb zb w1).mono fun e W' ⟨he, bel⟩ => ?_
  subst he
  exact ⟨_, rfl, _, _, _, [], _, [], hW', trodAll_mk1 (shut_bool Try.underlying4 _), (trodAll_cons_mk (Below.trod laidOut (by kernel_rfl) (of_decide_eq_true (by kernel_rfl)) k0 bel lt0) (trodAll_cons_mk (Below.trod laidOut (by kernel_rfl) (of_decide_eq_true (by kernel_rfl)) k1 bel lt1) trodAll_mk0)), rfl, bel.frame _, fun h => by cases h⟩
theorem over : Rows.vecBackRow.holds Try.pinned (OpenSpec.ofChange Rows.vecBackSpec) :=
  OpenClaim.holds_of_wide 7 Try.f7 rfl rfl rfl rfl rfl rfl rfl ⟨rfl, rfl, rfl, rfl, rfl⟩ rfl rfl rfl rfl rfl (by kernel_rfl) Try.func7 (by kernel_rfl)
    (of_decide_eq_true (by kernel_rfl)) (by unfold Func.isWrapper; first | (rw [if_pos (by decide +kernel)]; kernel_rfl) | (rw [if_neg (by decide +kernel)]; exact ⟨rfl, rfl⟩))
    (fun os started H enc _ => lifted os started H enc)
theorem proved : Rows.VecBackSaid := over
#print axioms proved
end Go.Proofs.Ytfhiodclbabdkaa.vecBack
