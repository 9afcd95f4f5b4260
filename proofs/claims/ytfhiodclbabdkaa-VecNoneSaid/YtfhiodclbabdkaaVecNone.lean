/- Nothing is reckoned by a unit that is nil, or that nobody made. -/
import Derived.Test.YtfhiodclbabdkaaVec7
import Derived.Test.YtfhiodclbabdkaaRows1
import Derived.Deep.DeepCutAuto
import Derived.Deep.LoopGhost
import Derived.WalkKit
import Derived.ProofKit
import Derived.OpenShut
import Derived.ShutString
import Derived.ChangeOld
import Derived.Below
import Derived.Lib.SmallJoins
namespace Go.Proofs.Ytfhiodclbabdkaa.vecNone
open Go.ChangeShapes Go.WideShapes Go.ChangeAt Go.RowKit
open Go.ChangeMaps (open_string shut_string)
open Go.Joins
set_option linter.unusedVariables false
theorem own : ownKnob Try.prog.godebug = none := by kernel_rfl
theorem laidOut : laidOutB Try.prog = true := by kernel_rfl
def IsRow (k : IntKind) (w : World) (a : Option Addr) (len cap : Nat) (zs : List Int) : Prop :=
  (a = none ∧ len = 0 ∧ cap = 0 ∧ zs = []) ∨
  ∃ x, a = some x ∧ len ≤ cap ∧ cap ≤ maxLen ∧ zs.length = cap ∧ (∀ i, i < zs.length → w.cell? (x.add i) = some (.int k (zs.getD i 0))) ∧ ∀ n ∈ zs, (Lit.int k n).wf = true
set_option maxHeartbeats 8000000 in
set_option maxRecDepth 100000 in
theorem walk (w : World) (a : Option Addr) (lena capa : Nat) (za : List Int) (w0 : IsRow .i64 w a lena capa za) (b : Option Addr) (lenb capb : Nat) (zb : List Int) (w1 : IsRow .i64 w b lenb capb zb) : -- the walk
    Calls Try.prog 4 #[.slice a lena capa, .slice b lenb capb] w fun e w' => e = .returned (.bool true) ∧ Below w.heap.size w w' := by
  have haw := lAwake6
  unfold SaysYes at haw
  obtain ⟨L, rfl, hcapL, hLi, hrL⟩ := RL_of w0
  obtain ⟨K, rfl, hcapK, hKi, hrK⟩ := RL_of w1
  clear w0 w1 hcapL hcapK hrL hrK hLi hKi
  by_cases hbig0 : 150 < L.length
  · have d1 : decide ((150 : Int) < (L.length : Int)) = true := by simp; omega
    go_enter Try.func4, Try.ntmps4
    go_wp2_with (first | (go_at_call 15; first | (with_reducible refine Calls_past2 (haw _) (fun z => ?_)) | (with_reducible refine Calls_past (haw _) (fun z => ?_))) | (go_at_call 16; refine (uNew _).mono ?_; rintro e w1 ⟨rfl, rfl⟩))
    go_ret
    exact ⟨rfl, by (repeat (first | assumption | exact Below.refl _ _ | with_reducible refine past_t _ ?_ | with_reducible refine below_a _ ?_ | with_reducible refine Below.drew ?_ | with_reducible refine below_d _ ?_ | (with_reducible refine Below.setCell ?_ (by (show _ ≤ _; repeat (first | exact Nat.le_refl _ | assumption | (omega; done) | with_reducible exact le_past (Nat.le_refl _) | with_reducible refine le_past ?_ | with_reducible refine le_al ?_ | with_reducible refine le_set ?_ | with_reducible refine le_p1 ?_))) _)))⟩
  by_cases hbig1 : 150 < K.length
  · have e0 : decide ((150 : Int) < (L.length : Int)) = false := by simp; omega
    have d1 : decide ((150 : Int) < (K.length : Int)) = true := by simp; omega
    go_enter Try.func4, Try.ntmps4
    go_wp2_with (first | (go_at_call 15; first | (with_reducible refine Calls_past2 (haw _) (fun z => ?_)) | (with_reducible refine Calls_past (haw _) (fun z => ?_))) | (go_at_call 16; refine (uNew _).mono ?_; rintro e w1 ⟨rfl, rfl⟩))
    go_ret
    exact ⟨rfl, by (repeat (first | assumption | exact Below.refl _ _ | with_reducible refine past_t _ ?_ | with_reducible refine below_a _ ?_ | with_reducible refine Below.drew ?_ | with_reducible refine below_d _ ?_ | (with_reducible refine Below.setCell ?_ (by (show _ ≤ _; repeat (first | exact Nat.le_refl _ | assumption | (omega; done) | with_reducible exact le_past (Nat.le_refl _) | with_reducible refine le_past ?_ | with_reducible refine le_al ?_ | with_reducible refine le_set ?_ | with_reducible refine le_p1 ?_))) _)))⟩
  have d0 : decide ((150 : Int) < (L.length : Int)) = false := by simp; omega
  have d1 : decide ((150 : Int) < (K.length : Int)) = false := by simp; omega
  go_enter Try.func4, Try.ntmps4
  go_upto_region 4 with fail
  refine wp_gen (fun W0 hW0 => ?_)
  have c0 : W0.cell? ⟨w.heap.size, 2, none⟩ = some (.bool false) := by rw [hW0]; (first | (simp [go_sem]; done) | (simp [go_sem, ↓IntWalk.iteOmega]; done))
  have c1 : W0.cell? ⟨w.heap.size + 1, 0, none⟩ = some (.pointer none) := by rw [hW0]; (first | (simp [go_sem]; done) | (simp [go_sem, ↓IntWalk.iteOmega]; done))
  have c2 : W0.cell? ⟨w.heap.size + 1, 1, none⟩ = some (.pointer (some ⟨w.heap.size, 0, none⟩)) := by rw [hW0]; (first | (simp [go_sem]; done) | (simp [go_sem, ↓IntWalk.iteOmega]; done))
  have hB0 : Below w.heap.size w W0 := by rw [hW0]; (repeat (first | assumption | exact Below.refl _ _ | with_reducible refine past_t _ ?_ | with_reducible refine below_a _ ?_ | with_reducible refine Below.drew ?_ | with_reducible refine below_d _ ?_ | (with_reducible refine Below.setCell ?_ (by (show _ ≤ _; repeat (first | exact Nat.le_refl _ | assumption | (omega; done) | with_reducible exact le_past (Nat.le_refl _) | with_reducible refine le_past ?_ | with_reducible refine le_al ?_ | with_reducible refine le_set ?_ | with_reducible refine le_p1 ?_))) _)))
  have hs : w.heap.size + 1 < W0.heap.size := World.block_lt_of_cell? W0 _ c1
  have hN0 : ∀ z, NU none (past W0 z) := fun z => .inl rfl
  have hN1 : ∀ z, NU (some ⟨w.heap.size, 0, none⟩) (past W0 z) := fun z => NU.keep (.inr ⟨w.heap.size, rfl, c0⟩) (past_below W0 z)
  clear hW0 d0 d1 hbig0 hbig1 c0
  go_wp2_with fail
  go_loopg [6] 2 (fun g s6 wr => ∃ k : Nat, k ≤ 2 ∧ 2 ≤ g + k ∧ s6 = .int .i64 k ∧ ∃ z, wr = past W0 z)
  case atStart => exact ⟨0, by omega, by omega, rfl, _, past_of (Below.refl _ _)⟩
  case round =>
    obtain ⟨k, hk, hg, rfl, z, rfl⟩ := hrel
    obtain rfl | rfl | rfl : k = 0 ∨ k = 1 ∨ k = 2 := by omega
    ·
      go_wp2_with (first | (go_at_call 18; first | (with_reducible refine Calls_past2 (nSum (hN0 _) _ _) (fun z => ?_)) | (with_reducible refine Calls_past (nSum (hN0 _) _ _) (fun z => ?_))) | (go_at_call 23; first | (with_reducible refine Calls_past2 (nLess (hN0 _) _ _) (fun z => ?_)) | (with_reducible refine Calls_past (nLess (hN0 _) _ _) (fun z => ?_))) | (go_at_call 24; first | (with_reducible refine Calls_past2 (nScale (hN0 _) _ _) (fun z => ?_)) | (with_reducible refine Calls_past (nScale (hN0 _) _ _) (fun z => ?_))) | (go_at_call 19; first | (with_reducible refine Calls_past2 (nvDot (hN0 _) _ _) (fun z => ?_)) | (with_reducible refine Calls_past (nvDot (hN0 _) _ _) (fun z => ?_))) | (go_at_call 25; first | (with_reducible refine Calls_past2 (nMost (hN0 _) _) (fun z => ?_)) | (with_reducible refine Calls_past (nMost (hN0 _) _) (fun z => ?_))))
      go_roundg 1
      case measure => omega
      case rel => exact ⟨1, by omega, by omega, by go_num, _, rfl⟩
    ·
      go_wp2_with (first | (go_at_call 18; first | (with_reducible refine Calls_past2 (nSum (hN1 _) _ _) (fun z => ?_)) | (with_reducible refine Calls_past (nSum (hN1 _) _ _) (fun z => ?_))) | (go_at_call 23; first | (with_reducible refine Calls_past2 (nLess (hN1 _) _ _) (fun z => ?_)) | (with_reducible refine Calls_past (nLess (hN1 _) _ _) (fun z => ?_))) | (go_at_call 24; first | (with_reducible refine Calls_past2 (nScale (hN1 _) _ _) (fun z => ?_)) | (with_reducible refine Calls_past (nScale (hN1 _) _ _) (fun z => ?_))) | (go_at_call 19; first | (with_reducible refine Calls_past2 (nvDot (hN1 _) _ _) (fun z => ?_)) | (with_reducible refine Calls_past (nvDot (hN1 _) _ _) (fun z => ?_))) | (go_at_call 25; first | (with_reducible refine Calls_past2 (nMost (hN1 _) _) (fun z => ?_)) | (with_reducible refine Calls_past (nMost (hN1 _) _) (fun z => ?_))))
      go_roundg 0
      case measure => omega
      case rel => exact ⟨2, by omega, by omega, by go_num, _, rfl⟩
    · go_wp2_with ((go_at_call 15; first | (with_reducible refine Calls_past2 (haw _) (fun z => ?_)) | (with_reducible refine Calls_past (haw _) (fun z => ?_))))
      go_ret
      exact ⟨rfl, by (repeat (first | assumption | exact Below.refl _ _ | with_reducible refine past_t _ ?_ | with_reducible refine below_a _ ?_ | with_reducible refine Below.drew ?_ | with_reducible refine below_d _ ?_ | (with_reducible refine Below.setCell ?_ (by (show _ ≤ _; repeat (first | exact Nat.le_refl _ | assumption | (omega; done) | with_reducible exact le_past (Nat.le_refl _) | with_reducible refine le_past ?_ | with_reducible refine le_al ?_ | with_reducible refine le_set ?_ | with_reducible refine le_p1 ?_))) _)))⟩
set_option maxRecDepth 100000 in
theorem lifted (os : Os) (started : os.Started) (H : Type) (enc : TypeId × Value → H) :
    ReturnsInHanded {} Try.checked os 4 .any (Rows.vecNoneSpec.pre6 enc Try.prog Try.f4 Rows.vecNoneRow.domain false) (Rows.vecNoneSpec.post enc Try.prog Try.f4 false true false false) := by
  refine returnsInHanded_of_change (C := Try.checked) own started (by kernel_rfl) Try.func4
    (ChangeSpec.witness6 (enc := enc) (C := Try.checked) false ⟨#[], #[.slice none 0 0, .slice none 0 0], []⟩ 8 (by kernel_rfl) (by kernel_rfl) (by kernel_rfl) (by kernel_rfl)) ?_
  intro W base args ds gs before hval0 hW hcnd _
  have hval : ∀ (j : Nat) t v, Try.f4.params[j]? = some t → args[j]? = some v → Value.okWide Try.prog W .any base t v := hval0
  have hW' := hW
  obtain ⟨p, q, hA0, hV, rfl, hfz, hnd⟩ := hW
  have hA : DataW.TrodAll enc Try.prog W 0 (fun _ => true) true Try.f4.params.toList args.toList ds p := hA0
  rw [Try.params4] at hA hval
  obtain ⟨v0, vs0, d0, ds0, p0, q0, hargs, rfl, rfl, h0, r0⟩ := trodAll_cons hA
  obtain ⟨v1, vs1, d1, ds1, p1, q1, rfl, rfl, rfl, h1, r1⟩ := trodAll_cons r0
  obtain ⟨rfl, rfl, rfl⟩ := trodAll_nil r1
  obtain rfl : args = #[v0, v1] := by cases args; simp_all
  obtain ⟨rfl, rfl⟩ := trodVars_none hV
  obtain ⟨a, lena, capa, rfl⟩ := okWide_slice Try.underlying22 (hval 0 22 v0 rfl rfl)
  have k0 := h0
  have lt0 : ∀ x ∈ p0, x.block < W.heap.size := by obtain ⟨m, hm⟩ := k0; exact DataW.trod_lt m _ _ _ hm
  obtain ⟨za, w0⟩ : ∃ zs, IsRow .i64 W a lena capa zs := by
    obtain ⟨fuel, hf⟩ := h0
    rcases open_ints Try.underlying22 Try.underlying3 (by kernel_rfl) hf with ⟨hcs, _⟩ | ⟨x, l, c, zs, hcs, _, hl, hm, hz, _, hcell, hwz⟩
    · simp [Value.cells] at hcs
      obtain ⟨rfl, rfl, rfl⟩ := hcs
      exact ⟨[], .inl ⟨rfl, rfl, rfl, rfl⟩⟩
    · simp [Value.cells] at hcs
      obtain ⟨rfl, rfl, rfl⟩ := hcs
      exact ⟨zs, .inr ⟨_, rfl, hl, hm, by simpa using hz, hcell, hwz⟩⟩
  obtain ⟨b, lenb, capb, rfl⟩ := okWide_slice Try.underlying22 (hval 1 22 v1 rfl rfl)
  have k1 := h1
  have lt1 : ∀ x ∈ p1, x.block < W.heap.size := by obtain ⟨m, hm⟩ := k1; exact DataW.trod_lt m _ _ _ hm
  obtain ⟨zb, w1⟩ : ∃ zs, IsRow .i64 W b lenb capb zs := by
    obtain ⟨fuel, hf⟩ := h1
    rcases open_ints Try.underlying22 Try.underlying3 (by kernel_rfl) hf with ⟨hcs, _⟩ | ⟨x, l, c, zs, hcs, _, hl, hm, hz, _, hcell, hwz⟩
    · simp [Value.cells] at hcs
      obtain ⟨rfl, rfl, rfl⟩ := hcs
      exact ⟨[], .inl ⟨rfl, rfl, rfl, rfl⟩⟩
    · simp [Value.cells] at hcs
      obtain ⟨rfl, rfl, rfl⟩ := hcs
      exact ⟨zs, .inr ⟨_, rfl, hl, hm, by simpa using hz, hcell, hwz⟩⟩
  clear hA0 hval0
  refine (walk W a lena capa za w0 b lenb capb zb w1).mono fun e W' ⟨he, bel⟩ => ?_
  subst he
  exact ⟨_, rfl, _, _, _, [], _, [], hW', trodAll_mk1 (shut_bool Try.underlying4 _), (trodAll_cons_mk (Below.trod laidOut (by kernel_rfl) (of_decide_eq_true (by kernel_rfl)) k0 bel lt0) (trodAll_cons_mk (Below.trod laidOut (by kernel_rfl) (of_decide_eq_true (by kernel_rfl)) k1 bel lt1) trodAll_mk0)), rfl, bel.frame _, fun h => by cases h⟩
theorem over : Rows.vecNoneRow.holds Try.pinned (OpenSpec.ofChange Rows.vecNoneSpec) :=
  OpenClaim.holds_of_wide 4 Try.f4 rfl rfl rfl rfl rfl rfl rfl ⟨rfl, rfl, rfl, rfl, rfl⟩ rfl rfl rfl rfl rfl (by kernel_rfl) Try.func4 (by kernel_rfl)
    (of_decide_eq_true (by kernel_rfl)) (by unfold Func.isWrapper; first | (rw [if_pos (by decide +kernel)]; kernel_rfl) | (rw [if_neg (by decide +kernel)]; exact ⟨rfl, rfl⟩))
    (fun os started H enc _ => lifted os started H enc)
theorem proved : Rows.VecNoneSaid := over
#print axioms proved
end Go.Proofs.Ytfhiodclbabdkaa.vecNone
