/- Nothing is farther from 0 than the farthest, which is not below 0; some number is just so far, or there is none. -/
import Derived.Test.YtfhiodclbabdkaaVec7
import Derived.Test.YtfhiodclbabdkaaRows1
import Derived.Deep.DeepCutAuto
import Derived.Deep.LoopGhost
import Derived.WalkKit
import Derived.ProofKit
import Derived.OpenShut
import Derived.ShutString
import Derived.ChangeOld
import Derived.Below
import Derived.Lib.SmallJoins
namespace Go.Proofs.Ytfhiodclbabdkaa.vecMost
open Go.ChangeShapes Go.WideShapes Go.ChangeAt Go.RowKit
open Go.ChangeMaps (open_string shut_string)
open Go.Joins
set_option linter.unusedVariables false
theorem own : ownKnob Try.prog.godebug = none := by kernel_rfl
theorem laidOut : laidOutB Try.prog = true := by kernel_rfl
def IsRow (k : IntKind) (w : World) (a : Option Addr) (len cap : Nat) (zs : List Int) : Prop :=
  (a = none ∧ len = 0 ∧ cap = 0 ∧ zs = []) ∨
  ∃ x, a = some x ∧ len ≤ cap ∧ cap ≤ maxLen ∧ zs.length = cap ∧ (∀ i, i < zs.length → w.cell? (x.add i) = some (.int k (zs.getD i 0))) ∧ ∀ n ∈ zs, (Lit.int k n).wf = true
set_option maxHeartbeats 8000000 in
set_option maxRecDepth 100000 in
theorem walk (w : World) (a : Option Addr) (lena capa : Nat) (za : List Int) (w0 : IsRow .i64 w a lena capa za) : -- the walk
    Calls Try.prog 6 #[.slice a lena capa] w fun e w' => e = .returned (.bool true) ∧ Below w.heap.size w w' := by
  have haw := lAwake6
  unfold SaysYes at haw
  obtain ⟨L, rfl, hcap, hLi, hrl⟩ := RL_of w0
  clear w0 hcap
  by_cases hbig : 150 < L.length
  · have d1 : decide ((150 : Int) < (L.length : Int)) = true := by simp; omega
    go_enter Try.func6, Try.ntmps6
    go_wp2_with (first | (go_at_call 15; first | (with_reducible refine Calls_past2 (haw _) (fun z => ?_)) | (with_reducible refine Calls_past (haw _) (fun z => ?_))) | (go_at_call 16; refine (uNew _).mono ?_; rintro e w1 ⟨rfl, rfl⟩))
    go_ret
    exact ⟨rfl, by (repeat (first | assumption | exact Below.refl _ _ | with_reducible refine past_t _ ?_ | with_reducible refine below_a _ ?_ | with_reducible refine Below.drew ?_ | with_reducible refine below_d _ ?_ | (with_reducible refine Below.setCell ?_ (by (show _ ≤ _; repeat (first | exact Nat.le_refl _ | assumption | (omega; done) | with_reducible exact le_past (Nat.le_refl _) | with_reducible refine le_past ?_ | with_reducible refine le_al ?_ | with_reducible refine le_set ?_ | with_reducible refine le_p1 ?_))) _)))⟩
  have d1 : decide ((150 : Int) < (L.length : Int)) = false := by simp; omega
  go_enter Try.func6, Try.ntmps6
  go_upto_region 7 with (first | (go_at_call 15; first | (with_reducible refine Calls_past2 (haw _) (fun z => ?_)) | (with_reducible refine Calls_past (haw _) (fun z => ?_))) | (go_at_call 16; refine (uNew _).mono ?_; rintro e w1 ⟨rfl, rfl⟩))
  refine wp_gen (fun W0 hW0 => ?_)
  have hU0 : UA (w.heap.size + gap w z) false 0 W0 := by rw [hW0]; exact ⟨by (first | (simp [go_sem]; done) | (simp [go_sem, ↓IntWalk.iteOmega]; done)), by (first | (simp [go_sem]; done) | (simp [go_sem, ↓IntWalk.iteOmega]; done)), by (first | (simp [go_sem]; done) | (simp [go_sem, ↓IntWalk.iteOmega]; done)), by (first | (simp [go_sem]; done) | (simp [go_sem, ↓IntWalk.iteOmega]; done)), by (first | (simp [go_sem]; done) | (simp [go_sem, ↓IntWalk.iteOmega]; done))⟩
  have hB0 : Below w.heap.size w W0 := by rw [hW0]; (repeat (first | assumption | exact Below.refl _ _ | with_reducible refine past_t _ ?_ | with_reducible refine below_a _ ?_ | with_reducible refine Below.drew ?_ | with_reducible refine below_d _ ?_ | (with_reducible refine Below.setCell ?_ (by (show _ ≤ _; repeat (first | exact Nat.le_refl _ | assumption | (omega; done) | with_reducible exact le_past (Nat.le_refl _) | with_reducible refine le_past ?_ | with_reducible refine le_al ?_ | with_reducible refine le_set ?_ | with_reducible refine le_p1 ?_))) _)))
  obtain ⟨U, hU⟩ : ∃ U, w.heap.size + gap w z = U := ⟨_, rfl⟩
  rw [hU] at hU0 ⊢
  have hUw : w.heap.size ≤ U := by omega
  clear hW0 hU
  have hm := vMost hU0 _ L hLi (hrl.sl hB0 hUw (by omega) capa) ⟨by omega, by omega⟩
  have law := mostR_law false 0 hLi L.length (Nat.le_refl _)
  have hin := mostR_in false 0 hLi L.length (Nat.le_refl _)
  obtain ⟨P, hP⟩ : ∃ P, mostR false 0 L L.length = P := ⟨_, rfl⟩
  rw [hP] at hm law hin
  obtain ⟨m, f, cc⟩ := P
  simp only at hm law hin
  clear hP
  go_upto_region 8 with (go_at_call 25; with_reducible refine Calls.mono hm ?_; rintro _ w2 ⟨rfl, hb2⟩)
  have hU2 := (hU0.put f cc).keep hb2
  have hB2 := below_unit hB0 hUw hb2
  have hr2 := hrl.keep hB2
  obtain ⟨l0, l1, l2⟩ := law
  have hcu := fun (z : World) => uCut (hU2.keep (past_below w2 z))
  have L1 := Lib.hid l1
  have L2 := Lib.hid l2
  have HR := Lib.hid hr2
  have HB := Lib.hid hB2
  clear hU0 hb2 hm hr2 hrl hB0 l1 l2 hB2 hU2
  go_wp2_with fail
  go_loopg [7, 8] L.length (fun g s7 s8 wr => ∃ k : Nat, k ≤ L.length ∧ L.length ≤ g + k ∧ s8 = .int .i64 k ∧ s7 = .bool (isR m L k) ∧ (∀ j, j < k → -9223372036854775807 ≤ L.getD j 0) ∧ ∃ z, wr = past w2 z)
  case atStart => exact ⟨0, by omega, by omega, rfl, by rfl, fun j hj => absurd hj (by omega), _, past_of (Below.refl _ _)⟩
  case round =>
    obtain ⟨k, hk, hg, rfl, rfl, hall, z, rfl⟩ := hrel
    by_cases hlt : k < L.length
    · obtain ⟨b, o, rfl, hbw, hrow⟩ := HR.out (by omega)
      have hx := hLi.get hlt
      have hcell := hrow k hlt
      have hnx : isR m L (k + 1) = (isR m L k || (L.getD k 0 == m || -(L.getD k 0) == m)) := rfl
      have hle := L1.out k hlt
      obtain ⟨x, hxx⟩ : ∃ x, L.getD k 0 = x := ⟨_, rfl⟩
      obtain ⟨s, hs⟩ : ∃ s, isR m L k = s := ⟨_, rfl⟩
      rw [hxx] at hx hcell hnx hle
      rw [hs] at hnx ⊢
      have HA := Lib.hid hall
      have HX := Lib.hid hxx
      have HRW := Lib.hid hrow
      clear hall hrow hxx hs
      by_cases hlow : x < -9223372036854775807
      · have d2 : decide (x < -9223372036854775807) = true := by simpa using hlow
        clear hnx hle
        go_wp2_with fail
        go_ret
        exact ⟨rfl, HB.out.trans ((past_below _ _).mono HB.out.size)⟩
      · have d2 : decide (x < -9223372036854775807) = false := by simpa using hlow
        obtain ⟨g1, g2⟩ := hle (by omega)
        have d3 : decide (m < x) = false := by simp; omega
        have d4 : decide (m < -x) = false := by simp; omega
        obtain ⟨p1, hp1⟩ : ∃ p : Bool, (x == m) = p := ⟨_, rfl⟩
        obtain ⟨p2, hp2⟩ : ∃ p : Bool, (-x == m) = p := ⟨_, rfl⟩
        rw [hp1, hp2] at hnx
        have HN := Lib.hid hnx
        clear hnx hle
        cases s <;> cases p1 <;> cases p2
        all_goals
          go_wp2_with fail
          go_roundg (L.length - (k + 1))
          case measure => omega
          case rel =>
            refine ⟨k + 1, by omega, by omega, by go_num, by rw [HN.out]; rfl, fun j hj => ?_, _, rfl⟩
            by_cases hj2 : j = k
            · subst hj2; rw [HX.out]; omega
            · exact HA.out j (by omega)
    · obtain rfl : k = L.length := by omega
      obtain ⟨rfl, h2⟩ := L2.out hall
      have hy := isR_yes m L L.length h2
      rw [hy]
      have e1 : decide (0 ≤ m) = true := by simpa using l0
      clear h2 hy hall
      go_wp2_with (first | (go_at_call 21; first | (with_reducible refine Calls_past2 (hcu _) (fun z => ?_)) | (with_reducible refine Calls_past (hcu _) (fun z => ?_))))
      go_ret
      exact ⟨rfl, HB.out.trans ((past_below _ _).mono HB.out.size)⟩
set_option maxRecDepth 100000 in
theorem lifted (os : Os) (started : os.Started) (H : Type) (enc : TypeId × Value → H) :
    ReturnsInHanded {} Try.checked os 6 .any (Rows.vecMostSpec.pre6 enc Try.prog Try.f6 Rows.vecMostRow.domain false) (Rows.vecMostSpec.post enc Try.prog Try.f6 false true false false) := by
  refine returnsInHanded_of_change (C := Try.checked) own started (by kernel_rfl) Try.func6
    (ChangeSpec.witness6 (enc := enc) (C := Try.checked) false ⟨#[], #[.slice none 0 0], []⟩ 8 (by kernel_rfl) (by kernel_rfl) (by kernel_rfl) (by kernel_rfl)) ?_
  intro W base args ds gs before hval0 hW hcnd _
  have hval : ∀ (j : Nat) t v, Try.f6.params[j]? = some t → args[j]? = some v → Value.okWide Try.prog W .any base t v := hval0
  have hW' := hW
  obtain ⟨p, q, hA0, hV, rfl, hfz, hnd⟩ := hW
  have hA : DataW.TrodAll enc Try.prog W 0 (fun _ => true) true Try.f6.params.toList args.toList ds p := hA0
  rw [Try.params6] at hA hval
  obtain ⟨v0, vs0, d0, ds0, p0, q0, hargs, rfl, rfl, h0, r0⟩ := trodAll_cons hA
  obtain ⟨rfl, rfl, rfl⟩ := trodAll_nil r0
  obtain rfl : args = #[v0] := by cases args; simp_all
  obtain ⟨rfl, rfl⟩ := trodVars_none hV
  obtain ⟨a, lena, capa, rfl⟩ := okWide_slice Try.underlying22 (hval 0 22 v0 rfl rfl)
  have k0 := h0
  have lt0 : ∀ x ∈ p0, x.block < W.heap.size := by obtain ⟨m, hm⟩ := k0; exact DataW.trod_lt m _ _ _ hm
  obtain ⟨za, w0⟩ : ∃ zs, IsRow .i64 W a lena capa zs := by
    obtain ⟨fuel, hf⟩ := h0
    rcases open_ints Try.underlying22 Try.underlying3 (by kernel_rfl) hf with ⟨hcs, _⟩ | ⟨x, l, c, zs, hcs, _, hl, hm, hz, _, hcell, hwz⟩
    · simp [Value.cells] at hcs
      obtain ⟨rfl, rfl, rfl⟩ := hcs
      exact ⟨[], .inl ⟨rfl, rfl, rfl, rfl⟩⟩
    · simp [Value.cells] at hcs
      obtain ⟨rfl, rfl, rfl⟩ := hcs
      exact ⟨zs, .inr ⟨_, rfl, hl, hm, by simpa using hz, hcell, hwz⟩⟩
  clear hA0 hval0
  refine (walk W a lena capa za w0).mono fun e W' ⟨he, bel⟩ => ?_
  subst he
  exact ⟨_, rfl, _, _, _, [], _, [], hW', trodAll_mk1 (shut_bool Try.underlying4 _), (trodAll_cons_mk (Below.trod laidOut (by kernel_rfl) (of_decide_eq_true (by kernel_rfl)) k0 bel lt0) trodAll_mk0), rfl, bel.frame _, fun h => by cases h⟩
theorem over : Rows.vecMostRow.holds Try.pinned (OpenSpec.ofChange Rows.vecMostSpec) :=
  OpenClaim.holds_of_wide 6 Try.f6 rfl rfl rfl rfl rfl rfl rfl ⟨rfl, rfl, rfl, rfl, rfl⟩ rfl rfl rfl rfl rfl (by kernel_rfl) Try.func6 (by kernel_rfl)
    (of_decide_eq_true (by kernel_rfl)) (by unfold Func.isWrapper; first | (rw [if_pos (by decide +kernel)]; kernel_rfl) | (rw [if_neg (by decide +kernel)]; exact ⟨rfl, rfl⟩))
    (fun os started H enc _ => lifted os started H enc)
theorem proved : Rows.VecMostSaid := over
#print axioms proved
end Go.Proofs.Ytfhiodclbabdkaa.vecMost
