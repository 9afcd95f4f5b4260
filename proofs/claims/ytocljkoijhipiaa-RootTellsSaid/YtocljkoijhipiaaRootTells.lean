/- Which whole root a wide number has, and which roots and hypotenuses fixed numbers have: the program's are the reference's, for any numbers. -/
import Derived.Test.YtocljkoijhipiaaKnown3
import Derived.Deep.DeepCutAuto
import Derived.WalkKit
import Derived.ProofKit
import Derived.OpenShut
import Derived.ShutString
import Derived.ChangeOld
import Derived.Below
import Derived.Lib.SmallJoins
namespace Go.Proofs.Ytocljkoijhipiaa.rootTells
open Go.ChangeShapes Go.WideShapes Go.ChangeAt Go.RowKit
open Go.ChangeMaps (open_string shut_string)
open Go.Joins
set_option linter.unusedVariables false
theorem own : ownKnob Try.prog.godebug = none := by kernel_rfl
theorem laidOut : laidOutB Try.prog = true := by kernel_rfl
theorem cellsWide : Try.prog.cellsOf 24 = 2 := by kernel_rfl
theorem wide_wf {h l : Int} (a : (Lit.int .i64 h).wf = true) (b : (Lit.int .u64 l).wf = true) : ∃ x, h = whi x ∧ l = wlo x ∧ -170141183460469231731687303715884105728 ≤ x ∧ x < 170141183460469231731687303715884105728 := by
  have a' := bounds_i64 a
  have b' := bounds_u64 b
  obtain ⟨x, h1, h2, h3, h4⟩ := wide_of h l a'.1 a'.2 b'.1 b'.2
  exact ⟨x, h1, h2, h3, h4⟩
set_option maxHeartbeats 2000000 in
theorem walk (n : Int) (w0 : -170141183460469231731687303715884105728 ≤ n ∧ n < 170141183460469231731687303715884105728) (a : Int) (w1 : (Lit.int .i64 a).wf = true) (b : Int) (w2 : (Lit.int .i64 b).wf = true) (w : World) : -- the walk
    Calls Try.prog 7 #[WV n, .int .i64 a, .int .i64 b] w fun e w' => e = .returned (.bool true) ∧ Below w.heap.size w w' := by
  have ha := bounds_i64 w1
  have hb := bounds_i64 w2
  have hn := w0
  clear w0 w1 w2
  go_enter Try.func7, Try.ntmps7
  go_wp2_with (first | (go_at_call 34; first | (with_reducible refine Calls_past2 (tWhole n _ hn.1 hn.2) (fun z => ?_)) | (with_reducible refine Calls_past (tWhole n _ hn.1 hn.2) (fun z => ?_))) | (go_at_call 35; first | (with_reducible refine Calls_past2 (rWhl n _ hn.1 hn.2) (fun z => ?_)) | (with_reducible refine Calls_past (rWhl n _ hn.1 hn.2) (fun z => ?_))) | (go_at_call 26; first | (with_reducible refine Calls_past2 (tSqrt a _ ha.1 ha.2) (fun z => ?_)) | (with_reducible refine Calls_past (tSqrt a _ ha.1 ha.2) (fun z => ?_))) | (go_at_call 36; first | (with_reducible refine Calls_past2 (rSqrt a _ ha.1 ha.2) (fun z => ?_)) | (with_reducible refine Calls_past (rSqrt a _ ha.1 ha.2) (fun z => ?_))) | (go_at_call 37; first | (with_reducible refine Calls_past2 (tHypot a b _ ha.1 ha.2 hb.1 hb.2) (fun z => ?_)) | (with_reducible refine Calls_past (tHypot a b _ ha.1 ha.2 hb.1 hb.2) (fun z => ?_))) | (go_at_call 38; first | (with_reducible refine Calls_past2 (rHypot a b _ ha.1 ha.2 hb.1 hb.2) (fun z => ?_)) | (with_reducible refine Calls_past (rHypot a b _ ha.1 ha.2 hb.1 hb.2) (fun z => ?_))) | (go_at_call 25; first | (with_reducible refine Calls_past2 (lAwake3 _) (fun z => ?_)) | (with_reducible refine Calls_past (lAwake3 _) (fun z => ?_))))
  go_ret
  refine ⟨rfl, ?_⟩
  (repeat (first | assumption | exact Below.refl _ _ | with_reducible refine past_t _ ?_ | with_reducible refine below_a _ ?_ | with_reducible refine Below.drew ?_ | with_reducible refine below_d _ ?_ | (with_reducible refine Below.setCell ?_ (by (show _ ≤ _; repeat (first | exact Nat.le_refl _ | with_reducible exact le_past (Nat.le_refl _) | with_reducible refine le_past ?_ | with_reducible refine le_al ?_ | with_reducible refine le_set ?_ | with_reducible refine le_p1 ?_))) _)))
set_option maxRecDepth 100000 in
theorem lifted (os : Os) (started : os.Started) (H : Type) (enc : TypeId × Value → H) :
    ReturnsInHanded {} Try.checked os 7 .any (Rows.rootTellsSpec.pre6 enc Try.prog Try.f7 Rows.rootTellsRow.domain false) (Rows.rootTellsSpec.post enc Try.prog Try.f7 false true false false) := by
  refine returnsInHanded_of_change (C := Try.checked) own started (by kernel_rfl) Try.func7
    (ChangeSpec.witness6 (enc := enc) (C := Try.checked) false ⟨#[], #[.agg #[.int .i64 0, .int .u64 0], .int .i64 0, .int .i64 0], []⟩ 8 (by kernel_rfl) (by kernel_rfl) (by kernel_rfl) (by kernel_rfl)) ?_
  intro W base args ds gs before hval0 hW hcnd _
  have hval : ∀ (j : Nat) t v, Try.f7.params[j]? = some t → args[j]? = some v → Value.okWide Try.prog W .any base t v := hval0
  have hW' := hW
  obtain ⟨p, q, hA0, hV, rfl, hfz, hnd⟩ := hW
  have hA : DataW.TrodAll enc Try.prog W 0 (fun _ => true) true Try.f7.params.toList args.toList ds p := hA0
  rw [Try.params7] at hA hval
  obtain ⟨v0, vs0, d0, ds0, p0, q0, hargs, rfl, rfl, h0, r0⟩ := trodAll_cons hA
  obtain ⟨v1, vs1, d1, ds1, p1, q1, rfl, rfl, rfl, h1, r1⟩ := trodAll_cons r0
  obtain ⟨v2, vs2, d2, ds2, p2, q2, rfl, rfl, rfl, h2, r2⟩ := trodAll_cons r1
  obtain ⟨rfl, rfl, rfl⟩ := trodAll_nil r2
  obtain rfl : args = #[v0, v1, v2] := by cases args; simp_all
  obtain ⟨rfl, rfl⟩ := trodVars_none hV
  have k0 := h0
  have lt0 : ∀ x ∈ p0, x.block < W.heap.size := by obtain ⟨m, hm⟩ := k0; exact DataW.trod_lt m _ _ _ hm
  obtain ⟨c0a, c0b, y0a, y0b, m0, rfl, rfl, rfl, hy0a, hy0b⟩ := open_agg2 Try.underlying24 (by kernel_rfl) cellsWide (hval 0 24 v0 rfl rfl) h0
  obtain ⟨nh, e0a, rfl, wf0a⟩ := DataW.trod_int Try.underlying3 hy0a
  obtain ⟨nl, e0b, rfl, wf0b⟩ := DataW.trod_int Try.underlying22 hy0b
  simp at e0a e0b
  subst e0a e0b
  obtain ⟨n, rfl, rfl, w0⟩ := wide_wf wf0a wf0b
  obtain ⟨a, rfl, rfl, rfl, w1⟩ := open_int Try.underlying3 (hval 1 3 v1 rfl rfl) h1
  obtain ⟨b, rfl, rfl, rfl, w2⟩ := open_int Try.underlying3 (hval 2 3 v2 rfl rfl) h2
  clear hA0 hval0
  refine (walk n w0 a w1 b w2 W).mono fun e W' ⟨he, bel⟩ => ?_
  subst he
  exact ⟨_, rfl, _, _, _, [], _, [], hW', trodAll_mk1 (shut_bool Try.underlying4 _), (trodAll_cons_mk (Below.trod laidOut (by kernel_rfl) (of_decide_eq_true (by kernel_rfl)) k0 bel lt0) (trodAll_cons_mk (shut_int Try.underlying3 w1) (trodAll_cons_mk (shut_int Try.underlying3 w2) trodAll_mk0))), rfl, bel.frame _, fun h => by cases h⟩
theorem over : Rows.rootTellsRow.holds Try.pinned (OpenSpec.ofChange Rows.rootTellsSpec) :=
  OpenClaim.holds_of_wide 7 Try.f7 rfl rfl rfl rfl rfl rfl rfl ⟨rfl, rfl, rfl, rfl, rfl⟩ rfl rfl rfl rfl rfl (by kernel_rfl) Try.func7 (by kernel_rfl)
    (of_decide_eq_true (by kernel_rfl)) (by unfold Func.isWrapper; first | (rw [if_pos (by decide +kernel)]; kernel_rfl) | (rw [if_neg (by decide +kernel)]; exact ⟨rfl, rfl⟩))
    (fun os started H enc _ => lifted os started H enc)
theorem proved : Rows.RootTellsSaid := over
#print axioms proved
end Go.Proofs.Ytocljkoijhipiaa.rootTells
