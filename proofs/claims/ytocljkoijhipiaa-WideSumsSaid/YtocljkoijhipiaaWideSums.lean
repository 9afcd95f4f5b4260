/- Sums, signs, products and comparisons of the program are those of the reference, for any numbers. -/
import Derived.Test.YtocljkoijhipiaaLaw1
import Derived.Test.YtocljkoijhipiaaRef2
import Derived.Deep.RegionHeld3
import Derived.WalkKit
import Derived.ProofKit
import Derived.OpenShut
import Derived.ShutString
import Derived.ChangeOld
import Derived.Below
import Derived.Lib.SmallJoins
namespace Go.Proofs.Ytocljkoijhipiaa.wideSums
open Go.ChangeShapes Go.WideShapes Go.ChangeAt Go.RowKit
open Go.ChangeMaps (open_string shut_string)
open Go.Joins
set_option linter.unusedVariables false
theorem own : ownKnob Try.prog.godebug = none := by kernel_rfl
theorem laidOut : laidOutB Try.prog = true := by kernel_rfl
theorem cellsWide : Try.prog.cellsOf 24 = 2 := by kernel_rfl
theorem wide_wf {h l : Int} (a : (Lit.int .i64 h).wf = true) (b : (Lit.int .u64 l).wf = true) : ∃ x, h = whi x ∧ l = wlo x ∧ -170141183460469231731687303715884105728 ≤ x ∧ x < 170141183460469231731687303715884105728 := by
  have a' := bounds_i64 a
  have b' := bounds_u64 b
  obtain ⟨x, h1, h2, h3, h4⟩ := wide_of h l a'.1 a'.2 b'.1 b'.2
  exact ⟨x, h1, h2, h3, h4⟩
set_option maxHeartbeats 2000000 in
theorem walk (a : Int) (w0 : -170141183460469231731687303715884105728 ≤ a ∧ a < 170141183460469231731687303715884105728) (b : Int) (w1 : -170141183460469231731687303715884105728 ≤ b ∧ b < 170141183460469231731687303715884105728) (m : Int) (w2 : (Lit.int .i64 m).wf = true) (n : Int) (w3 : (Lit.int .i64 n).wf = true) (w : World) : -- the walk
    Calls Try.prog 3 #[WV a, WV b, .int .i64 m, .int .i64 n] w fun e w' => e = .returned (.bool true) ∧ Below w.heap.size w w' := by
  have hm := bounds_i64 w2
  have hn := bounds_i64 w3
  go_enter Try.func3, Try.ntmps3
  go_wp2_with fail
  go_region_held3 (fun w' => Below w.heap.size w w' ∧ w.heap.size + 1 < w'.heap.size ∧ w'.cell? ⟨w.heap.size, 0, none⟩ = some (.int .i64 (whi a)) ∧ w'.cell? ⟨w.heap.size, 1, none⟩ = some (.int .u64 (wlo a)) ∧ w'.cell? ⟨w.heap.size + 1, 0, none⟩ = some (.int .i64 (whi b)) ∧ w'.cell? ⟨w.heap.size + 1, 1, none⟩ = some (.int .u64 (wlo b)))
    (first | exact ⟨(b2 _ _ _).drew, by simp, by simp [go_sem], by simp [go_sem], by simp [go_sem], by simp [go_sem]⟩ | (go_split_ands; refine ⟨?_, ?_, ?_, ?_, ?_, ?_⟩ <;> (first | exact Below.next (by assumption) hbz (by omega) | exact cell_keep (by assumption) hbz | exact Slot.keep (by assumption) hbz | exact Nat.lt_of_lt_of_le (by assumption) hbz.size)))
    (first | (go_at_call 14; refine (wOf n _ hn.1 hn.2).mono ?_; rintro e wz ⟨rfl, hbz⟩) | (go_at_call 15; refine (rOf n _ hn.1 hn.2).mono ?_; rintro e wz ⟨rfl, hbz⟩) | (go_at_call 16; refine (wAdd a b _).mono ?_; rintro e wz ⟨rfl, hbz⟩) | (go_at_call 17; refine (rAdd a b _).mono ?_; rintro e wz ⟨rfl, hbz⟩) | (go_at_call 18; refine (wNeg a _).mono ?_; rintro e wz ⟨rfl, hbz⟩) | (go_at_call 19; refine (rNeg a _).mono ?_; rintro e wz ⟨rfl, hbz⟩) | (go_at_call 20; refine (wMul m n _ hm.1 hm.2 hn.1 hn.2).mono ?_; rintro e wz ⟨rfl, hbz⟩) | (go_at_call 21; refine (rMul m n _ hm.1 hm.2 hn.1 hn.2).mono ?_; rintro e wz ⟨rfl, hbz⟩) | (go_at_call 22; refine (wCmp a b _ w0.1 w0.2 w1.1 w1.2).mono ?_; rintro e wz ⟨rfl, hbz⟩) | (go_at_call 23; refine (rCmp a b _ w0.1 w0.2 w1.1 w1.2).mono ?_; rintro e wz ⟨rfl, hbz⟩) | (go_at_call 24; refine (lAwake _).mono ?_; rintro e wz ⟨rfl, hbz⟩))
  have BS := (by assumption : Below w.heap.size w _ ∧ _).1
  go_wp2_with fail
  go_ret
  exact ⟨rfl, BS⟩
set_option maxRecDepth 100000 in
theorem lifted (os : Os) (started : os.Started) (H : Type) (enc : TypeId × Value → H) :
    ReturnsInHanded {} Try.checked os 3 .any (Rows.wideSumsSpec.pre6 enc Try.prog Try.f3 Rows.wideSumsRow.domain false) (Rows.wideSumsSpec.post enc Try.prog Try.f3 false true false false) := by
  refine returnsInHanded_of_change (C := Try.checked) own started (by kernel_rfl) Try.func3
    (ChangeSpec.witness6 (enc := enc) (C := Try.checked) false ⟨#[], #[.agg #[.int .i64 0, .int .u64 0], .agg #[.int .i64 0, .int .u64 0], .int .i64 0, .int .i64 0], []⟩ 8 (by kernel_rfl) (by kernel_rfl) (by kernel_rfl) (by kernel_rfl)) ?_
  intro W base args ds gs before hval0 hW hcnd _
  have hval : ∀ (j : Nat) t v, Try.f3.params[j]? = some t → args[j]? = some v → Value.okWide Try.prog W .any base t v := hval0
  have hW' := hW
  obtain ⟨p, q, hA0, hV, rfl, hfz, hnd⟩ := hW
  have hA : DataW.TrodAll enc Try.prog W 0 (fun _ => true) true Try.f3.params.toList args.toList ds p := hA0
  rw [Try.params3] at hA hval
  obtain ⟨v0, vs0, d0, ds0, p0, q0, hargs, rfl, rfl, h0, r0⟩ := trodAll_cons hA
  obtain ⟨v1, vs1, d1, ds1, p1, q1, rfl, rfl, rfl, h1, r1⟩ := trodAll_cons r0
  obtain ⟨v2, vs2, d2, ds2, p2, q2, rfl, rfl, rfl, h2, r2⟩ := trodAll_cons r1
  obtain ⟨v3, vs3, d3, ds3, p3, q3, rfl, rfl, rfl, h3, r3⟩ := trodAll_cons r2
  obtain ⟨rfl, rfl, rfl⟩ := trodAll_nil r3
  obtain rfl : args = #[v0, v1, v2, v3] := by cases args; simp_all
  obtain ⟨rfl, rfl⟩ := trodVars_none hV
  have k0 := h0
  have lt0 : ∀ x ∈ p0, x.block < W.heap.size := by obtain ⟨m, hm⟩ := k0; exact DataW.trod_lt m _ _ _ hm
  obtain ⟨c0a, c0b, y0a, y0b, m0, rfl, rfl, rfl, hy0a, hy0b⟩ := open_agg2 Try.underlying24 (by kernel_rfl) cellsWide (hval 0 24 v0 rfl rfl) h0
  obtain ⟨ah, e0a, rfl, wf0a⟩ := DataW.trod_int Try.underlying3 hy0a
  obtain ⟨al, e0b, rfl, wf0b⟩ := DataW.trod_int Try.underlying22 hy0b
  simp at e0a e0b
  subst e0a e0b
  obtain ⟨a, rfl, rfl, w0⟩ := wide_wf wf0a wf0b
  have k1 := h1
  have lt1 : ∀ x ∈ p1, x.block < W.heap.size := by obtain ⟨m, hm⟩ := k1; exact DataW.trod_lt m _ _ _ hm
  obtain ⟨c1a, c1b, y1a, y1b, m1, rfl, rfl, rfl, hy1a, hy1b⟩ := open_agg2 Try.underlying24 (by kernel_rfl) cellsWide (hval 1 24 v1 rfl rfl) h1
  obtain ⟨bh, e1a, rfl, wf1a⟩ := DataW.trod_int Try.underlying3 hy1a
  obtain ⟨bl, e1b, rfl, wf1b⟩ := DataW.trod_int Try.underlying22 hy1b
  simp at e1a e1b
  subst e1a e1b
  obtain ⟨b, rfl, rfl, w1⟩ := wide_wf wf1a wf1b
  obtain ⟨m, rfl, rfl, rfl, w2⟩ := open_int Try.underlying3 (hval 2 3 v2 rfl rfl) h2
  obtain ⟨n, rfl, rfl, rfl, w3⟩ := open_int Try.underlying3 (hval 3 3 v3 rfl rfl) h3
  clear hA0 hval0
  refine (walk a w0 b w1 m w2 n w3 W).mono fun e W' ⟨he, bel⟩ => ?_
  subst he
  exact ⟨_, rfl, _, _, _, [], _, [], hW', trodAll_mk1 (shut_bool Try.underlying4 _), (trodAll_cons_mk (Below.trod laidOut (by kernel_rfl) (of_decide_eq_true (by kernel_rfl)) k0 bel lt0) (trodAll_cons_mk (Below.trod laidOut (by kernel_rfl) (of_decide_eq_true (by kernel_rfl)) k1 bel lt1) (trodAll_cons_mk (shut_int Try.underlying3 w2) (trodAll_cons_mk (shut_int Try.underlying3 w3) trodAll_mk0)))), rfl, bel.frame _, fun h => by cases h⟩
theorem over : Rows.wideSumsRow.holds Try.pinned (OpenSpec.ofChange Rows.wideSumsSpec) :=
  OpenClaim.holds_of_wide 3 Try.f3 rfl rfl rfl rfl rfl rfl rfl ⟨rfl, rfl, rfl, rfl, rfl⟩ rfl rfl rfl rfl rfl (by kernel_rfl) Try.func3 (by kernel_rfl)
    (of_decide_eq_true (by kernel_rfl)) (by unfold Func.isWrapper; first | (rw [if_pos (by decide +kernel)]; kernel_rfl) | (rw [if_neg (by decide +kernel)]; exact ⟨rfl, rfl⟩))
    (fun os started H enc _ => lifted os started H enc)
theorem proved : Rows.WideSumsSaid := over
#print axioms proved
end Go.Proofs.Ytocljkoijhipiaa.wideSums
