/- Sums and products of the program are those of a ring, for any numbers. -/
import Derived.Test.YtocljkoijhipiaaKnown1
import Derived.Deep.RegionHeld3
import Derived.WalkKit
import Derived.ProofKit
import Derived.OpenShut
import Derived.ShutString
import Derived.ChangeOld
import Derived.Below
import Derived.Lib.SmallJoins
namespace Go.Proofs.Ytocljkoijhipiaa.wideRing
open Go.ChangeShapes Go.WideShapes Go.ChangeAt Go.RowKit
open Go.ChangeMaps (open_string shut_string)
open Go.Joins
set_option linter.unusedVariables false
theorem own : ownKnob Try.prog.godebug = none := by kernel_rfl
theorem laidOut : laidOutB Try.prog = true := by kernel_rfl
theorem cellsWide : Try.prog.cellsOf 24 = 2 := by kernel_rfl
theorem wide_wf {h l : Int} (a : (Lit.int .i64 h).wf = true) (b : (Lit.int .u64 l).wf = true) : ∃ x, h = whi x ∧ l = wlo x ∧ -170141183460469231731687303715884105728 ≤ x ∧ x < 170141183460469231731687303715884105728 := by
  have a' := bounds_i64 a
  have b' := bounds_u64 b
  obtain ⟨x, h1, h2, h3, h4⟩ := wide_of h l a'.1 a'.2 b'.1 b'.2
  exact ⟨x, h1, h2, h3, h4⟩
set_option maxHeartbeats 8000000 in
theorem walk (a : Int) (w0 : -170141183460469231731687303715884105728 ≤ a ∧ a < 170141183460469231731687303715884105728) (b : Int) (w1 : -170141183460469231731687303715884105728 ≤ b ∧ b < 170141183460469231731687303715884105728) (c : Int) (w2 : -170141183460469231731687303715884105728 ≤ c ∧ c < 170141183460469231731687303715884105728) (l : Int) (w3 : (Lit.int .i64 l).wf = true) (m : Int) (w4 : (Lit.int .i64 m).wf = true) (n : Int) (w5 : (Lit.int .i64 n).wf = true) (w : World) : -- the walk
    Calls Try.prog 12 #[WV a, WV b, WV c, .int .i64 l, .int .i64 m, .int .i64 n] w fun e w' => e = .returned (.bool true) ∧ Below w.heap.size w w' := by
  have hl := bounds_i64 w3
  have hm := bounds_i64 w4
  have hn := bounds_i64 w5
  obtain ⟨M, hM⟩ : ∃ M, m / 2 = M := ⟨_, rfl⟩
  obtain ⟨N, hN⟩ : ∃ N, n / 2 = N := ⟨_, rfl⟩
  have m0 : -4611686018427387904 ≤ M := by omega
  have m1 : M ≤ 4611686018427387903 := by omega
  have n0 : -4611686018427387904 ≤ N := by omega
  have n1 : N ≤ 4611686018427387903 := by omega
  have l0 := hl.1
  have l1 := hl.2
  have r1 : b + a = a + b := Int.add_comm _ _
  have r2 : a + (b + c) = a + b + c := (Int.add_assoc _ _ _).symm
  have r5 : a + -a = 0 := Int.add_right_neg _
  have r6 : a + 0 = a := Int.add_zero _
  have r7 : l * 1 = l := Int.mul_one _
  have r3 : M * l = l * M := Int.mul_comm _ _
  have r4 : l * (M + N) = l * M + l * N := Int.mul_add _ _ _
  have z0 := whi_0
  have z1 := wlo_0
  clear hl hm hn
  go_enter Try.func12, Try.ntmps12
  go_wp2_with fail
  refine (lKnown _).mono ?_
  rintro e wz ⟨rfl, hb⟩
  have B1 := Below.next (b3 _ _ _ _ _ (Nat.le_refl _)) hb (by simp; omega)
  have hs : w.heap.size + 1 + 1 < wz.heap.size := Nat.lt_of_lt_of_le (by simp) hb.size
  have a1 : wz.cell? ⟨w.heap.size, 0, none⟩ = some (.int .i64 (whi a)) := cell_keep (by simp [go_sem]) hb
  have a2 : wz.cell? ⟨w.heap.size, 1, none⟩ = some (.int .u64 (wlo a)) := cell_keep (by simp [go_sem]) hb
  have a3 : wz.cell? ⟨w.heap.size + 1, 0, none⟩ = some (.int .i64 (whi b)) := cell_keep (by simp [go_sem]) hb
  have a4 : wz.cell? ⟨w.heap.size + 1, 1, none⟩ = some (.int .u64 (wlo b)) := cell_keep (by simp [go_sem]) hb
  have a5 : wz.cell? ⟨w.heap.size + 1 + 1, 0, none⟩ = some (.int .i64 (whi c)) := cell_keep (by simp [go_sem]) hb
  have a6 : wz.cell? ⟨w.heap.size + 1 + 1, 1, none⟩ = some (.int .u64 (wlo c)) := cell_keep (by simp [go_sem]) hb
  clear hb
  go_wp2_with fail
  go_region_held3 (fun w' => Below w.heap.size w w' ∧ w.heap.size + 1 + 1 < w'.heap.size ∧ w'.cell? ⟨w.heap.size, 0, none⟩ = some (.int .i64 (whi a)) ∧ w'.cell? ⟨w.heap.size, 1, none⟩ = some (.int .u64 (wlo a)) ∧ w'.cell? ⟨w.heap.size + 1, 0, none⟩ = some (.int .i64 (whi b)) ∧ w'.cell? ⟨w.heap.size + 1, 1, none⟩ = some (.int .u64 (wlo b)) ∧ w'.cell? ⟨w.heap.size + 1 + 1, 0, none⟩ = some (.int .i64 (whi c)) ∧ w'.cell? ⟨w.heap.size + 1 + 1, 1, none⟩ = some (.int .u64 (wlo c)))
    (first | exact ⟨B1.drew, hs, a1, a2, a3, a4, a5, a6⟩ | (go_split_ands; refine ⟨?_, ?_, ?_, ?_, ?_, ?_, ?_, ?_⟩ <;> (first | exact Below.next (by assumption) hbz (by omega) | exact cell_keep (by assumption) hbz | exact Slot.keep (by assumption) hbz | exact Nat.lt_of_lt_of_le (by assumption) hbz.size)))
    (first | (go_at_call 16; (with_reducible refine (wAdd _ _ _).mono ?_); rintro e wz ⟨rfl, hbz⟩) | (go_at_call 16; (with_reducible refine (wAdd0 _ _).mono ?_); rintro e wz ⟨rfl, hbz⟩) | (go_at_call 18; (with_reducible refine (wNeg _ _).mono ?_); rintro e wz ⟨rfl, hbz⟩) | (go_at_call 14; (with_reducible refine (wOf 0 _ (by omega) (by omega)).mono ?_); rintro e wz ⟨rfl, hbz⟩))
  have BB := (by assumption : Below w.heap.size w _ ∧ _).1
  go_wp2_with (first | (go_at_call 20; (with_reducible refine (wMul _ _ _ (by omega) (by omega) (by omega) (by omega)).mono ?_); rintro e wz ⟨rfl, hbz⟩; replace BB := (by first | exact Below.next BB hbz BB.size | exact Below.next (BB.alloc BB.size _) hbz (by have := BB.size; simp; omega) : Below w.heap.size w wz); clear hbz) | (go_at_call 16; (with_reducible refine (wAdd _ _ _).mono ?_); rintro e wz ⟨rfl, hbz⟩; replace BB := (by first | exact Below.next BB hbz BB.size | exact Below.next (BB.alloc BB.size _) hbz (by have := BB.size; simp; omega) : Below w.heap.size w wz); clear hbz) | (go_at_call 14; (with_reducible refine (wOf l _ (by omega) (by omega)).mono ?_); rintro e wz ⟨rfl, hbz⟩; replace BB := (by first | exact Below.next BB hbz BB.size | exact Below.next (BB.alloc BB.size _) hbz (by have := BB.size; simp; omega) : Below w.heap.size w wz); clear hbz))
  go_ret
  exact ⟨rfl, BB⟩
set_option maxRecDepth 100000 in
theorem lifted (os : Os) (started : os.Started) (H : Type) (enc : TypeId × Value → H) :
    ReturnsInHanded {} Try.checked os 12 .any (Rows.wideRingSpec.pre6 enc Try.prog Try.f12 Rows.wideRingRow.domain false) (Rows.wideRingSpec.post enc Try.prog Try.f12 false true false false) := by
  refine returnsInHanded_of_change (C := Try.checked) own started (by kernel_rfl) Try.func12
    (ChangeSpec.witness6 (enc := enc) (C := Try.checked) false ⟨#[], #[.agg #[.int .i64 0, .int .u64 0], .agg #[.int .i64 0, .int .u64 0], .agg #[.int .i64 0, .int .u64 0], .int .i64 0, .int .i64 0, .int .i64 0], []⟩ 8 (by kernel_rfl) (by kernel_rfl) (by kernel_rfl) (by kernel_rfl)) ?_
  intro W base args ds gs before hval0 hW hcnd _
  have hval : ∀ (j : Nat) t v, Try.f12.params[j]? = some t → args[j]? = some v → Value.okWide Try.prog W .any base t v := hval0
  have hW' := hW
  obtain ⟨p, q, hA0, hV, rfl, hfz, hnd⟩ := hW
  have hA : DataW.TrodAll enc Try.prog W 0 (fun _ => true) true Try.f12.params.toList args.toList ds p := hA0
  rw [Try.params12] at hA hval
  obtain ⟨v0, vs0, d0, ds0, p0, q0, hargs, rfl, rfl, h0, r0⟩ := trodAll_cons hA
  obtain ⟨v1, vs1, d1, ds1, p1, q1, rfl, rfl, rfl, h1, r1⟩ := trodAll_cons r0
  obtain ⟨v2, vs2, d2, ds2, p2, q2, rfl, rfl, rfl, h2, r2⟩ := trodAll_cons r1
  obtain ⟨v3, vs3, d3, ds3, p3, q3, rfl, rfl, rfl, h3, r3⟩ := trodAll_cons r2
  obtain ⟨v4, vs4, d4, ds4, p4, q4, rfl, rfl, rfl, h4, r4⟩ := trodAll_cons r3
  obtain ⟨v5, vs5, d5, ds5, p5, q5, rfl, rfl, rfl, h5, r5⟩ := trodAll_cons r4
  obtain ⟨rfl, rfl, rfl⟩ := trodAll_nil r5
  obtain rfl : args = #[v0, v1, v2, v3, v4, v5] := by cases args; simp_all
  obtain ⟨rfl, rfl⟩ := trodVars_none hV
  have k0 := h0
  have lt0 : ∀ x ∈ p0, x.block < W.heap.size := by obtain ⟨m, hm⟩ := k0; exact DataW.trod_lt m _ _ _ hm
  obtain ⟨c0a, c0b, y0a, y0b, m0, rfl, rfl, rfl, hy0a, hy0b⟩ := open_agg2 Try.underlying24 (by kernel_rfl) cellsWide (hval 0 24 v0 rfl rfl) h0
  obtain ⟨ah, e0a, rfl, wf0a⟩ := DataW.trod_int Try.underlying3 hy0a
  obtain ⟨al, e0b, rfl, wf0b⟩ := DataW.trod_int Try.underlying22 hy0b
  simp at e0a e0b
  subst e0a e0b
  obtain ⟨a, rfl, rfl, w0⟩ := wide_wf wf0a wf0b
  have k1 := h1
  have lt1 : ∀ x ∈ p1, x.block < W.heap.size := by obtain ⟨m, hm⟩ := k1; exact DataW.trod_lt m _ _ _ hm
  obtain ⟨c1a, c1b, y1a, y1b, m1, rfl, rfl, rfl, hy1a, hy1b⟩ := open_agg2 Try.underlying24 (by kernel_rfl) cellsWide (hval 1 24 v1 rfl rfl) h1
  obtain ⟨bh, e1a, rfl, wf1a⟩ := DataW.trod_int Try.underlying3 hy1a
  obtain ⟨bl, e1b, rfl, wf1b⟩ := DataW.trod_int Try.underlying22 hy1b
  simp at e1a e1b
  subst e1a e1b
  obtain ⟨b, rfl, rfl, w1⟩ := wide_wf wf1a wf1b
  have k2 := h2
  have lt2 : ∀ x ∈ p2, x.block < W.heap.size := by obtain ⟨m, hm⟩ := k2; exact DataW.trod_lt m _ _ _ hm
  obtain ⟨c2a, c2b, y2a, y2b, m2, rfl, rfl, rfl, hy2a, hy2b⟩ := open_agg2 Try.underlying24 (by kernel_rfl) cellsWide (hval 2 24 v2 rfl rfl) h2
  obtain ⟨ch, e2a, rfl, wf2a⟩ := DataW.trod_int Try.underlying3 hy2a
  obtain ⟨cl, e2b, rfl, wf2b⟩ := DataW.trod_int Try.underlying22 hy2b
  simp at e2a e2b
  subst e2a e2b
  obtain ⟨c, rfl, rfl, w2⟩ := wide_wf wf2a wf2b
  obtain ⟨l, rfl, rfl, rfl, w3⟩ := open_int Try.underlying3 (hval 3 3 v3 rfl rfl) h3
  obtain ⟨m, rfl, rfl, rfl, w4⟩ := open_int Try.underlying3 (hval 4 3 v4 rfl rfl) h4
  obtain ⟨n, rfl, rfl, rfl, w5⟩ := open_int Try.underlying3 (hval 5 3 v5 rfl rfl) h5
  clear hA0 hval0
  refine (walk a w0 b w1 c w2 l w3 m w4 n w5 W).mono fun e W' ⟨he, bel⟩ => ?_
  subst he
  exact ⟨_, rfl, _, _, _, [], _, [], hW', trodAll_mk1 (shut_bool Try.underlying4 _), (trodAll_cons_mk (Below.trod laidOut (by kernel_rfl) (of_decide_eq_true (by kernel_rfl)) k0 bel lt0) (trodAll_cons_mk (Below.trod laidOut (by kernel_rfl) (of_decide_eq_true (by kernel_rfl)) k1 bel lt1) (trodAll_cons_mk (Below.trod laidOut (by kernel_rfl) (of_decide_eq_true (by kernel_rfl)) k2 bel lt2) (trodAll_cons_mk (shut_int Try.underlying3 w3) (trodAll_cons_mk (shut_int Try.underlying3 w4) (trodAll_cons_mk (shut_int Try.underlying3 w5) trodAll_mk0)))))), rfl, bel.frame _, fun h => by cases h⟩
theorem over : Rows.wideRingRow.holds Try.pinned (OpenSpec.ofChange Rows.wideRingSpec) :=
  OpenClaim.holds_of_wide 12 Try.f12 rfl rfl rfl rfl rfl rfl rfl ⟨rfl, rfl, rfl, rfl, rfl⟩ rfl rfl rfl rfl rfl (by kernel_rfl) Try.func12 (by kernel_rfl)
    (of_decide_eq_true (by kernel_rfl)) (by unfold Func.isWrapper; first | (rw [if_pos (by decide +kernel)]; kernel_rfl) | (rw [if_neg (by decide +kernel)]; exact ⟨rfl, rfl⟩))
    (fun os started H enc _ => lifted os started H enc)
theorem proved : Rows.WideRingSaid := over
#print axioms proved
end Go.Proofs.Ytocljkoijhipiaa.wideRing
