/- What wide numbers are rounded to, by powers of two and by numbers, and the nearest int, are the reference's. -/
import Derived.Test.YtocljkoijhipiaaAll1
import Derived.Test.YtocljkoijhipiaaLaw1
import Derived.WalkKit
import Derived.ProofKit
import Derived.OpenShut
import Derived.ShutString
import Derived.ChangeOld
import Derived.Below
import Derived.Lib.SmallJoins
namespace Go.Proofs.Ytocljkoijhipiaa.wideRounds
open Go.ChangeShapes Go.WideShapes Go.ChangeAt Go.RowKit
open Go.ChangeMaps (open_string shut_string)
open Go.Joins
set_option linter.unusedVariables false
theorem own : ownKnob Try.prog.godebug = none := by kernel_rfl
theorem laidOut : laidOutB Try.prog = true := by kernel_rfl
theorem cellsWide : Try.prog.cellsOf 24 = 2 := by kernel_rfl
theorem wide_wf {h l : Int} (a : (Lit.int .i64 h).wf = true) (b : (Lit.int .u64 l).wf = true) : ∃ x, h = whi x ∧ l = wlo x ∧ -170141183460469231731687303715884105728 ≤ x ∧ x < 170141183460469231731687303715884105728 := by
  have a' := bounds_i64 a
  have b' := bounds_u64 b
  obtain ⟨x, h1, h2, h3, h4⟩ := wide_of h l a'.1 a'.2 b'.1 b'.2
  exact ⟨x, h1, h2, h3, h4⟩
set_option maxHeartbeats 2000000 in
theorem walk (a : Int) (w0 : -170141183460469231731687303715884105728 ≤ a ∧ a < 170141183460469231731687303715884105728) (bits : Int) (w1 : (Lit.int .i64 bits).wf = true) (d : Int) (w2 : (Lit.int .i64 d).wf = true) (w : World) : -- the walk
    Calls Try.prog 5 #[WV a, .int .i64 bits, .int .i64 d] w fun e w' => e = .returned (.bool true) ∧ Below w.heap.size w w' := by
  have hb := bounds_i64 w1
  have hd := bounds_i64 w2
  clear w1 w2
  have hI0 : Inv w [(w.heap.size, a)] [] (w.alloc (Obj.cells #[.int .i64 (whi a), .int .u64 (wlo a)] 24)) := ⟨fun p hp => (by simp only [List.mem_cons, List.not_mem_nil, or_false] at hp; subst hp; exact WC.new w a), fun p hp => (by cases hp), Below.one _ _⟩
  go_enter Try.func5, Try.ntmps5
  go_wp2_with fail
  refine (wRoundA a bits _ w0).mono ?_
  rintro e w1 ⟨rfl, hb1⟩
  have hI1 := hI0.keep hb1
  have p1a0 := (hI1.c (w.heap.size, a) (by simp)).hi
  have p1b0 := (hI1.c (w.heap.size, a) (by simp)).lo
  have p1l0 := (hI1.c (w.heap.size, a) (by simp)).lt
  go_wp2_with fail
  refine (rRoundA a bits _ w0).mono ?_
  rintro e w2 ⟨rfl, hb2⟩
  have hI2 := (hI1.cons (roundV a bits)).keep hb2
  clear hb1
  clear p1a0 p1b0 p1l0
  have p2a0 := (hI2.c (w.heap.size, a) (by simp)).hi
  have p2b0 := (hI2.c (w.heap.size, a) (by simp)).lo
  have p2l0 := (hI2.c (w.heap.size, a) (by simp)).lt
  have p2a1 := (hI2.c (w1.heap.size, roundV a bits) (by simp)).hi
  have p2b1 := (hI2.c (w1.heap.size, roundV a bits) (by simp)).lo
  have p2l1 := (hI2.c (w1.heap.size, roundV a bits) (by simp)).lt
  go_wp2_with fail
  refine (wDivA a d _ w0 hd).mono ?_
  rintro e w3 ⟨rfl, hb3⟩
  have hI3 := (hI2.cons (roundV a bits)).keep hb3
  clear hb2
  clear p2a0 p2b0 p2l0 p2a1 p2b1 p2l1
  have p3a0 := (hI3.c (w.heap.size, a) (by simp)).hi
  have p3b0 := (hI3.c (w.heap.size, a) (by simp)).lo
  have p3l0 := (hI3.c (w.heap.size, a) (by simp)).lt
  have p3a1 := (hI3.c (w1.heap.size, roundV a bits) (by simp)).hi
  have p3b1 := (hI3.c (w1.heap.size, roundV a bits) (by simp)).lo
  have p3l1 := (hI3.c (w1.heap.size, roundV a bits) (by simp)).lt
  have p3a2 := (hI3.c (w2.heap.size, roundV a bits) (by simp)).hi
  have p3b2 := (hI3.c (w2.heap.size, roundV a bits) (by simp)).lo
  have p3l2 := (hI3.c (w2.heap.size, roundV a bits) (by simp)).lt
  go_wp2_with fail
  refine (rDivA a d _ w0 hd).mono ?_
  rintro e w4 ⟨rfl, hb4⟩
  have hI4 := (hI3.cons (divV a d)).keep hb4
  clear hb3
  clear p3a0 p3b0 p3l0 p3a1 p3b1 p3l1 p3a2 p3b2 p3l2
  have p4a0 := (hI4.c (w.heap.size, a) (by simp)).hi
  have p4b0 := (hI4.c (w.heap.size, a) (by simp)).lo
  have p4l0 := (hI4.c (w.heap.size, a) (by simp)).lt
  have p4a1 := (hI4.c (w1.heap.size, roundV a bits) (by simp)).hi
  have p4b1 := (hI4.c (w1.heap.size, roundV a bits) (by simp)).lo
  have p4l1 := (hI4.c (w1.heap.size, roundV a bits) (by simp)).lt
  have p4a2 := (hI4.c (w2.heap.size, roundV a bits) (by simp)).hi
  have p4b2 := (hI4.c (w2.heap.size, roundV a bits) (by simp)).lo
  have p4l2 := (hI4.c (w2.heap.size, roundV a bits) (by simp)).lt
  have p4a3 := (hI4.c (w3.heap.size, divV a d) (by simp)).hi
  have p4b3 := (hI4.c (w3.heap.size, divV a d) (by simp)).lo
  have p4l3 := (hI4.c (w3.heap.size, divV a d) (by simp)).lt
  go_wp2_with fail
  refine (wFit a _ w0.1 w0.2).mono ?_
  rintro e w5 ⟨rfl, hb5⟩
  have hI5 := (hI4.cons (divV a d)).keep hb5
  clear hb4
  clear p4a0 p4b0 p4l0 p4a1 p4b1 p4l1 p4a2 p4b2 p4l2 p4a3 p4b3 p4l3
  have p5a0 := (hI5.c (w.heap.size, a) (by simp)).hi
  have p5b0 := (hI5.c (w.heap.size, a) (by simp)).lo
  have p5l0 := (hI5.c (w.heap.size, a) (by simp)).lt
  have p5a1 := (hI5.c (w1.heap.size, roundV a bits) (by simp)).hi
  have p5b1 := (hI5.c (w1.heap.size, roundV a bits) (by simp)).lo
  have p5l1 := (hI5.c (w1.heap.size, roundV a bits) (by simp)).lt
  have p5a2 := (hI5.c (w2.heap.size, roundV a bits) (by simp)).hi
  have p5b2 := (hI5.c (w2.heap.size, roundV a bits) (by simp)).lo
  have p5l2 := (hI5.c (w2.heap.size, roundV a bits) (by simp)).lt
  have p5a3 := (hI5.c (w3.heap.size, divV a d) (by simp)).hi
  have p5b3 := (hI5.c (w3.heap.size, divV a d) (by simp)).lo
  have p5l3 := (hI5.c (w3.heap.size, divV a d) (by simp)).lt
  have p5a4 := (hI5.c (w4.heap.size, divV a d) (by simp)).hi
  have p5b4 := (hI5.c (w4.heap.size, divV a d) (by simp)).lo
  have p5l4 := (hI5.c (w4.heap.size, divV a d) (by simp)).lt
  go_wp2_with fail
  refine (rFit a _ w0.1 w0.2).mono ?_
  rintro e w6 ⟨rfl, hb6⟩
  have hI6 := hI5.keep hb6
  clear hb5
  clear p5a0 p5b0 p5l0 p5a1 p5b1 p5l1 p5a2 p5b2 p5l2 p5a3 p5b3 p5l3 p5a4 p5b4 p5l4
  have p6a0 := (hI6.c (w.heap.size, a) (by simp)).hi
  have p6b0 := (hI6.c (w.heap.size, a) (by simp)).lo
  have p6l0 := (hI6.c (w.heap.size, a) (by simp)).lt
  have p6a1 := (hI6.c (w1.heap.size, roundV a bits) (by simp)).hi
  have p6b1 := (hI6.c (w1.heap.size, roundV a bits) (by simp)).lo
  have p6l1 := (hI6.c (w1.heap.size, roundV a bits) (by simp)).lt
  have p6a2 := (hI6.c (w2.heap.size, roundV a bits) (by simp)).hi
  have p6b2 := (hI6.c (w2.heap.size, roundV a bits) (by simp)).lo
  have p6l2 := (hI6.c (w2.heap.size, roundV a bits) (by simp)).lt
  have p6a3 := (hI6.c (w3.heap.size, divV a d) (by simp)).hi
  have p6b3 := (hI6.c (w3.heap.size, divV a d) (by simp)).lo
  have p6l3 := (hI6.c (w3.heap.size, divV a d) (by simp)).lt
  have p6a4 := (hI6.c (w4.heap.size, divV a d) (by simp)).hi
  have p6b4 := (hI6.c (w4.heap.size, divV a d) (by simp)).lo
  have p6l4 := (hI6.c (w4.heap.size, divV a d) (by simp)).lt
  go_wp2_with fail
  refine (lAwake _).mono ?_
  rintro e w7 ⟨rfl, hb7⟩
  have hI7 := hI6.keep hb7
  clear hb6
  clear p6a0 p6b0 p6l0 p6a1 p6b1 p6l1 p6a2 p6b2 p6l2 p6a3 p6b3 p6l3 p6a4 p6b4 p6l4
  go_wp2_with fail
  go_ret
  exact ⟨rfl, hI7.B⟩
set_option maxRecDepth 100000 in
theorem lifted (os : Os) (started : os.Started) (H : Type) (enc : TypeId × Value → H) :
    ReturnsInHanded {} Try.checked os 5 .any (Rows.wideRoundsSpec.pre6 enc Try.prog Try.f5 Rows.wideRoundsRow.domain false) (Rows.wideRoundsSpec.post enc Try.prog Try.f5 false true false false) := by
  refine returnsInHanded_of_change (C := Try.checked) own started (by kernel_rfl) Try.func5
    (ChangeSpec.witness6 (enc := enc) (C := Try.checked) false ⟨#[], #[.agg #[.int .i64 0, .int .u64 0], .int .i64 0, .int .i64 0], []⟩ 8 (by kernel_rfl) (by kernel_rfl) (by kernel_rfl) (by kernel_rfl)) ?_
  intro W base args ds gs before hval0 hW hcnd _
  have hval : ∀ (j : Nat) t v, Try.f5.params[j]? = some t → args[j]? = some v → Value.okWide Try.prog W .any base t v := hval0
  have hW' := hW
  obtain ⟨p, q, hA0, hV, rfl, hfz, hnd⟩ := hW
  have hA : DataW.TrodAll enc Try.prog W 0 (fun _ => true) true Try.f5.params.toList args.toList ds p := hA0
  rw [Try.params5] at hA hval
  obtain ⟨v0, vs0, d0, ds0, p0, q0, hargs, rfl, rfl, h0, r0⟩ := trodAll_cons hA
  obtain ⟨v1, vs1, d1, ds1, p1, q1, rfl, rfl, rfl, h1, r1⟩ := trodAll_cons r0
  obtain ⟨v2, vs2, d2, ds2, p2, q2, rfl, rfl, rfl, h2, r2⟩ := trodAll_cons r1
  obtain ⟨rfl, rfl, rfl⟩ := trodAll_nil r2
  obtain rfl : args = #[v0, v1, v2] := by cases args; simp_all
  obtain ⟨rfl, rfl⟩ := trodVars_none hV
  have k0 := h0
  have lt0 : ∀ x ∈ p0, x.block < W.heap.size := by obtain ⟨m, hm⟩ := k0; exact DataW.trod_lt m _ _ _ hm
  obtain ⟨c0a, c0b, y0a, y0b, m0, rfl, rfl, rfl, hy0a, hy0b⟩ := open_agg2 Try.underlying24 (by kernel_rfl) cellsWide (hval 0 24 v0 rfl rfl) h0
  obtain ⟨ah, e0a, rfl, wf0a⟩ := DataW.trod_int Try.underlying3 hy0a
  obtain ⟨al, e0b, rfl, wf0b⟩ := DataW.trod_int Try.underlying22 hy0b
  simp at e0a e0b
  subst e0a e0b
  obtain ⟨a, rfl, rfl, w0⟩ := wide_wf wf0a wf0b
  obtain ⟨bits, rfl, rfl, rfl, w1⟩ := open_int Try.underlying3 (hval 1 3 v1 rfl rfl) h1
  obtain ⟨d, rfl, rfl, rfl, w2⟩ := open_int Try.underlying3 (hval 2 3 v2 rfl rfl) h2
  clear hA0 hval0
  refine (walk a w0 bits w1 d w2 W).mono fun e W' ⟨he, bel⟩ => ?_
  subst he
  exact ⟨_, rfl, _, _, _, [], _, [], hW', trodAll_mk1 (shut_bool Try.underlying4 _), (trodAll_cons_mk (Below.trod laidOut (by kernel_rfl) (of_decide_eq_true (by kernel_rfl)) k0 bel lt0) (trodAll_cons_mk (shut_int Try.underlying3 w1) (trodAll_cons_mk (shut_int Try.underlying3 w2) trodAll_mk0))), rfl, bel.frame _, fun h => by cases h⟩
theorem over : Rows.wideRoundsRow.holds Try.pinned (OpenSpec.ofChange Rows.wideRoundsSpec) :=
  OpenClaim.holds_of_wide 5 Try.f5 rfl rfl rfl rfl rfl rfl rfl ⟨rfl, rfl, rfl, rfl, rfl⟩ rfl rfl rfl rfl rfl (by kernel_rfl) Try.func5 (by kernel_rfl)
    (of_decide_eq_true (by kernel_rfl)) (by unfold Func.isWrapper; first | (rw [if_pos (by decide +kernel)]; kernel_rfl) | (rw [if_neg (by decide +kernel)]; exact ⟨rfl, rfl⟩))
    (fun os started H enc _ => lifted os started H enc)
theorem proved : Rows.WideRoundsSaid := over
#print axioms proved
end Go.Proofs.Ytocljkoijhipiaa.wideRounds
