/- A product divided by one of its parts is the other one; what fits is what it was; of a number and its turned one all is turned. -/
import Derived.Test.YtocljkoijhipiaaAll1
import Derived.Test.YtocljkoijhipiaaLaw1
import Derived.Test.YtocljkoijhipiaaPick
import Derived.Deep.DeepCutAuto
import Derived.Deep.RegionHeld3
import Derived.WalkKit
import Derived.ProofKit
import Derived.OpenShut
import Derived.ShutString
import Derived.ChangeOld
import Derived.Below
import Derived.Lib.SmallJoins
namespace Go.Proofs.Ytocljkoijhipiaa.wideBack
open Go.ChangeShapes Go.WideShapes Go.ChangeAt Go.RowKit
open Go.ChangeMaps (open_string shut_string)
open Go.Joins
set_option linter.unusedVariables false
theorem own : ownKnob Try.prog.godebug = none := by kernel_rfl
theorem laidOut : laidOutB Try.prog = true := by kernel_rfl
theorem cellsWide : Try.prog.cellsOf 24 = 2 := by kernel_rfl
theorem wide_wf {h l : Int} (a : (Lit.int .i64 h).wf = true) (b : (Lit.int .u64 l).wf = true) : ∃ x, h = whi x ∧ l = wlo x ∧ -170141183460469231731687303715884105728 ≤ x ∧ x < 170141183460469231731687303715884105728 := by
  have a' := bounds_i64 a
  have b' := bounds_u64 b
  obtain ⟨x, h1, h2, h3, h4⟩ := wide_of h l a'.1 a'.2 b'.1 b'.2
  exact ⟨x, h1, h2, h3, h4⟩
set_option maxHeartbeats 8000000 in
theorem walk (m : Int) (w0 : (Lit.int .i64 m).wf = true) (n : Int) (w1 : (Lit.int .i64 n).wf = true) (bits : Int) (w2 : (Lit.int .i64 bits).wf = true) (a : Int) (w3 : -170141183460469231731687303715884105728 ≤ a ∧ a < 170141183460469231731687303715884105728) (w : World) : -- the walk
    Calls Try.prog 6 #[.int .i64 m, .int .i64 n, .int .i64 bits, WV a] w fun e w' => e = .returned (.bool true) ∧ Below w.heap.size w w' := by
  have hm := bounds_i64 w0
  have hn := bounds_i64 w1
  have hb := bounds_i64 w2
  have ha := w3
  clear w0 w1 w2 w3
  have bM := mul_rng m n hm.1 hm.2 hn.1 hn.2
  obtain ⟨X, hX⟩ : ∃ X, fitV m = X := ⟨_, rfl⟩
  obtain ⟨C, hC⟩ : ∃ C, fitC m = C := ⟨_, rfl⟩
  have hI0 : Inv w [(w.heap.size, a)] [] (w.alloc (Obj.cells #[.int .i64 (whi a), .int .u64 (wlo a)] 24)) := ⟨fun p hp => (by simp only [List.mem_cons, List.not_mem_nil, or_false] at hp; subst hp; exact WC.new w a), fun p hp => (by cases hp), Below.one _ _⟩
  go_enter Try.func6, Try.ntmps6
  go_wp2_with fail
  refine (lAwake _).mono ?_
  rintro e w1 ⟨rfl, hb1⟩
  have hI1 := hI0.keep hb1
  go_wp2_with fail
  refine (wOf m _ hm.1 hm.2).mono ?_
  rintro e w2 ⟨rfl, hb2⟩
  have hI2 := hI1.keep hb2
  go_wp2_with fail
  refine (wFit m _ (by omega) (by omega)).mono ?_
  rintro e w3 ⟨rfl, hb3⟩
  have hI3 := hI2.keep hb3
  clear hb1 hb2 hb3 hI1 hI2
  have g1 := (hI3.c (w.heap.size, a) (by simp)).hi
  have g2 := (hI3.c (w.heap.size, a) (by simp)).lo
  have g3 := (hI3.c (w.heap.size, a) (by simp)).lt
  rw [hX, hC]
  go_upto_if 26 with fail
  go_cut [] (fun wc => Inv w [(w.heap.size, a)] [] wc)
  case first =>
    by_cases hn0 : n = 0
    · go_wp2_with fail
      go_meet
      exact hI3
    · have hd : Hid (dvr (m * n) n = m) := dvr_mul m n hn0
      have hn1 := Lib.hid hn0
      go_wp2_with fail
      refine (wMul m n _ hm.1 hm.2 hn.1 hn.2).mono ?_
      rintro e w4 ⟨rfl, hb4⟩
      have hI4 := hI3.keep hb4
      go_wp2_with fail
      refine (wDiv (m * n) n _ (by omega) (by omega) hn.1 hn.2 hn0).mono ?_
      rintro e w5 ⟨rfl, hb5⟩
      have hI := (hI4.keep hb5).cons m
      rw [hd.out]
      clear g1 g2 g3 hI3 hI4 hb4 hb5 hI0
      go_wp2_with fail
      go_region_held3 (fun w' => Inv w [(w5.heap.size, m), (w.heap.size, a)] [] w' ∧ w'.cell? ⟨w5.heap.size, 0, none⟩ = some (.int .i64 (whi m)) ∧ w'.cell? ⟨w5.heap.size, 1, none⟩ = some (.int .u64 (wlo m)))
        (first | exact ⟨hI.drew, ((hI.drew).c (w5.heap.size, m) (by simp)).hi, ((hI.drew).c (w5.heap.size, m) (by simp)).lo⟩ | exact ⟨hI, ((hI).c (w5.heap.size, m) (by simp)).hi, ((hI).c (w5.heap.size, m) (by simp)).lo⟩)
        (first | (go_at_call 14; refine (wOf m _ hm.1 hm.2).mono ?_; rintro e w6 ⟨rfl, hbz⟩; (first | (have hI := hI.keep hbz) | (have hI := hI.drew.keep hbz) | (have hI := (hI.one _).keep hbz) | (have hI := (hI.one _).drew.keep hbz))))
      have hE := (by assumption : Inv w [(w5.heap.size, m), (w.heap.size, a)] [] _ ∧ _).1
      go_wp2_with fail
      go_meet
      exact hE.tail
  case rest =>
    have g1 := (hcut.c (w.heap.size, a) (by simp)).hi
    have g2 := (hcut.c (w.heap.size, a) (by simp)).lo
    have g3 := (hcut.c (w.heap.size, a) (by simp)).lt
    clear hI0 bM
    obtain ⟨hm1, hm2⟩ : (-9223372036854775807 ≤ m → X = m) ∧ (-9223372036854775807 ≤ m → C = false) := by
      rw [← hX, ← hC]; unfold fitV fitC; refine ⟨fun h => ?_, fun h => ?_⟩
      · rw [if_neg (by omega), if_neg (by omega)]
      · simp; omega
    clear hX hC
    have q0 := Int.emod_nonneg bits (show (128 : Int) ≠ 0 by omega)
    have q1 := Int.emod_lt_of_pos bits (show (0 : Int) < 128 by omega)
    have hw1 : -9223372036854775808 ≤ whi a ∧ (a = -170141183460469231731687303715884105728 → whi a = -9223372036854775808 ∧ wlo a = 0) := by unfold whi wlo; omega
    have hw2 := hw1.2
    have dpos : (0 : Int) < 2 ^ (bits % 128).toNat := Int.pow_pos (by omega)
    obtain ⟨R, hR⟩ : ∃ R, rnd a (2 ^ (bits % 128).toNat) = R := ⟨_, rfl⟩
    have hR2 : rnd (-a) (2 ^ (bits % 128).toNat) = -R := by rw [← hR]; exact rnd_neg a _ dpos
    by_cases hmm : -9223372036854775807 ≤ m
    · have hm3 := hm1 hmm
      have hm4 := hm2 hmm
      subst hm4 hm3
      clear hm1 hm2
      go_wp2_with fail
      all_goals (first | (go_ret; exact ⟨rfl, hcut.B⟩) | skip)
      all_goals
        have ha1 : -170141183460469231731687303715884105728 < a := by omega
        clear hw1 hw2
        first | (rename whi a = -9223372036854775808 => hz; rw [← hz]; clear hz) | skip
        refine (pPick bits 128 _ hb.1 hb.2 (by omega) (by omega)).mono ?_
        rintro e v4 ⟨rfl, rfl⟩
        go_wp2_with fail
        with_reducible refine (wRound a (bits % 128) _ ha.1 ha.2 q0 (by omega)).mono ?_
        rintro e v5 ⟨rfl, hb5⟩
        rw [hR]
        have hJ := hcut.keep hb5
        have g1 := (hJ.c (w.heap.size, a) (by simp)).hi
        have g2 := (hJ.c (w.heap.size, a) (by simp)).lo
        have g3 := (hJ.c (w.heap.size, a) (by simp)).lt
        have hK := hJ.cons R
        clear hJ hcut hb5
        go_wp2_with fail
        refine (wNeg a _).mono ?_
        rintro e v6 ⟨rfl, hb6⟩
        have hL := hK.keep hb6
        clear hK hb6 g1 g2 g3
        go_wp2_with fail
        with_reducible refine (wRound (-a) (bits % 128) _ (by omega) (by omega) q0 (by omega)).mono ?_
        rintro e v7 ⟨rfl, hb7⟩
        rw [hR2]
        have hI := (hL.keep hb7).cons (-R)
        clear hL hb7
        go_wp2_with fail
        go_region_held3 (fun w' => Inv w [(v7.heap.size, (-R)), (v5.heap.size, R), (w.heap.size, a)] [] w' ∧ w'.cell? ⟨v7.heap.size, 0, none⟩ = some (.int .i64 (whi (-R))) ∧ w'.cell? ⟨v7.heap.size, 1, none⟩ = some (.int .u64 (wlo (-R))) ∧ w'.cell? ⟨v5.heap.size, 0, none⟩ = some (.int .i64 (whi R)) ∧ w'.cell? ⟨v5.heap.size, 1, none⟩ = some (.int .u64 (wlo R)))
          (first | exact ⟨hI.drew, ((hI.drew).c (v7.heap.size, (-R)) (by simp)).hi, ((hI.drew).c (v7.heap.size, (-R)) (by simp)).lo, ((hI.drew).c (v5.heap.size, R) (by simp)).hi, ((hI.drew).c (v5.heap.size, R) (by simp)).lo⟩ | exact ⟨hI, ((hI).c (v7.heap.size, (-R)) (by simp)).hi, ((hI).c (v7.heap.size, (-R)) (by simp)).lo, ((hI).c (v5.heap.size, R) (by simp)).hi, ((hI).c (v5.heap.size, R) (by simp)).lo⟩)
          (first | (go_at_call 18; (with_reducible refine (wNeg R _).mono ?_); rintro e w6 ⟨rfl, hbz⟩; (first | (have hI := hI.keep hbz) | (have hI := hI.drew.keep hbz) | (have hI := (hI.one _).keep hbz) | (have hI := (hI.one _).drew.keep hbz))))
        have hE := (by assumption : Inv w [(v7.heap.size, (-R)), (v5.heap.size, R), (w.heap.size, a)] [] _ ∧ _).1
        go_wp2_with fail
        go_ret
        exact ⟨rfl, hE.B⟩
    · clear hm1 hm2
      go_wp2_with fail
      all_goals (first | (go_ret; exact ⟨rfl, hcut.B⟩) | skip)
      all_goals
        have ha1 : -170141183460469231731687303715884105728 < a := by omega
        clear hw1 hw2
        first | (rename whi a = -9223372036854775808 => hz; rw [← hz]; clear hz) | skip
        refine (pPick bits 128 _ hb.1 hb.2 (by omega) (by omega)).mono ?_
        rintro e v4 ⟨rfl, rfl⟩
        go_wp2_with fail
        with_reducible refine (wRound a (bits % 128) _ ha.1 ha.2 q0 (by omega)).mono ?_
        rintro e v5 ⟨rfl, hb5⟩
        rw [hR]
        have hJ := hcut.keep hb5
        have g1 := (hJ.c (w.heap.size, a) (by simp)).hi
        have g2 := (hJ.c (w.heap.size, a) (by simp)).lo
        have g3 := (hJ.c (w.heap.size, a) (by simp)).lt
        have hK := hJ.cons R
        clear hJ hcut hb5
        go_wp2_with fail
        refine (wNeg a _).mono ?_
        rintro e v6 ⟨rfl, hb6⟩
        have hL := hK.keep hb6
        clear hK hb6 g1 g2 g3
        go_wp2_with fail
        with_reducible refine (wRound (-a) (bits % 128) _ (by omega) (by omega) q0 (by omega)).mono ?_
        rintro e v7 ⟨rfl, hb7⟩
        rw [hR2]
        have hI := (hL.keep hb7).cons (-R)
        clear hL hb7
        go_wp2_with fail
        go_region_held3 (fun w' => Inv w [(v7.heap.size, (-R)), (v5.heap.size, R), (w.heap.size, a)] [] w' ∧ w'.cell? ⟨v7.heap.size, 0, none⟩ = some (.int .i64 (whi (-R))) ∧ w'.cell? ⟨v7.heap.size, 1, none⟩ = some (.int .u64 (wlo (-R))) ∧ w'.cell? ⟨v5.heap.size, 0, none⟩ = some (.int .i64 (whi R)) ∧ w'.cell? ⟨v5.heap.size, 1, none⟩ = some (.int .u64 (wlo R)))
          (first | exact ⟨hI.drew, ((hI.drew).c (v7.heap.size, (-R)) (by simp)).hi, ((hI.drew).c (v7.heap.size, (-R)) (by simp)).lo, ((hI.drew).c (v5.heap.size, R) (by simp)).hi, ((hI.drew).c (v5.heap.size, R) (by simp)).lo⟩ | exact ⟨hI, ((hI).c (v7.heap.size, (-R)) (by simp)).hi, ((hI).c (v7.heap.size, (-R)) (by simp)).lo, ((hI).c (v5.heap.size, R) (by simp)).hi, ((hI).c (v5.heap.size, R) (by simp)).lo⟩)
          (first | (go_at_call 18; (with_reducible refine (wNeg R _).mono ?_); rintro e w6 ⟨rfl, hbz⟩; (first | (have hI := hI.keep hbz) | (have hI := hI.drew.keep hbz) | (have hI := (hI.one _).keep hbz) | (have hI := (hI.one _).drew.keep hbz))))
        have hE := (by assumption : Inv w [(v7.heap.size, (-R)), (v5.heap.size, R), (w.heap.size, a)] [] _ ∧ _).1
        go_wp2_with fail
        go_ret
        exact ⟨rfl, hE.B⟩
set_option maxRecDepth 100000 in
theorem lifted (os : Os) (started : os.Started) (H : Type) (enc : TypeId × Value → H) :
    ReturnsInHanded {} Try.checked os 6 .any (Rows.wideBackSpec.pre6 enc Try.prog Try.f6 Rows.wideBackRow.domain false) (Rows.wideBackSpec.post enc Try.prog Try.f6 false true false false) := by
  refine returnsInHanded_of_change (C := Try.checked) own started (by kernel_rfl) Try.func6
    (ChangeSpec.witness6 (enc := enc) (C := Try.checked) false ⟨#[], #[.int .i64 0, .int .i64 0, .int .i64 0, .agg #[.int .i64 0, .int .u64 0]], []⟩ 8 (by kernel_rfl) (by kernel_rfl) (by kernel_rfl) (by kernel_rfl)) ?_
  intro W base args ds gs before hval0 hW hcnd _
  have hval : ∀ (j : Nat) t v, Try.f6.params[j]? = some t → args[j]? = some v → Value.okWide Try.prog W .any base t v := hval0
  have hW' := hW
  obtain ⟨p, q, hA0, hV, rfl, hfz, hnd⟩ := hW
  have hA : DataW.TrodAll enc Try.prog W 0 (fun _ => true) true Try.f6.params.toList args.toList ds p := hA0
  rw [Try.params6] at hA hval
  obtain ⟨v0, vs0, d0, ds0, p0, q0, hargs, rfl, rfl, h0, r0⟩ := trodAll_cons hA
  obtain ⟨v1, vs1, d1, ds1, p1, q1, rfl, rfl, rfl, h1, r1⟩ := trodAll_cons r0
  obtain ⟨v2, vs2, d2, ds2, p2, q2, rfl, rfl, rfl, h2, r2⟩ := trodAll_cons r1
  obtain ⟨v3, vs3, d3, ds3, p3, q3, rfl, rfl, rfl, h3, r3⟩ := trodAll_cons r2
  obtain ⟨rfl, rfl, rfl⟩ := trodAll_nil r3
  obtain rfl : args = #[v0, v1, v2, v3] := by cases args; simp_all
  obtain ⟨rfl, rfl⟩ := trodVars_none hV
  obtain ⟨m, rfl, rfl, rfl, w0⟩ := open_int Try.underlying3 (hval 0 3 v0 rfl rfl) h0
  obtain ⟨n, rfl, rfl, rfl, w1⟩ := open_int Try.underlying3 (hval 1 3 v1 rfl rfl) h1
  obtain ⟨bits, rfl, rfl, rfl, w2⟩ := open_int Try.underlying3 (hval 2 3 v2 rfl rfl) h2
  have k3 := h3
  have lt3 : ∀ x ∈ p3, x.block < W.heap.size := by obtain ⟨m, hm⟩ := k3; exact DataW.trod_lt m _ _ _ hm
  obtain ⟨c3a, c3b, y3a, y3b, m3, rfl, rfl, rfl, hy3a, hy3b⟩ := open_agg2 Try.underlying24 (by kernel_rfl) cellsWide (hval 3 24 v3 rfl rfl) h3
  obtain ⟨ah, e3a, rfl, wf3a⟩ := DataW.trod_int Try.underlying3 hy3a
  obtain ⟨al, e3b, rfl, wf3b⟩ := DataW.trod_int Try.underlying22 hy3b
  simp at e3a e3b
  subst e3a e3b
  obtain ⟨a, rfl, rfl, w3⟩ := wide_wf wf3a wf3b
  clear hA0 hval0
  refine (walk m w0 n w1 bits w2 a w3 W).mono fun e W' ⟨he, bel⟩ => ?_
  subst he
  exact ⟨_, rfl, _, _, _, [], _, [], hW', trodAll_mk1 (shut_bool Try.underlying4 _), (trodAll_cons_mk (shut_int Try.underlying3 w0) (trodAll_cons_mk (shut_int Try.underlying3 w1) (trodAll_cons_mk (shut_int Try.underlying3 w2) (trodAll_cons_mk (Below.trod laidOut (by kernel_rfl) (of_decide_eq_true (by kernel_rfl)) k3 bel lt3) trodAll_mk0)))), rfl, bel.frame _, fun h => by cases h⟩
theorem over : Rows.wideBackRow.holds Try.pinned (OpenSpec.ofChange Rows.wideBackSpec) :=
  OpenClaim.holds_of_wide 6 Try.f6 rfl rfl rfl rfl rfl rfl rfl ⟨rfl, rfl, rfl, rfl, rfl⟩ rfl rfl rfl rfl rfl (by kernel_rfl) Try.func6 (by kernel_rfl)
    (of_decide_eq_true (by kernel_rfl)) (by unfold Func.isWrapper; first | (rw [if_pos (by decide +kernel)]; kernel_rfl) | (rw [if_neg (by decide +kernel)]; exact ⟨rfl, rfl⟩))
    (fun os started H enc _ => lifted os started H enc)
theorem proved : Rows.WideBackSaid := over
#print axioms proved
end Go.Proofs.Ytocljkoijhipiaa.wideBack
