/- A product, rounded by 32 bits, is half a step away at most; comparing is an order. -/
import Derived.Test.YtocljkoijhipiaaAll1
import Derived.Test.YtocljkoijhipiaaLaw1
import Derived.Test.YtocljkoijhipiaaMath2
import Derived.Deep.DeepCutAuto
import Derived.Deep.RegionHeld3
import Derived.WalkKit
import Derived.ProofKit
import Derived.OpenShut
import Derived.ShutString
import Derived.ChangeOld
import Derived.Below
import Derived.Lib.SmallJoins
namespace Go.Proofs.Ytocljkoijhipiaa.wideNear
open Go.ChangeShapes Go.WideShapes Go.ChangeAt Go.RowKit
open Go.ChangeMaps (open_string shut_string)
open Go.Joins
set_option linter.unusedVariables false
theorem own : ownKnob Try.prog.godebug = none := by kernel_rfl
theorem laidOut : laidOutB Try.prog = true := by kernel_rfl
theorem cellsWide : Try.prog.cellsOf 24 = 2 := by kernel_rfl
theorem wide_wf {h l : Int} (a : (Lit.int .i64 h).wf = true) (b : (Lit.int .u64 l).wf = true) : ∃ x, h = whi x ∧ l = wlo x ∧ -170141183460469231731687303715884105728 ≤ x ∧ x < 170141183460469231731687303715884105728 := by
  have a' := bounds_i64 a
  have b' := bounds_u64 b
  obtain ⟨x, h1, h2, h3, h4⟩ := wide_of h l a'.1 a'.2 b'.1 b'.2
  exact ⟨x, h1, h2, h3, h4⟩
set_option maxHeartbeats 8000000 in
set_option maxRecDepth 100000 in
theorem walk (m : Int) (w0 : (Lit.int .i64 m).wf = true) (n : Int) (w1 : (Lit.int .i64 n).wf = true) (a : Int) (w2 : -170141183460469231731687303715884105728 ≤ a ∧ a < 170141183460469231731687303715884105728) (b : Int) (w3 : -170141183460469231731687303715884105728 ≤ b ∧ b < 170141183460469231731687303715884105728) (c : Int) (w4 : -170141183460469231731687303715884105728 ≤ c ∧ c < 170141183460469231731687303715884105728) (w : World) : -- the walk
    Calls Try.prog 13 #[.int .i64 m, .int .i64 n, WV a, WV b, WV c] w fun e w' => e = .returned (.bool true) ∧ Below w.heap.size w w' := by
  have hm := bounds_i64 w0
  have hn := bounds_i64 w1
  have ha := w2
  have hb := w3
  have hc := w4
  clear w0 w1 w2 w3 w4
  have bX := mul_rng m n hm.1 hm.2 hn.1 hn.2
  obtain ⟨X, hX⟩ : ∃ X, m * n = X := ⟨_, rfl⟩
  rw [hX] at bX
  have nr := rnd_near X 4294967296 (by omega)
  obtain ⟨R, hR⟩ : ∃ R, rnd X 4294967296 = R := ⟨_, rfl⟩
  rw [hR] at nr
  have e32 : (2 : Int) ^ (32 : Int).toNat = 4294967296 := by decide
  have hI0 : Inv w [(w.heap.size, a), (w.heap.size + 1, b), (w.heap.size + 1 + 1, c)] [] (((w.alloc (Obj.cells #[.int .i64 (whi a), .int .u64 (wlo a)] 24)).alloc (Obj.cells #[.int .i64 (whi b), .int .u64 (wlo b)] 24)).alloc (Obj.cells #[.int .i64 (whi c), .int .u64 (wlo c)] 24)) := by
    refine ⟨?_, fun p hp => (by cases hp), b3 _ _ _ _ _ (Nat.le_refl _)⟩
    intro p hp
    simp only [List.mem_cons, List.not_mem_nil, or_false] at hp
    rcases hp with rfl | rfl | rfl
    all_goals exact ⟨by simp [go_sem], by simp [go_sem], by simp [go_sem], by simp [go_sem]⟩
  go_enter Try.func13, Try.ntmps13
  go_wp2_with fail
  refine (lAwake _).mono ?_
  rintro e v1 ⟨rfl, hb1⟩
  have hI1 := hI0.keep hb1
  go_wp2_with fail
  refine (wMul m n _ hm.1 hm.2 hn.1 hn.2).mono ?_
  rintro e v2 ⟨rfl, hb2⟩
  rw [hX]
  have hI2 := (hI1.keep hb2).cons X
  clear hb1 hb2 hI1
  go_wp2_with fail
  refine (wRound X 32 _ (by omega) (by omega) (by omega) (by omega)).mono ?_
  rintro e v3 ⟨rfl, hb3⟩
  rw [e32, hR]
  have hI := (hI2.keep hb3).cons R
  clear hb3 hI2 hI0
  go_wp2_with fail
  go_region_held3 (fun w' => Inv w ((v3.heap.size, R) :: (v2.heap.size, X) :: [(w.heap.size, a), (w.heap.size + 1, b), (w.heap.size + 1 + 1, c)]) [] w' ∧ w'.cell? ⟨w.heap.size, 0, none⟩ = some (.int .i64 (whi a)) ∧ w'.cell? ⟨w.heap.size, 1, none⟩ = some (.int .u64 (wlo a)) ∧ w'.cell? ⟨w.heap.size + 1, 0, none⟩ = some (.int .i64 (whi b)) ∧ w'.cell? ⟨w.heap.size + 1, 1, none⟩ = some (.int .u64 (wlo b)))
    (first | exact ⟨hI.drew, ((hI.drew).c (w.heap.size, a) (by simp)).hi, ((hI.drew).c (w.heap.size, a) (by simp)).lo, ((hI.drew).c (w.heap.size + 1, b) (by simp)).hi, ((hI.drew).c (w.heap.size + 1, b) (by simp)).lo⟩ | exact ⟨hI, ((hI).c (w.heap.size, a) (by simp)).hi, ((hI).c (w.heap.size, a) (by simp)).lo, ((hI).c (w.heap.size + 1, b) (by simp)).hi, ((hI).c (w.heap.size + 1, b) (by simp)).lo⟩)
    (first | (go_at_call 22; (first | (with_reducible refine (wCmp a b _ ha.1 ha.2 hb.1 hb.2).mono ?_) | (with_reducible refine (wCmp b a _ hb.1 hb.2 ha.1 ha.2).mono ?_)); rintro e w6 ⟨rfl, hbz⟩; (first | (have hI := hI.keep hbz) | (have hI := hI.drew.keep hbz) | (have hI := (hI.one _).keep hbz) | (have hI := (hI.one _).drew.keep hbz))))
  have hE := (by assumption : Inv w ((v3.heap.size, R) :: (v2.heap.size, X) :: [(w.heap.size, a), (w.heap.size + 1, b), (w.heap.size + 1 + 1, c)]) [] _ ∧ _).1
  clear hI
  go_upto_region 5 with fail
  go_cut [2, 3, 4, 15, 16, 69] (fun s2 s3 s4 s15 s16 s69 wc => s69 = .bool false ∧ Inv w ((v3.heap.size, R) :: (v2.heap.size, X) :: [(w.heap.size, a), (w.heap.size + 1, b), (w.heap.size + 1 + 1, c)]) [] wc)
  case first =>
    have g0a := (hE.c (w.heap.size, a) (by simp)).hi
    have g0b := (hE.c (w.heap.size, a) (by simp)).lo
    have g0c := (hE.c (w.heap.size, a) (by simp)).lt
    have g1a := (hE.c (w.heap.size + 1, b) (by simp)).hi
    have g1b := (hE.c (w.heap.size + 1, b) (by simp)).lo
    have g1c := (hE.c (w.heap.size + 1, b) (by simp)).lt
    have g2a := (hE.c (w.heap.size + 1 + 1, c) (by simp)).hi
    have g2b := (hE.c (w.heap.size + 1 + 1, c) (by simp)).lo
    have g2c := (hE.c (w.heap.size + 1 + 1, c) (by simp)).lt
    rcases Int.lt_trichotomy a b with h | h | h
    · have e1 : cmpI a b = -1 := by unfold cmpI; rw [if_pos h]
      have e2 : cmpI b a = 1 := by unfold cmpI; rw [if_neg (by omega), if_pos h]
      have hl : ¬ whi a = whi b ∨ ¬ wlo a = wlo b := wne h ha.1 hb.2
      rw [e1, e2]
      by_cases hbc : b < c
      · have e3 : Hid (cmpI b c = -1) := by show cmpI b c = -1; unfold cmpI; rw [if_pos hbc]
        have e4 : Hid (cmpI a c = -1) := by show cmpI a c = -1; unfold cmpI; rw [if_pos (by omega)]
        clear e1 e2 h hbc
        go_wp2_with (go_at_call 22; (first | (with_reducible refine (wCmp b c _ hb.1 hb.2 hc.1 hc.2).mono ?_) | (with_reducible refine (wCmp a c _ ha.1 ha.2 hc.1 hc.2).mono ?_) | (have hr := fun w => wCmp a c w ha.1 ha.2 hc.1 hc.2; simp only [WV, (by assumption : whi a = whi b)] at hr; with_reducible refine (hr _).mono ?_)); rintro e w6 ⟨rfl, hbz⟩; (first | (have hE := hE.keep hbz) | (have hE := hE.drew.keep hbz)); (have g0a := (hE.c (w.heap.size, a) (by simp)).hi; have g0b := (hE.c (w.heap.size, a) (by simp)).lo; have g0c := (hE.c (w.heap.size, a) (by simp)).lt; have g2a := (hE.c (w.heap.size + 1 + 1, c) (by simp)).hi; have g2b := (hE.c (w.heap.size + 1 + 1, c) (by simp)).lo; have g2c := (hE.c (w.heap.size + 1 + 1, c) (by simp)).lt); (first | rw [e3.out] | rw [e4.out]))
        all_goals (first | (go_meet; exact ⟨rfl, hE⟩) | (exfalso; omega))
      · have e3 : Hid (0 ≤ cmpI b c) := by show 0 ≤ cmpI b c; unfold cmpI; rw [if_neg hbc]; split <;> omega
        obtain ⟨Z, hZ⟩ : ∃ Z, cmpI b c = Z := ⟨_, rfl⟩
        have z0 : 0 ≤ Z := hZ ▸ e3.out
        clear e1 e2 h hbc
        go_wp2_with (go_at_call 22; (with_reducible refine (wCmp b c _ hb.1 hb.2 hc.1 hc.2).mono ?_); rintro e w6 ⟨rfl, hbz⟩; (first | (have hE := hE.keep hbz) | (have hE := hE.drew.keep hbz)); rw [hZ])
        all_goals (first | (go_meet; exact ⟨rfl, hE⟩) | (exfalso; omega))
    · have e1 : cmpI a b = 0 := by unfold cmpI; rw [if_neg (by omega), if_neg (by omega)]
      have e2 : cmpI b a = 0 := by unfold cmpI; rw [if_neg (by omega), if_neg (by omega)]
      rw [e1, e2]
      have hl1 : whi a = whi b := by rw [h]
      have hl2 : wlo a = wlo b := by rw [h]
      clear e1 e2 h
      go_wp2_with fail
      all_goals (first | (go_meet; exact ⟨rfl, hE⟩) | (exfalso; omega))
    · have e1 : cmpI b a = -1 := by unfold cmpI; rw [if_pos h]
      have e2 : cmpI a b = 1 := by unfold cmpI; rw [if_neg (by omega), if_pos h]
      have hl : ¬ whi b = whi a ∨ ¬ wlo b = wlo a := wne h hb.1 ha.2
      rw [e1, e2]
      clear e1 e2 h
      go_wp2_with fail
      all_goals (first | (go_meet; exact ⟨rfl, hE⟩) | (exfalso; omega))
  case rest =>
    obtain ⟨rfl, hJ⟩ := hcut
    have r0 := (hJ.c (v3.heap.size, R) (by simp)).hi
    have r1 := (hJ.c (v3.heap.size, R) (by simp)).lo
    have r2 := (hJ.c (v3.heap.size, R) (by simp)).lt
    by_cases hf : -9223372036854775807 ≤ R ∧ R ≤ 9223372036854775807
    · have f1 : fitV R = R := by unfold fitV; rw [if_neg (by omega), if_neg (by omega)]
      have f2 : fitC R = false := by unfold fitC; simp; omega
      go_wp2_with fail
      refine (wFit R _ (by omega) (by omega)).mono ?_
      rintro e v4 ⟨rfl, hb4⟩
      rw [f1, f2]
      have hI := hJ.keep hb4
      clear hJ hb4 r0 r1 r2 hE f1 f2
      obtain ⟨Y, hY⟩ : ∃ Y, X + -(R * 4294967296) = Y := ⟨_, rfl⟩
      go_wp2_with fail
      go_cut [19] (fun s19 wc => ∃ E : Nat, s19 = .pointer (some ⟨E, 0, none⟩) ∧ Inv w ((E, Y) :: ((v3.heap.size, R) :: (v2.heap.size, X) :: [(w.heap.size, a), (w.heap.size + 1, b), (w.heap.size + 1 + 1, c)])) [] wc)
      case first =>
       go_region_held3 (fun w' => Inv w ((v3.heap.size, R) :: (v2.heap.size, X) :: [(w.heap.size, a), (w.heap.size + 1, b), (w.heap.size + 1 + 1, c)]) [] w' ∧ w'.cell? ⟨v2.heap.size, 0, none⟩ = some (.int .i64 (whi X)) ∧ w'.cell? ⟨v2.heap.size, 1, none⟩ = some (.int .u64 (wlo X)))
        (first | exact ⟨hI.drew, ((hI.drew).c (v2.heap.size, X) (by simp)).hi, ((hI.drew).c (v2.heap.size, X) (by simp)).lo⟩ | exact ⟨hI, ((hI).c (v2.heap.size, X) (by simp)).hi, ((hI).c (v2.heap.size, X) (by simp)).lo⟩ | exact ⟨hI.one _, ((hI.one _).c (v2.heap.size, X) (by simp)).hi, ((hI.one _).c (v2.heap.size, X) (by simp)).lo⟩ | exact ⟨(hI.one _).drew, (((hI.one _).drew).c (v2.heap.size, X) (by simp)).hi, (((hI.one _).drew).c (v2.heap.size, X) (by simp)).lo⟩ | exact ⟨hI.farE lE _ _, ((hI.farE lE _ _).c (v2.heap.size, X) (by simp)).hi, ((hI.farE lE _ _).c (v2.heap.size, X) (by simp)).lo⟩)
        (first | (go_at_call 20; (with_reducible refine (wMul R 4294967296 _ (by omega) (by omega) (by omega) (by omega)).mono ?_); rintro e v5 ⟨rfl, hbz⟩; (first | (have zF := (WC.new0 _).keep hbz; have lE := hI.lts) | (have zF := ((WC.new0 _).keep (Below.draw _)).keep hbz; have lE := hI.lts) | (have zF := zF.keep hbz) | skip); (first | (have zc1 := zF.hi; have zc2 := zF.lo; have zc3 := zF.f0; have zc4 := zF.f1) | skip); (first | (have hI := hI.keep hbz) | (have hI := hI.drew.keep hbz) | (have hI := (hI.one _).keep hbz) | (have hI := (hI.one _).drew.keep hbz))) | (go_at_call 18; (with_reducible refine (wNeg (R * 4294967296) _).mono ?_); rintro e v5 ⟨rfl, hbz⟩; (first | (have zF := (WC.new0 _).keep hbz; have lE := hI.lts) | (have zF := ((WC.new0 _).keep (Below.draw _)).keep hbz; have lE := hI.lts) | (have zF := zF.keep hbz) | skip); (first | (have zc1 := zF.hi; have zc2 := zF.lo; have zc3 := zF.f0; have zc4 := zF.f1) | skip); (first | (have hI := hI.keep hbz) | (have hI := hI.drew.keep hbz) | (have hI := (hI.one _).keep hbz) | (have hI := (hI.one _).drew.keep hbz))) | (go_at_call 16; (with_reducible refine (wAdd X (-(R * 4294967296)) _).mono ?_); rintro e v5 ⟨rfl, hbz⟩; rw [hY]; (first | (have zF := (WC.new0 _).keep hbz; have lE := hI.lts) | (have zF := ((WC.new0 _).keep (Below.draw _)).keep hbz; have lE := hI.lts) | (have zF := zF.keep hbz) | skip); (first | (have zc1 := zF.hi; have zc2 := zF.lo; have zc3 := zF.f0; have zc4 := zF.f1) | skip); (first | (have hI := hI.keep hbz) | (have hI := hI.drew.keep hbz) | (have hI := (hI.one _).keep hbz) | (have hI := (hI.one _).drew.keep hbz))))
       all_goals (go_wp2_with fail; go_meet; first | exact ⟨_, rfl, (hI.farE lE _ _).push (zF.set _)⟩ | exact ⟨_, rfl, hI.cons _⟩)
      case rest =>
        obtain ⟨E, rfl, hK⟩ := hcut
        clear hI
        have y0 := (hK.c (E, Y) (by simp)).hi
        have y1 := (hK.c (E, Y) (by simp)).lo
        have y2 := (hK.c (E, Y) (by simp)).lt
        obtain ⟨H, hH⟩ : ∃ H : Int, H = 2147483648 := ⟨_, rfl⟩
        obtain ⟨F, hF⟩ : ∃ F, cmpI Y H = F := ⟨_, rfl⟩
        obtain ⟨G, hG⟩ : ∃ G, cmpI Y (-H) = G := ⟨_, rfl⟩
        have hFG : F = 0 ∧ G = 1 ∧ R.tmod 2 = 0 ∨ F = -1 ∧ G = 0 ∧ R.tmod 2 = 0 ∨ F = -1 ∧ G = 1 := by
          have e := Int.tmod_eq_emod (a := R) (b := 2)
          unfold cmpI at hF hG
          subst hH
          rw [← hF, ← hG]
          split at e <;> split <;> split <;> (try split) <;> omega
        have hof : ∀ w, Calls Try.prog 14 #[.int .i64 2147483648] w fun e w' => e = .returned (WV H) ∧ Below w.heap.size w w' := by
          intro w; rw [hH]; exact wOf _ w (by omega) (by omega)
        have yb : -170141183460469231731687303715884105728 ≤ Y ∧ Y < 170141183460469231731687303715884105728 := by omega
        have hb0 : -170141183460469231731687303715884105728 ≤ H ∧ H < 170141183460469231731687303715884105728 := by omega
        have hb1 : -170141183460469231731687303715884105728 ≤ -H ∧ -H < 170141183460469231731687303715884105728 := by omega
        clear hH
        go_wp2_with fail
        refine (hof _).mono ?_
        rintro e v6 ⟨rfl, hb6⟩
        have hM := (hK.keep hb6).cons H
        clear hb6 y0 y1 y2 hK
        have y0 := (hM.c (E, Y) (by simp)).hi
        have y1 := (hM.c (E, Y) (by simp)).lo
        have y2 := (hM.c (E, Y) (by simp)).lt
        have x0 := (hM.c (v6.heap.size, H) (by simp)).hi
        have x1 := (hM.c (v6.heap.size, H) (by simp)).lo
        have x2 := (hM.c (v6.heap.size, H) (by simp)).lt
        go_wp2_with fail
        with_reducible refine (wCmp Y H _ yb.1 yb.2 hb0.1 hb0.2).mono ?_
        rintro e v7 ⟨rfl, hb7⟩
        rw [hF]
        have hI := hM.keep hb7
        clear hb7 y0 y1 y2 x0 x1 x2 hM
        go_wp2_with fail
        go_region_held3 (fun w' => Inv w ((v6.heap.size, H) :: (E, Y) :: ((v3.heap.size, R) :: (v2.heap.size, X) :: [(w.heap.size, a), (w.heap.size + 1, b), (w.heap.size + 1 + 1, c)])) [] w' ∧ w'.cell? ⟨E, 0, none⟩ = some (.int .i64 (whi Y)) ∧ w'.cell? ⟨E, 1, none⟩ = some (.int .u64 (wlo Y)) ∧ w'.cell? ⟨v6.heap.size, 0, none⟩ = some (.int .i64 (whi H)) ∧ w'.cell? ⟨v6.heap.size, 1, none⟩ = some (.int .u64 (wlo H)))
          (first | exact ⟨hI.drew, ((hI.drew).c (E, Y) (by simp)).hi, ((hI.drew).c (E, Y) (by simp)).lo, ((hI.drew).c (v6.heap.size, H) (by simp)).hi, ((hI.drew).c (v6.heap.size, H) (by simp)).lo⟩ | exact ⟨hI, ((hI).c (E, Y) (by simp)).hi, ((hI).c (E, Y) (by simp)).lo, ((hI).c (v6.heap.size, H) (by simp)).hi, ((hI).c (v6.heap.size, H) (by simp)).lo⟩)
          (first | (go_at_call 18; (with_reducible refine (wNeg H _).mono ?_); rintro e v8 ⟨rfl, hbz⟩; (first | (have hI := hI.keep hbz) | (have hI := hI.drew.keep hbz) | (have hI := (hI.one _).keep hbz) | (have hI := (hI.one _).drew.keep hbz))) | (go_at_call 22; (with_reducible refine (wCmp Y (-H) _ yb.1 yb.2 hb1.1 hb1.2).mono ?_); rintro e v8 ⟨rfl, hbz⟩; rw [hG]; (first | (have hI := hI.keep hbz) | (have hI := hI.drew.keep hbz) | (have hI := (hI.one _).keep hbz) | (have hI := (hI.one _).drew.keep hbz))))
        have hE := (by assumption : Inv w ((v6.heap.size, H) :: (E, Y) :: ((v3.heap.size, R) :: (v2.heap.size, X) :: [(w.heap.size, a), (w.heap.size + 1, b), (w.heap.size + 1 + 1, c)])) [] _ ∧ _).1
        rcases hFG with ⟨rfl, rfl, hr⟩ | ⟨rfl, rfl, hr⟩ | ⟨rfl, rfl⟩
        all_goals
          go_wp2_with fail
          go_ret
          exact ⟨rfl, hE.B⟩
    · have f2 : fitC R = true := by unfold fitC; simp; omega
      go_wp2_with fail
      refine (wFit R _ (by omega) (by omega)).mono ?_
      rintro e v4 ⟨rfl, hb4⟩
      rw [f2]
      have hI := hJ.keep hb4
      go_wp2_with fail
      go_ret
      exact ⟨rfl, hI.B⟩
set_option maxRecDepth 100000 in
theorem lifted (os : Os) (started : os.Started) (H : Type) (enc : TypeId × Value → H) :
    ReturnsInHanded {} Try.checked os 13 .any (Rows.wideNearSpec.pre6 enc Try.prog Try.f13 Rows.wideNearRow.domain false) (Rows.wideNearSpec.post enc Try.prog Try.f13 false true false false) := by
  refine returnsInHanded_of_change (C := Try.checked) own started (by kernel_rfl) Try.func13
    (ChangeSpec.witness6 (enc := enc) (C := Try.checked) false ⟨#[], #[.int .i64 0, .int .i64 0, .agg #[.int .i64 0, .int .u64 0], .agg #[.int .i64 0, .int .u64 0], .agg #[.int .i64 0, .int .u64 0]], []⟩ 8 (by kernel_rfl) (by kernel_rfl) (by kernel_rfl) (by kernel_rfl)) ?_
  intro W base args ds gs before hval0 hW hcnd _
  have hval : ∀ (j : Nat) t v, Try.f13.params[j]? = some t → args[j]? = some v → Value.okWide Try.prog W .any base t v := hval0
  have hW' := hW
  obtain ⟨p, q, hA0, hV, rfl, hfz, hnd⟩ := hW
  have hA : DataW.TrodAll enc Try.prog W 0 (fun _ => true) true Try.f13.params.toList args.toList ds p := hA0
  rw [Try.params13] at hA hval
  obtain ⟨v0, vs0, d0, ds0, p0, q0, hargs, rfl, rfl, h0, r0⟩ := trodAll_cons hA
  obtain ⟨v1, vs1, d1, ds1, p1, q1, rfl, rfl, rfl, h1, r1⟩ := trodAll_cons r0
  obtain ⟨v2, vs2, d2, ds2, p2, q2, rfl, rfl, rfl, h2, r2⟩ := trodAll_cons r1
  obtain ⟨v3, vs3, d3, ds3, p3, q3, rfl, rfl, rfl, h3, r3⟩ := trodAll_cons r2
  obtain ⟨v4, vs4, d4, ds4, p4, q4, rfl, rfl, rfl, h4, r4⟩ := trodAll_cons r3
  obtain ⟨rfl, rfl, rfl⟩ := trodAll_nil r4
  obtain rfl : args = #[v0, v1, v2, v3, v4] := by cases args; simp_all
  obtain ⟨rfl, rfl⟩ := trodVars_none hV
  obtain ⟨m, rfl, rfl, rfl, w0⟩ := open_int Try.underlying3 (hval 0 3 v0 rfl rfl) h0
  obtain ⟨n, rfl, rfl, rfl, w1⟩ := open_int Try.underlying3 (hval 1 3 v1 rfl rfl) h1
  have k2 := h2
  have lt2 : ∀ x ∈ p2, x.block < W.heap.size := by obtain ⟨m, hm⟩ := k2; exact DataW.trod_lt m _ _ _ hm
  obtain ⟨c2a, c2b, y2a, y2b, m2, rfl, rfl, rfl, hy2a, hy2b⟩ := open_agg2 Try.underlying24 (by kernel_rfl) cellsWide (hval 2 24 v2 rfl rfl) h2
  obtain ⟨ah, e2a, rfl, wf2a⟩ := DataW.trod_int Try.underlying3 hy2a
  obtain ⟨al, e2b, rfl, wf2b⟩ := DataW.trod_int Try.underlying22 hy2b
  simp at e2a e2b
  subst e2a e2b
  obtain ⟨a, rfl, rfl, w2⟩ := wide_wf wf2a wf2b
  have k3 := h3
  have lt3 : ∀ x ∈ p3, x.block < W.heap.size := by obtain ⟨m, hm⟩ := k3; exact DataW.trod_lt m _ _ _ hm
  obtain ⟨c3a, c3b, y3a, y3b, m3, rfl, rfl, rfl, hy3a, hy3b⟩ := open_agg2 Try.underlying24 (by kernel_rfl) cellsWide (hval 3 24 v3 rfl rfl) h3
  obtain ⟨bh, e3a, rfl, wf3a⟩ := DataW.trod_int Try.underlying3 hy3a
  obtain ⟨bl, e3b, rfl, wf3b⟩ := DataW.trod_int Try.underlying22 hy3b
  simp at e3a e3b
  subst e3a e3b
  obtain ⟨b, rfl, rfl, w3⟩ := wide_wf wf3a wf3b
  have k4 := h4
  have lt4 : ∀ x ∈ p4, x.block < W.heap.size := by obtain ⟨m, hm⟩ := k4; exact DataW.trod_lt m _ _ _ hm
  obtain ⟨c4a, c4b, y4a, y4b, m4, rfl, rfl, rfl, hy4a, hy4b⟩ := open_agg2 Try.underlying24 (by kernel_rfl) cellsWide (hval 4 24 v4 rfl rfl) h4
  obtain ⟨ch, e4a, rfl, wf4a⟩ := DataW.trod_int Try.underlying3 hy4a
  obtain ⟨cl, e4b, rfl, wf4b⟩ := DataW.trod_int Try.underlying22 hy4b
  simp at e4a e4b
  subst e4a e4b
  obtain ⟨c, rfl, rfl, w4⟩ := wide_wf wf4a wf4b
  clear hA0 hval0
  refine (walk m w0 n w1 a w2 b w3 c w4 W).mono fun e W' ⟨he, bel⟩ => ?_
  subst he
  exact ⟨_, rfl, _, _, _, [], _, [], hW', trodAll_mk1 (shut_bool Try.underlying4 _), (trodAll_cons_mk (shut_int Try.underlying3 w0) (trodAll_cons_mk (shut_int Try.underlying3 w1) (trodAll_cons_mk (Below.trod laidOut (by kernel_rfl) (of_decide_eq_true (by kernel_rfl)) k2 bel lt2) (trodAll_cons_mk (Below.trod laidOut (by kernel_rfl) (of_decide_eq_true (by kernel_rfl)) k3 bel lt3) (trodAll_cons_mk (Below.trod laidOut (by kernel_rfl) (of_decide_eq_true (by kernel_rfl)) k4 bel lt4) trodAll_mk0))))), rfl, bel.frame _, fun h => by cases h⟩
theorem over : Rows.wideNearRow.holds Try.pinned (OpenSpec.ofChange Rows.wideNearSpec) :=
  OpenClaim.holds_of_wide 13 Try.f13 rfl rfl rfl rfl rfl rfl rfl ⟨rfl, rfl, rfl, rfl, rfl⟩ rfl rfl rfl rfl rfl (by kernel_rfl) Try.func13 (by kernel_rfl)
    (of_decide_eq_true (by kernel_rfl)) (by unfold Func.isWrapper; first | (rw [if_pos (by decide +kernel)]; kernel_rfl) | (rw [if_neg (by decide +kernel)]; exact ⟨rfl, rfl⟩))
    (fun os started H enc _ => lifted os started H enc)
theorem proved : Rows.WideNearSaid := over
#print axioms proved
end Go.Proofs.Ytocljkoijhipiaa.wideNear
