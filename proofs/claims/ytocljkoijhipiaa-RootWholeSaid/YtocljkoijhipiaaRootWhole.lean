/- A whole root is the greatest number whose square is not greater, for any wide number; of a square it is the number without its sign. -/
import Derived.Test.YtocljkoijhipiaaKnown3
import Derived.Deep.DeepCutAuto
import Derived.WalkKit
import Derived.ProofKit
import Derived.OpenShut
import Derived.ShutString
import Derived.ChangeOld
import Derived.Below
import Derived.Lib.SmallJoins
namespace Go.Proofs.Ytocljkoijhipiaa.rootWhole
open Go.ChangeShapes Go.WideShapes Go.ChangeAt Go.RowKit
open Go.ChangeMaps (open_string shut_string)
open Go.Joins
set_option linter.unusedVariables false
theorem own : ownKnob Try.prog.godebug = none := by kernel_rfl
theorem laidOut : laidOutB Try.prog = true := by kernel_rfl
theorem cellsWide : Try.prog.cellsOf 24 = 2 := by kernel_rfl
theorem wide_wf {h l : Int} (a : (Lit.int .i64 h).wf = true) (b : (Lit.int .u64 l).wf = true) : ∃ x, h = whi x ∧ l = wlo x ∧ -170141183460469231731687303715884105728 ≤ x ∧ x < 170141183460469231731687303715884105728 := by
  have a' := bounds_i64 a
  have b' := bounds_u64 b
  obtain ⟨x, h1, h2, h3, h4⟩ := wide_of h l a'.1 a'.2 b'.1 b'.2
  exact ⟨x, h1, h2, h3, h4⟩
set_option maxHeartbeats 4000000 in
theorem walk (a : Int) (w0 : -170141183460469231731687303715884105728 ≤ a ∧ a < 170141183460469231731687303715884105728) (m : Int) (w1 : (Lit.int .i64 m).wf = true) (w : World) : -- the walk
    Calls Try.prog 9 #[WV a, .int .i64 m] w fun e w' => e = .returned (.bool true) ∧ Below w.heap.size w w' := by
  have hm := bounds_i64 w1
  have ha := w0
  clear w0 w1
  have sb := fun h => sq_bd m h hm.2
  have hcase : (∃ V E : Int, (∀ w, Calls Try.prog 34 #[WV a] w fun e w' => e = .returned (.tuple #[.int .i64 V, .int .i64 E]) ∧ Below w.heap.size w w') ∧
      (E = 2 ∧ (whi a < 0 ∨ 0 ≤ whi a ∧ cmpI a 85070591730234615847396907784232501249 = 1) ∨
       E = 0 ∧ 0 ≤ V ∧ V ≤ 9223372036854775807 ∧ cmpI (V * V) a ≤ 0 ∧ (V < 9223372036854775807 → cmpI ((V + 1) * (V + 1)) a = 1))) := by
    by_cases hn : a < 0
    · exact ⟨0, 2, fun w => tWholeNo a w ha.1 ha.2 (.inl hn), .inl ⟨rfl, .inl (by unfold whi; omega)⟩⟩
    · obtain ⟨i0, i1, i2⟩ := isq_spec a (by omega)
      by_cases hb : 9223372036854775807 < isq a
      · refine ⟨0, 2, fun w => tWholeNo a w ha.1 ha.2 (.inr hb), .inl ⟨rfl, .inr ⟨by unfold whi; omega, ?_⟩⟩⟩
        have : (9223372036854775808 : Int) * 9223372036854775808 ≤ isq a * isq a := Int.mul_le_mul (by omega) (by omega) (by omega) (by omega)
        unfold cmpI; rw [if_neg (by omega), if_pos (by omega)]
      · refine ⟨isq a, 0, fun w => tWholeOk a (isq a) w ha.2 rfl (by omega) (by omega), .inr ⟨rfl, i0, by omega, ?_, fun _ => ?_⟩⟩
        · unfold cmpI; split <;> (try split) <;> omega
        · unfold cmpI; rw [if_neg (by omega), if_pos (by omega)]
  obtain ⟨V, E, hW, hE⟩ := hcase
  have hlow : ∀ s : Int, isq (m * m) = s → -9223372036854775807 ≤ m → s ≤ 9223372036854775807 → ∀ w, Calls Try.prog 34 #[WV (m * m)] w fun e w' => e = .returned (.tuple #[.int .i64 s, .int .i64 0]) ∧ Below w.heap.size w w' :=
    fun s hs h hsm w => tWholeOk (m * m) s w (by have := sb h; omega) hs (sb h).1 hsm
  have hpos : 0 ≤ m → isq (m * m) = m := fun g => isq_uniq (by omega) (by omega) (by simp only [Int.add_mul, Int.mul_add]; omega)
  have hngt : m < 0 → isq (m * m) = -m := fun g => isq_uniq (by omega) (by rw [Int.neg_mul_neg]; omega) (by simp only [Int.add_mul, Int.mul_add, Int.neg_mul_neg]; omega)
  have SB := Lib.hid sb
  have HL := Lib.hid hlow
  have HP := Lib.hid hpos
  have HN := Lib.hid hngt
  clear sb hlow hpos hngt
  rcases hE with ⟨rfl, h1 | ⟨h1, h2⟩⟩ | ⟨rfl, v0, v1, h1, h2⟩
  case' inl.inl =>
    have d1 : (decide (0 ≤ whi a)) = false := by simp; omega
    clear h1
    go_enter Try.func9, Try.ntmps9
    go_wp2_with (first | (go_at_call 8; first | (with_reducible refine Calls_past2 (lKnown3 _) (fun z => ?_)) | (with_reducible refine Calls_past (lKnown3 _) (fun z => ?_))) | (go_at_call 34; first | (with_reducible refine Calls_past2 (hW _) (fun z => ?_)) | (with_reducible refine Calls_past (hW _) (fun z => ?_))))
    (first | refine region_past2 (by kernel_rfl) (by kernel_rfl) ?_ | refine region_past (by kernel_rfl) (by kernel_rfl) ?_)
    repeat (go_big_quiet_step (fail))
    refine wpQuiet_nil ?_; rintro _ ⟨y, rfl⟩
    go_wp2_with fail
    (first | refine region_past2 (by kernel_rfl) (by kernel_rfl) ?_ | refine region_past (by kernel_rfl) (by kernel_rfl) ?_)
    repeat (go_big_quiet_step (fail))
    refine wpQuiet_nil ?_; rintro _ ⟨y, rfl⟩
  case' inl.inr =>
    have d1 : (decide (0 ≤ whi a)) = true := by simpa using h1
    have hc : ∀ w, Calls Try.prog 22 #[WV a, WV 85070591730234615847396907784232501249] w fun e w' => e = .returned (.int .i64 1) ∧ Below w.heap.size w w' := by
      intro w
      have := wCmp a 85070591730234615847396907784232501249 w ha.1 ha.2 (by omega) (by omega)
      rw [h2] at this; exact this
    clear h1 h2
    go_enter Try.func9, Try.ntmps9
    go_wp2_with (first | (go_at_call 8; first | (with_reducible refine Calls_past2 (lKnown3 _) (fun z => ?_)) | (with_reducible refine Calls_past (lKnown3 _) (fun z => ?_))) | (go_at_call 34; first | (with_reducible refine Calls_past2 (hW _) (fun z => ?_)) | (with_reducible refine Calls_past (hW _) (fun z => ?_))))
    (first | refine region_past2 (by kernel_rfl) (by kernel_rfl) ?_ | refine region_past (by kernel_rfl) (by kernel_rfl) ?_)
    repeat (go_big_quiet_step (fail))
    refine wpQuiet_nil ?_; rintro _ ⟨y, rfl⟩
    go_wp2_with fail
    (first | refine region_past2 (by kernel_rfl) (by kernel_rfl) ?_ | refine region_past (by kernel_rfl) (by kernel_rfl) ?_)
    repeat (go_big_quiet_step ((first | (go_at_call 20; with_reducible exact Calls_pastq (wMul 9223372036854775807 9223372036854775807 _ (by omega) (by omega) (by omega) (by omega))) | (go_at_call 22; with_reducible exact Calls_pastq (hc _)))))
    refine wpQuiet_nil ?_; rintro _ ⟨y, rfl⟩
  case' inr =>
    have vb := sq_bd V (by omega) v1
    have d1 : (decide (V < 0)) = false := by simp; omega
    obtain ⟨c, hcc⟩ : ∃ c, cmpI (V * V) a = c := ⟨_, rfl⟩
    have hc : ∀ w, Calls Try.prog 22 #[WV (V * V), WV a] w fun e w' => e = .returned (.int .i64 c) ∧ Below w.heap.size w w' := by
      intro w
      have := wCmp (V * V) a w (by omega) (by omega) ha.1 ha.2
      rw [hcc] at this; exact this
    rw [hcc] at h1
    have d2 : (decide (0 < c)) = false := by simp; omega
    have h2' : V < 9223372036854775807 → ∀ w, Calls Try.prog 22 #[WV ((V + 1) * (V + 1)), WV a] w fun e w' => e = .returned (.int .i64 1) ∧ Below w.heap.size w w' := by
      intro h w
      have vb := sq_bd (V + 1) (by omega) (by omega)
      have := wCmp ((V + 1) * (V + 1)) a w (by omega) (by omega) ha.1 ha.2
      rw [h2 h] at this; exact this
    clear h1 hcc h2
    by_cases hv : V < 9223372036854775807
    case' pos =>
      have d3 : (decide (V < 9223372036854775807)) = true := by simpa using hv
      have h3 := h2' hv
    case' neg =>
      have d3 : (decide (V < 9223372036854775807)) = false := by simpa using hv
      have h3 := hc
    all_goals
      clear h2'
      go_enter Try.func9, Try.ntmps9
      go_wp2_with (first | (go_at_call 8; first | (with_reducible refine Calls_past2 (lKnown3 _) (fun z => ?_)) | (with_reducible refine Calls_past (lKnown3 _) (fun z => ?_))) | (go_at_call 34; first | (with_reducible refine Calls_past2 (hW _) (fun z => ?_)) | (with_reducible refine Calls_past (hW _) (fun z => ?_))))
      (first | refine region_past2 (by kernel_rfl) (by kernel_rfl) ?_ | refine region_past (by kernel_rfl) (by kernel_rfl) ?_)
      repeat (go_big_quiet_step ((first | (go_at_call 20; with_reducible exact Calls_pastq (wMul V V _ (by omega) (by omega) (by omega) (by omega))) | (go_at_call 20; with_reducible exact Calls_pastq (wMul (V + 1) (V + 1) _ (by omega) (by omega) (by omega) (by omega))) | (go_at_call 22; with_reducible exact Calls_pastq (hc _)) | (go_at_call 22; with_reducible exact Calls_pastq (h3 _)))))
      refine wpQuiet_nil ?_; rintro _ ⟨y, rfl⟩
      go_wp2_with fail
      (first | refine region_past2 (by kernel_rfl) (by kernel_rfl) ?_ | refine region_past (by kernel_rfl) (by kernel_rfl) ?_)
      repeat (go_big_quiet_step (fail))
      refine wpQuiet_nil ?_; rintro _ ⟨y, rfl⟩
  all_goals
    go_upto_region 7 with (fail)
    by_cases h : m < -9223372036854775807
    · go_wp2_with fail
      go_ret
      exact ⟨rfl, by (repeat (first | assumption | exact Below.refl _ _ | with_reducible refine past_t _ ?_ | with_reducible refine below_a _ ?_ | with_reducible refine Below.drew ?_ | with_reducible refine below_d _ ?_ | (with_reducible refine Below.setCell ?_ (by (show _ ≤ _; repeat (first | exact Nat.le_refl _ | with_reducible exact le_past (Nat.le_refl _) | with_reducible refine le_past ?_ | with_reducible refine le_al ?_ | with_reducible refine le_set ?_ | with_reducible refine le_p1 ?_))) _)))⟩
    · by_cases g : 0 ≤ m
      · have hw := HL.out _ (HP.out g) (by omega) (by omega)
        go_wp2_with (first | (go_at_call 20; first | (with_reducible refine Calls_past2 (wMul m m _ (by omega) (by omega) (by omega) (by omega)) (fun z => ?_)) | (with_reducible refine Calls_past (wMul m m _ (by omega) (by omega) (by omega) (by omega)) (fun z => ?_))) | (go_at_call 34; first | (with_reducible refine Calls_past2 (hw _) (fun z => ?_)) | (with_reducible refine Calls_past (hw _) (fun z => ?_))))
        go_ret
        exact ⟨rfl, by (repeat (first | assumption | exact Below.refl _ _ | with_reducible refine past_t _ ?_ | with_reducible refine below_a _ ?_ | with_reducible refine Below.drew ?_ | with_reducible refine below_d _ ?_ | (with_reducible refine Below.setCell ?_ (by (show _ ≤ _; repeat (first | exact Nat.le_refl _ | with_reducible exact le_past (Nat.le_refl _) | with_reducible refine le_past ?_ | with_reducible refine le_al ?_ | with_reducible refine le_set ?_ | with_reducible refine le_p1 ?_))) _)))⟩
      · have g' : m ≤ 0 := by omega
        have hw := HL.out _ (HN.out (by omega)) (by omega) (by omega)
        go_wp2_with (first | (go_at_call 20; first | (with_reducible refine Calls_past2 (wMul m m _ (by omega) (by omega) (by omega) (by omega)) (fun z => ?_)) | (with_reducible refine Calls_past (wMul m m _ (by omega) (by omega) (by omega) (by omega)) (fun z => ?_))) | (go_at_call 34; first | (with_reducible refine Calls_past2 (hw _) (fun z => ?_)) | (with_reducible refine Calls_past (hw _) (fun z => ?_))))
        all_goals
          go_ret
          exact ⟨rfl, by (repeat (first | assumption | exact Below.refl _ _ | with_reducible refine past_t _ ?_ | with_reducible refine below_a _ ?_ | with_reducible refine Below.drew ?_ | with_reducible refine below_d _ ?_ | (with_reducible refine Below.setCell ?_ (by (show _ ≤ _; repeat (first | exact Nat.le_refl _ | with_reducible exact le_past (Nat.le_refl _) | with_reducible refine le_past ?_ | with_reducible refine le_al ?_ | with_reducible refine le_set ?_ | with_reducible refine le_p1 ?_))) _)))⟩
set_option maxRecDepth 100000 in
theorem lifted (os : Os) (started : os.Started) (H : Type) (enc : TypeId × Value → H) :
    ReturnsInHanded {} Try.checked os 9 .any (Rows.rootWholeSpec.pre6 enc Try.prog Try.f9 Rows.rootWholeRow.domain false) (Rows.rootWholeSpec.post enc Try.prog Try.f9 false true false false) := by
  refine returnsInHanded_of_change (C := Try.checked) own started (by kernel_rfl) Try.func9
    (ChangeSpec.witness6 (enc := enc) (C := Try.checked) false ⟨#[], #[.agg #[.int .i64 0, .int .u64 0], .int .i64 0], []⟩ 8 (by kernel_rfl) (by kernel_rfl) (by kernel_rfl) (by kernel_rfl)) ?_
  intro W base args ds gs before hval0 hW hcnd _
  have hval : ∀ (j : Nat) t v, Try.f9.params[j]? = some t → args[j]? = some v → Value.okWide Try.prog W .any base t v := hval0
  have hW' := hW
  obtain ⟨p, q, hA0, hV, rfl, hfz, hnd⟩ := hW
  have hA : DataW.TrodAll enc Try.prog W 0 (fun _ => true) true Try.f9.params.toList args.toList ds p := hA0
  rw [Try.params9] at hA hval
  obtain ⟨v0, vs0, d0, ds0, p0, q0, hargs, rfl, rfl, h0, r0⟩ := trodAll_cons hA
  obtain ⟨v1, vs1, d1, ds1, p1, q1, rfl, rfl, rfl, h1, r1⟩ := trodAll_cons r0
  obtain ⟨rfl, rfl, rfl⟩ := trodAll_nil r1
  obtain rfl : args = #[v0, v1] := by cases args; simp_all
  obtain ⟨rfl, rfl⟩ := trodVars_none hV
  have k0 := h0
  have lt0 : ∀ x ∈ p0, x.block < W.heap.size := by obtain ⟨m, hm⟩ := k0; exact DataW.trod_lt m _ _ _ hm
  obtain ⟨c0a, c0b, y0a, y0b, m0, rfl, rfl, rfl, hy0a, hy0b⟩ := open_agg2 Try.underlying24 (by kernel_rfl) cellsWide (hval 0 24 v0 rfl rfl) h0
  obtain ⟨ah, e0a, rfl, wf0a⟩ := DataW.trod_int Try.underlying3 hy0a
  obtain ⟨al, e0b, rfl, wf0b⟩ := DataW.trod_int Try.underlying22 hy0b
  simp at e0a e0b
  subst e0a e0b
  obtain ⟨a, rfl, rfl, w0⟩ := wide_wf wf0a wf0b
  obtain ⟨m, rfl, rfl, rfl, w1⟩ := open_int Try.underlying3 (hval 1 3 v1 rfl rfl) h1
  clear hA0 hval0
  refine (walk a w0 m w1 W).mono fun e W' ⟨he, bel⟩ => ?_
  subst he
  exact ⟨_, rfl, _, _, _, [], _, [], hW', trodAll_mk1 (shut_bool Try.underlying4 _), (trodAll_cons_mk (Below.trod laidOut (by kernel_rfl) (of_decide_eq_true (by kernel_rfl)) k0 bel lt0) (trodAll_cons_mk (shut_int Try.underlying3 w1) trodAll_mk0)), rfl, bel.frame _, fun h => by cases h⟩
theorem over : Rows.rootWholeRow.holds Try.pinned (OpenSpec.ofChange Rows.rootWholeSpec) :=
  OpenClaim.holds_of_wide 9 Try.f9 rfl rfl rfl rfl rfl rfl rfl ⟨rfl, rfl, rfl, rfl, rfl⟩ rfl rfl rfl rfl rfl (by kernel_rfl) Try.func9 (by kernel_rfl)
    (of_decide_eq_true (by kernel_rfl)) (by unfold Func.isWrapper; first | (rw [if_pos (by decide +kernel)]; kernel_rfl) | (rw [if_neg (by decide +kernel)]; exact ⟨rfl, rfl⟩))
    (fun os started H enc _ => lifted os started H enc)
theorem proved : Rows.RootWholeSaid := over
#print axioms proved
end Go.Proofs.Ytocljkoijhipiaa.rootWhole
