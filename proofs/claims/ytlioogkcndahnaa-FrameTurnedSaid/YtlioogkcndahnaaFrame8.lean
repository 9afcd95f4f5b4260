/- Frames are got by the reference. -/
import Derived.Test.YtlioogkcndahnaaFrame7
namespace Go.Proofs.Ytlioogkcndahnaa
set_option linter.unusedVariables false
set_option maxRecDepth 100000
open Go.RowKit
theorem ownB_empty' (w : World) (B : Nat) (h : B = w.heap.size) : OwnB w (w.alloc (.cells #[] 5)) (.slice (some ⟨B, 0, none⟩) 0 0) [] := by subst h; exact ownB_empty w
theorem wp_gen {P : Program} {c : Code} {Q : Exit → Act → World → Prop} {a : Act} {w : World} (h : ∀ W, W = w → c.wp P Q a W) : c.wp P Q a w := h w rfl
theorem putL_all {f : Nat → Nat} (hf : F32 f) {L : List Int} (hL : AllB L) (hl : L.length ≤ 1000) : AllB (putL f L) := by
  intro x hx
  unfold putL at hx
  rcases List.mem_cons.1 hx with rfl | hx
  · omega
  · rcases List.mem_append.1 hx with hx | hx
    · exact inner_all hL hl x hx
    · exact tailI_all (sumv_lt hf (inner_all hL hl)) x hx
/-- The whole frame is put anew just if the sum fits. -/
theorem whole_eq (f : Nat → Nat) {L : List Int} (hL : AllB L) (h0 : L.getD 0 0 = 126) (hl : gN L + 7 ≤ L.length) : sumOk f L = decide (putL f (body L) = L.take (gN L + 7)) := by
  unfold sumOk putL body
  rcases L with _ | ⟨a, _ | ⟨b, _ | ⟨c, R⟩⟩⟩
  · simp at hl
  · simp at hl
  · simp at hl
  · have hb := hL b (by simp)
    have hc := hL c (by simp)
    have hN : ((gN (a :: b :: c :: R) : Nat) : Int) = b * 256 + c := by unfold gN; simp; omega
    obtain ⟨N, hNN⟩ : ∃ N, gN (a :: b :: c :: R) = N := ⟨_, rfl⟩
    rw [hNN] at hN hl ⊢
    obtain rfl : a = 126 := h0
    simp only [List.length_cons] at hl
    have e1 : ((R.take N).length : Int) / 256 = b := by simp; omega
    have e2 : ((R.take N).length : Int) % 256 = c := by simp; omega
    simp only [List.drop_succ_cons, List.drop_zero, List.take_succ_cons, inner, e1, e2]
    rw [List.take_add, decide_eq_decide]
    simp only [List.cons_append, List.cons.injEq, true_and, List.append_cancel_left_eq]
theorem rGetNil (v : Value) (w : World) : Calls Try.prog 27 #[.pointer none, v] w fun e w' => e = .returned (.tuple #[.slice none 0 0, .int .i64 0, .int .i64 2]) ∧ Below w.heap.size w w' := by
  go_enter Try.func27, Try.ntmps27
  go_wp2_with fail
  refine bodyPost_ret (results_tmp3 Try.results27 _ _ _) rfl ?_
  exact ⟨rfl, by (repeat (first | assumption | exact Below.refl _ _ | with_reducible refine past_t _ ?_ | with_reducible refine below_a _ ?_ | with_reducible refine Below.drew ?_ | with_reducible refine below_d _ ?_ | (with_reducible refine Below.setCell ?_ (by (show _ ≤ _; repeat (first | exact Nat.le_refl _ | assumption | (omega; done) | with_reducible exact le_past (Nat.le_refl _) | with_reducible refine le_past ?_ | with_reducible refine le_al ?_ | with_reducible refine le_set ?_ | with_reducible refine le_p1 ?_))) _)))⟩
set_option maxHeartbeats 8000000 in
theorem rGet {g : Nat} {T : TypeId} {f : Nat → Nat} {A : Option Addr} {n c : Nat} {L : List Int} {w : World} (hb : Blk w g T (tabC f)) (hf : F32 f) (hr : RS .u8 w A n c L) (hL : AllB L) :
    Calls Try.prog 27 #[.pointer (some ⟨g, 0, none⟩), .slice A n c] w (GetPost f L w) := by
  obtain rfl := hr.len
  have hcap := hr.cap
  have htop := hr.top
  by_cases h0 : L.length = 0
  · have e : gE f L = 15 := by unfold gE; rw [if_pos h0]
    have d1 : (((L.length : Nat) : Int) == 0) = true := by simpa using h0
    have HE := Lib.hid e
    clear e h0 hr hb hL
    go_enter Try.func27, Try.ntmps27
    go_wp2_with fail
    refine bodyPost_ret (results_tmp3 Try.results27 _ _ _) rfl ?_
    exact .bad HE.out (by omega) rfl (by (repeat (first | assumption | exact Below.refl _ _ | with_reducible refine past_t _ ?_ | with_reducible refine below_a _ ?_ | with_reducible refine Below.drew ?_ | with_reducible refine below_d _ ?_ | (with_reducible refine Below.setCell ?_ (by (show _ ≤ _; repeat (first | exact Nat.le_refl _ | assumption | (omega; done) | with_reducible exact le_past (Nat.le_refl _) | with_reducible refine le_past ?_ | with_reducible refine le_al ?_ | with_reducible refine le_set ?_ | with_reducible refine le_p1 ?_))) _))))
  have d1 : (((L.length : Nat) : Int) == 0) = false := beq_eq_false_iff_ne.2 (by omega)
  have hlen0 : 0 < L.length := by omega
  have hll : L.length ≤ 9223372036854775807 := by omega
  have hr0 := hr
  obtain ⟨b, o, rfl, hbw, hrow⟩ := hr.at_ (by omega)
  have hc0 := hrow 0 hlen0
  have hb0 := hL.get 0 hlen0
  rw [Nat.add_zero] at hc0
  have HR := Lib.hid hr
  have HB := Lib.hid hb
  have HW := Lib.hid hrow
  clear hr hb hrow hr0
  by_cases h1 : L.getD 0 0 = 126
  case neg =>
    have e : gE f L = 5 := by unfold gE; rw [if_neg h0, if_pos h1]
    have d2 : (L.getD 0 0 != 126) = true := by simpa using h1
    obtain ⟨x0, hx0⟩ : ∃ x, L.getD 0 0 = x := ⟨_, rfl⟩
    rw [hx0] at d2 hc0 hb0
    have HE := Lib.hid e
    clear e h0 h1 hL hx0
    go_enter Try.func27, Try.ntmps27
    go_wp2_with fail
    refine bodyPost_ret (results_tmp3 Try.results27 _ _ _) rfl ?_
    exact .bad HE.out (by omega) rfl (by (repeat (first | assumption | exact Below.refl _ _ | with_reducible refine past_t _ ?_ | with_reducible refine below_a _ ?_ | with_reducible refine Below.drew ?_ | with_reducible refine below_d _ ?_ | (with_reducible refine Below.setCell ?_ (by (show _ ≤ _; repeat (first | exact Nat.le_refl _ | assumption | (omega; done) | with_reducible exact le_past (Nat.le_refl _) | with_reducible refine le_past ?_ | with_reducible refine le_al ?_ | with_reducible refine le_set ?_ | with_reducible refine le_p1 ?_))) _))))
  rw [h1] at hc0
  clear hb0
  by_cases h2 : L.length < 3
  · have e : gE f L = 15 := by unfold gE; rw [if_neg h0, if_neg (by simpa using h1), if_pos h2]
    have d2 : decide ((L.length : Int) < 3) = true := by simp; omega
    have HE := Lib.hid e
    clear e h0 h1 hL
    go_enter Try.func27, Try.ntmps27
    go_wp2_with fail
    refine bodyPost_ret (results_tmp3 Try.results27 _ _ _) rfl ?_
    exact .bad HE.out (by omega) rfl (by (repeat (first | assumption | exact Below.refl _ _ | with_reducible refine past_t _ ?_ | with_reducible refine below_a _ ?_ | with_reducible refine Below.drew ?_ | with_reducible refine below_d _ ?_ | (with_reducible refine Below.setCell ?_ (by (show _ ≤ _; repeat (first | exact Nat.le_refl _ | assumption | (omega; done) | with_reducible exact le_past (Nat.le_refl _) | with_reducible refine le_past ?_ | with_reducible refine le_al ?_ | with_reducible refine le_set ?_ | with_reducible refine le_p1 ?_))) _))))
  have d2 : decide ((L.length : Int) < 3) = false := by simp; omega
  have hc1 := HW.out 1 (by omega)
  have hc2 := HW.out 2 (by omega)
  have hb1 := hL.get 1 (by omega)
  have hb2 := hL.get 2 (by omega)
  have hgN : gN L = (L.getD 1 0 * 256 + L.getD 2 0).toNat := rfl
  obtain ⟨x1, hx1⟩ : ∃ x, L.getD 1 0 = x := ⟨_, rfl⟩
  obtain ⟨x2, hx2⟩ : ∃ x, L.getD 2 0 = x := ⟨_, rfl⟩
  obtain ⟨N, hN⟩ : ∃ N, gN L = N := ⟨_, rfl⟩
  rw [hx1] at hc1 hb1 hgN
  rw [hx2] at hc2 hb2 hgN
  rw [hN] at hgN
  have HN := Lib.hid hN
  have HG := Lib.hid hgN
  obtain ⟨l1, u1⟩ := hb1
  obtain ⟨l2, u2⟩ := hb2
  have j1 : (1 : Int) < (L.length : Int) := by omega
  have j2 : (2 : Int) < (L.length : Int) := by omega
  have hor : x1 * 256 + x2 = (N : Int) := by omega
  clear hN hgN hx1 hx2
  by_cases h3 : N = 0 ∨ 1000 < N
  · have e : gE f L = 5 := by unfold gE; rw [if_neg h0, if_neg (by simpa using h1), if_neg h2, if_pos (by rw [HN.out]; exact h3)]
    have HE := Lib.hid e
    clear e h0 h1 h2 hL
    rcases h3 with h3 | h3
    · have d3 : ((N : Int) == 0) = true := by simpa using h3
      clear h3 HG
      go_enter Try.func27, Try.ntmps27
      go_wp2_with fail
      (first | refine region_past2 (by kernel_rfl) (by kernel_rfl) ?_ | refine region_past (by kernel_rfl) (by kernel_rfl) ?_)
      repeat (go_big_quiet_step (fail))
      refine wpQuiet_nil ?_; rintro _ ⟨y, rfl⟩
      clear hor
      go_wp2_with fail
      refine bodyPost_ret (results_tmp3 Try.results27 _ _ _) rfl ?_
      exact .bad HE.out (by omega) rfl (by (repeat (first | assumption | exact Below.refl _ _ | with_reducible refine past_t _ ?_ | with_reducible refine below_a _ ?_ | with_reducible refine Below.drew ?_ | with_reducible refine below_d _ ?_ | (with_reducible refine Below.setCell ?_ (by (show _ ≤ _; repeat (first | exact Nat.le_refl _ | assumption | (omega; done) | with_reducible exact le_past (Nat.le_refl _) | with_reducible refine le_past ?_ | with_reducible refine le_al ?_ | with_reducible refine le_set ?_ | with_reducible refine le_p1 ?_))) _))))
    · have d3 : ((N : Int) == 0) = false := beq_eq_false_iff_ne.2 (by omega)
      have d4 : decide ((1000 : Int) < (N : Int)) = true := by simp; omega
      clear h3 HG
      go_enter Try.func27, Try.ntmps27
      go_wp2_with fail
      (first | refine region_past2 (by kernel_rfl) (by kernel_rfl) ?_ | refine region_past (by kernel_rfl) (by kernel_rfl) ?_)
      repeat (go_big_quiet_step (fail))
      refine wpQuiet_nil ?_; rintro _ ⟨y, rfl⟩
      clear hor
      go_wp2_with fail
      refine bodyPost_ret (results_tmp3 Try.results27 _ _ _) rfl ?_
      exact .bad HE.out (by omega) rfl (by (repeat (first | assumption | exact Below.refl _ _ | with_reducible refine past_t _ ?_ | with_reducible refine below_a _ ?_ | with_reducible refine Below.drew ?_ | with_reducible refine below_d _ ?_ | (with_reducible refine Below.setCell ?_ (by (show _ ≤ _; repeat (first | exact Nat.le_refl _ | assumption | (omega; done) | with_reducible exact le_past (Nat.le_refl _) | with_reducible refine le_past ?_ | with_reducible refine le_al ?_ | with_reducible refine le_set ?_ | with_reducible refine le_p1 ?_))) _))))
  have hN0 : 0 < N := by omega
  have hN1 : N ≤ 1000 := by omega
  have d3 : ((N : Int) == 0) = false := beq_eq_false_iff_ne.2 (by omega)
  have d4 : decide ((1000 : Int) < (N : Int)) = false := by simp; omega
  by_cases h4 : L.length < N + 7
  · have e : gE f L = 15 := by unfold gE; rw [if_neg h0, if_neg (by simpa using h1), if_neg h2, if_neg (by rw [HN.out]; exact h3), if_pos (by rw [HN.out]; exact h4)]
    have d5 : decide ((L.length : Int) < (N : Int) + 7) = true := by simp; omega
    have HE := Lib.hid e
    clear e h0 h1 h2 hL h3 h4 HG
    go_enter Try.func27, Try.ntmps27
    go_wp2_with fail
    (first | refine region_past2 (by kernel_rfl) (by kernel_rfl) ?_ | refine region_past (by kernel_rfl) (by kernel_rfl) ?_)
    repeat (go_big_quiet_step (fail))
    refine wpQuiet_nil ?_; rintro _ ⟨y, rfl⟩
    clear hor
    go_wp2_with fail
    refine bodyPost_ret (results_tmp3 Try.results27 _ _ _) rfl ?_
    exact .bad HE.out (by omega) rfl (by (repeat (first | assumption | exact Below.refl _ _ | with_reducible refine past_t _ ?_ | with_reducible refine below_a _ ?_ | with_reducible refine Below.drew ?_ | with_reducible refine below_d _ ?_ | (with_reducible refine Below.setCell ?_ (by (show _ ≤ _; repeat (first | exact Nat.le_refl _ | assumption | (omega; done) | with_reducible exact le_past (Nat.le_refl _) | with_reducible refine le_past ?_ | with_reducible refine le_al ?_ | with_reducible refine le_set ?_ | with_reducible refine le_p1 ?_))) _))))
  have d5 : decide ((L.length : Int) < (N : Int) + 7) = false := by simp; omega
  have hgE : gE f L = if sumOk f L = true then 0 else 14 := by unfold gE; rw [if_neg h0, if_neg (by simpa using h1), if_neg h2, if_neg (by rw [HN.out]; exact h3), if_neg (by rw [HN.out]; exact h4)]
  have hw := whole_eq f hL h1 (by rw [HN.out]; omega)
  have r2 := HR.out.upto (N + 7) (by omega)
  have r3 := HR.out.cut 3 (N + 3) (by omega) (by omega)
  rw [show N + 3 - 3 = N by omega] at r3
  have hKB : AllB ((L.drop 3).take N) := fun x hx => hL x (List.mem_of_mem_drop (List.mem_of_mem_take hx))
  have hPB : AllB (L.take (N + 7)) := fun x hx => hL x (List.mem_of_mem_take hx)
  have hKL : ((L.drop 3).take N).length = N := by simp; omega
  unfold body at hw
  rw [HN.out] at hw
  obtain ⟨K, hK⟩ : ∃ K, (L.drop 3).take N = K := ⟨_, rfl⟩
  rw [hK] at hw hKB hKL r3
  have hput : ∀ W A c, Blk W g T (tabC f) → RS .u8 W A K.length c K → Calls Try.prog 23 #[.pointer (some ⟨g, 0, none⟩), .slice A K.length c] W fun e w' => ∃ A' c', e = .returned (.tuple #[.slice A' (K.length + 7) c', .int .i64 0]) ∧ OwnB W w' (.slice A' (K.length + 7) c') (putL f K) ∧ Below W.heap.size W w' :=
    fun W A c k1 k2 => rPut k1 hf k2 hKB (by omega) (by omega)
  have hPA := putL_all hf hKB (by omega)
  have hKm : K.length ≤ 1000 := by omega
  have HR2 := Lib.hid r2
  have HR3 := Lib.hid r3
  have HW2 := Lib.hid hw
  have HGE := Lib.hid hgE
  have HK := Lib.hid hK
  have HKL := Lib.hid hKL
  have nc3 : ¬ c = 3 := by omega
  clear h0 h1 h2 h3 hL r2 r3 hw hgE HG hK hKL
  go_enter Try.func27, Try.ntmps27
  go_wp2_with fail
  (first | refine region_past2 (by kernel_rfl) (by kernel_rfl) ?_ | refine region_past (by kernel_rfl) (by kernel_rfl) ?_)
  repeat (go_big_quiet_step (fail))
  refine wpQuiet_nil ?_; rintro _ ⟨y, rfl⟩
  clear hor
  go_wp2_with (first | ((at_builtin; refine append_b (by rfl) _ _ (by rfl) _ (by rfl) (by rfl) ?_ (ownB_empty' _ _ ?_) (HR3.out.keep ?_) ?_ ?_; (focus ((first | ((repeat (first | assumption | exact Below.refl _ _ | with_reducible refine past_t _ ?_ | with_reducible refine below_a _ ?_ | with_reducible refine Below.drew ?_ | with_reducible refine below_d _ ?_ | (with_reducible refine Below.setCell ?_ (by (show _ ≤ _; repeat (first | exact Nat.le_refl _ | assumption | (omega; done) | with_reducible exact le_past (Nat.le_refl _) | with_reducible refine le_past ?_ | with_reducible refine le_al ?_ | with_reducible refine le_set ?_ | with_reducible refine le_p1 ?_))) _))); done) | (with_reducible rfl; done) | omega | (rfl; done) | (simp; done) | (simp [go_sem]; done) | (simp; omega) | (simp [go_sem]; omega)); done)); (focus ((first | ((repeat (first | assumption | exact Below.refl _ _ | with_reducible refine past_t _ ?_ | with_reducible refine below_a _ ?_ | with_reducible refine Below.drew ?_ | with_reducible refine below_d _ ?_ | (with_reducible refine Below.setCell ?_ (by (show _ ≤ _; repeat (first | exact Nat.le_refl _ | assumption | (omega; done) | with_reducible exact le_past (Nat.le_refl _) | with_reducible refine le_past ?_ | with_reducible refine le_al ?_ | with_reducible refine le_set ?_ | with_reducible refine le_p1 ?_))) _))); done) | (with_reducible rfl; done) | omega | (rfl; done) | (simp; done) | (simp [go_sem]; done) | (simp; omega) | (simp [go_sem]; omega)); done)); (focus ((first | ((repeat (first | assumption | exact Below.refl _ _ | with_reducible refine past_t _ ?_ | with_reducible refine below_a _ ?_ | with_reducible refine Below.drew ?_ | with_reducible refine below_d _ ?_ | (with_reducible refine Below.setCell ?_ (by (show _ ≤ _; repeat (first | exact Nat.le_refl _ | assumption | (omega; done) | with_reducible exact le_past (Nat.le_refl _) | with_reducible refine le_past ?_ | with_reducible refine le_al ?_ | with_reducible refine le_set ?_ | with_reducible refine le_p1 ?_))) _))); done) | (with_reducible rfl; done) | omega | (rfl; done) | (simp; done) | (simp [go_sem]; done) | (simp; omega) | (simp [go_sem]; omega)); done)); (focus ((first | ((repeat (first | assumption | exact Below.refl _ _ | with_reducible refine past_t _ ?_ | with_reducible refine below_a _ ?_ | with_reducible refine Below.drew ?_ | with_reducible refine below_d _ ?_ | (with_reducible refine Below.setCell ?_ (by (show _ ≤ _; repeat (first | exact Nat.le_refl _ | assumption | (omega; done) | with_reducible exact le_past (Nat.le_refl _) | with_reducible refine le_past ?_ | with_reducible refine le_al ?_ | with_reducible refine le_set ?_ | with_reducible refine le_p1 ?_))) _))); done) | (with_reducible rfl; done) | omega | (rfl; done) | (simp; done) | (simp [go_sem]; done) | (simp; omega) | (simp [go_sem]; omega)); done)); intro A1 c1 z1 ho1; (try simp only [List.nil_append, List.length_nil, Nat.zero_add] at ho1 ⊢))) | (go_at_call 23; with_reducible refine Calls.mono (hput _ _ _ (HB.out.keep ?_) ho1.rs) ?_; (focus ((first | ((repeat (first | assumption | exact Below.refl _ _ | with_reducible refine past_t _ ?_ | with_reducible refine below_a _ ?_ | with_reducible refine Below.drew ?_ | with_reducible refine below_d _ ?_ | (with_reducible refine Below.setCell ?_ (by (show _ ≤ _; repeat (first | exact Nat.le_refl _ | assumption | (omega; done) | with_reducible exact le_past (Nat.le_refl _) | with_reducible refine le_past ?_ | with_reducible refine le_al ?_ | with_reducible refine le_set ?_ | with_reducible refine le_p1 ?_))) _))); done) | (with_reducible rfl; done) | omega | (rfl; done) | (simp; done) | (simp [go_sem]; done) | (simp; omega) | (simp [go_sem]; omega)); done)); rintro _ _ ⟨A2, c2, rfl, ho2, hbz⟩; obtain ⟨z, rfl⟩ := ex_past hbz; clear hbz))
  refine wp_gen (fun W hW => ?_)
  have hBW : Below w.heap.size w W := by rw [hW]; (repeat (first | assumption | exact Below.refl _ _ | with_reducible refine past_t _ ?_ | with_reducible refine below_a _ ?_ | with_reducible refine Below.drew ?_ | with_reducible refine below_d _ ?_ | (with_reducible refine Below.setCell ?_ (by (show _ ≤ _; repeat (first | exact Nat.le_refl _ | assumption | (omega; done) | with_reducible exact le_past (Nat.le_refl _) | with_reducible refine le_past ?_ | with_reducible refine le_al ?_ | with_reducible refine le_set ?_ | with_reducible refine le_p1 ?_))) _)))
  have hRa : RS .u8 W A2 (K.length + 7) c2 (putL f K) := by rw [hW]; exact ho2.rs
  have hRb : RS .u8 W (some ⟨b, o, none⟩) (N + 7) c (L.take (N + 7)) := HR2.out.keep hBW
  have ho1' : OwnB w W (.slice A1 K.length c1) K := by
    rw [hW]
    refine (ho1.keep (past_below _ _)).base' ?_
    (repeat (first | assumption | exact Below.refl _ _ | with_reducible refine past_t _ ?_ | with_reducible refine below_a _ ?_ | with_reducible refine Below.drew ?_ | with_reducible refine below_d _ ?_ | (with_reducible refine Below.setCell ?_ (by (show _ ≤ _; repeat (first | exact Nat.le_refl _ | assumption | (omega; done) | with_reducible exact le_past (Nat.le_refl _) | with_reducible refine le_past ?_ | with_reducible refine le_al ?_ | with_reducible refine le_set ?_ | with_reducible refine le_p1 ?_))) _)))
  have HO := Lib.hid ho1'
  have k1 : ∀ x, (convert 22 9 (.slice A2 (K.length + 7) c2)).run Try.prog (past W x) = .ok (.string (strOfNums (putL f K))) (past W x) := fun x => run_conv_rs Try.prog Try.underlying22 Try.underlying5 Try.underlying9 (hRa.keep (past_below _ _))
  have k2 : ∀ x, (convert 22 9 (.slice (some ⟨b, o, none⟩) (N + 7) c)).run Try.prog (past W x) = .ok (.string (strOfNums (L.take (N + 7)))) (past W x) := fun x => run_conv_rs Try.prog Try.underlying22 Try.underlying5 Try.underlying9 (hRb.keep (past_below _ _))
  have d6 := strOfNums_eq hPA hPB
  rw [← HW2.out] at d6
  have hw7 : IntKind.i64.wrap ((N : Int) + 7) = (N : Int) + 7 := IntWalk.i64_in _ (by omega)
  have hp7 : (0 : Int) ≤ (N : Int) + 7 := by omega
  have ht7 : ((N : Int) + 7).toNat = N + 7 := by omega
  have hl7c : (N : Int) + 7 ≤ (c : Int) := by omega
  clear hRa hRb ho1' ho1 ho2 hW hPA hPB hput
  cases hR : sumOk f L with
  | false =>
    have he : gE f L = 14 := by rw [HGE.out, hR]; rfl
    rw [hR] at d6
    have d7 : ((strOfNums (putL f K)).toList != (strOfNums (L.take (N + 7))).toList) = true := by rw [bne, d6]; rfl
    have HE := Lib.hid he
    clear hR he
    (first | refine region_past2 (by kernel_rfl) (by kernel_rfl) ?_ | refine region_past (by kernel_rfl) (by kernel_rfl) ?_)
    repeat (go_big_quiet_step (fail))
    refine wpQuiet_nil ?_; rintro _ ⟨y, rfl⟩
    clear hw7 hp7 ht7 hl7c k1 k2
    go_wp2_with fail
    refine bodyPost_ret (results_tmp3 Try.results27 _ _ _) rfl ?_
    exact .bad HE.out (by omega) rfl (by (repeat (first | assumption | exact Below.refl _ _ | with_reducible refine past_t _ ?_ | with_reducible refine below_a _ ?_ | with_reducible refine Below.drew ?_ | with_reducible refine below_d _ ?_ | (with_reducible refine Below.setCell ?_ (by (show _ ≤ _; repeat (first | exact Nat.le_refl _ | assumption | (omega; done) | with_reducible exact le_past (Nat.le_refl _) | with_reducible refine le_past ?_ | with_reducible refine le_al ?_ | with_reducible refine le_set ?_ | with_reducible refine le_p1 ?_))) _))))
  | true =>
    have he : gE f L = 0 := by rw [HGE.out, hR]; rfl
    rw [hR] at d6
    have d7 : ((strOfNums (putL f K)).toList != (strOfNums (L.take (N + 7))).toList) = false := by rw [bne, d6]; rfl
    have HE := Lib.hid he
    clear hR he
    (first | refine region_past2 (by kernel_rfl) (by kernel_rfl) ?_ | refine region_past (by kernel_rfl) (by kernel_rfl) ?_)
    repeat (go_big_quiet_step (fail))
    refine wpQuiet_nil ?_; rintro _ ⟨y, rfl⟩
    clear hw7 hp7 ht7 hl7c k1 k2
    go_wp2_with fail
    refine bodyPost_ret (results_tmp3 Try.results27 _ _ _) rfl ?_
    refine .ok HE.out HN.out rfl (A := A1) (c := c1) ?_ ?_ (by (repeat (first | assumption | exact Below.refl _ _ | with_reducible refine past_t _ ?_ | with_reducible refine below_a _ ?_ | with_reducible refine Below.drew ?_ | with_reducible refine below_d _ ?_ | (with_reducible refine Below.setCell ?_ (by (show _ ≤ _; repeat (first | exact Nat.le_refl _ | assumption | (omega; done) | with_reducible exact le_past (Nat.le_refl _) | with_reducible refine le_past ?_ | with_reducible refine le_al ?_ | with_reducible refine le_set ?_ | with_reducible refine le_p1 ?_))) _))))
    · show Ending.returned (.tuple #[.slice A1 K.length c1, .int .i64 ((N : Int) + 7), .int .i64 0]) = _
      rw [HKL.out]
    · rw [HK.out]
      have := HO.out.keep (past_below _ y)
      rw [HKL.out] at this
      exact this
end Go.Proofs.Ytlioogkcndahnaa
