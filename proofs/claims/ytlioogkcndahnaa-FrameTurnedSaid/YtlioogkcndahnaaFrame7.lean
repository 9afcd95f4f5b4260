/- Frames are got. -/
import Derived.Test.YtlioogkcndahnaaFrame6
namespace Go.Proofs.Ytlioogkcndahnaa
set_option linter.unusedVariables false
set_option maxRecDepth 100000
open Go.RowKit
def gN (L : List Int) : Nat := (L.getD 1 0 * 256 + L.getD 2 0).toNat
/-- Is the sum of the frame that bytes begin with another one? -/
def sumOk (f : Nat → Nat) (L : List Int) : Bool := decide (tailI (sumv f (nn ((L.drop 1).take (gN L + 2)))) = (L.drop (gN L + 3)).take 4)
/-- What is told of bytes. -/
def gE (f : Nat → Nat) (L : List Int) : Int :=
  if L.length = 0 then 15 else if L.getD 0 0 ≠ 126 then 5 else if L.length < 3 then 15 else if gN L = 0 ∨ 1000 < gN L then 5 else if L.length < gN L + 7 then 15 else if sumOk f L = true then 0 else 14
def body (L : List Int) : List Int := (L.drop 3).take (gN L)
theorem gBad (e : Int) (w : World) : Calls Try.prog 48 #[.int .i64 e] w fun e' w' => e' = .returned (.tuple #[.slice none 0 0, .int .i64 0, .int .i64 e]) ∧ Below w.heap.size w w' := by
  go_enter Try.func48, Try.ntmps48
  go_wp2_with fail
  refine bodyPost_ret (results_tmp3 Try.results48 _ _ _) rfl ?_
  exact ⟨rfl, Below.refl _ _⟩
theorem or_bytes {a b : Int} (ha : 0 ≤ a) (ha' : a < 256) (hb : 0 ≤ b) (hb' : b < 256) : bits .or .i64 (a * 256) b = a * 256 + b := by
  obtain ⟨x, rfl⟩ : ∃ x : Nat, a = x := ⟨a.toNat, by omega⟩
  obtain ⟨y, rfl⟩ : ∃ y : Nat, b = y := ⟨b.toNat, by omega⟩
  have e : ((x : Int) * 256) = ((256 * x : Nat) : Int) := by omega
  have ho : 256 * x ||| y = 256 * x + y := (Nat.two_pow_add_eq_or_of_lt (i := 8) (by omega) x).symm
  have o1 : ∀ n : Nat, n < 9223372036854775808 → (BitVec.ofInt 64 (n : Int)).toNat = n := fun n hn => by
    rw [BitVec.ofInt_natCast, BitVec.toNat_ofNat]; exact Nat.mod_eq_of_lt (by omega)
  rw [e]
  show IntKind.i64.wrap ((BitVec.ofInt 64 ((256 * x : Nat) : Int) ||| BitVec.ofInt 64 (y : Int)).toNat : Int) = _
  rw [BitVec.toNat_or, o1 _ (by omega), o1 _ (by omega), ho, IntKind.wrap_i64]
  omega
def GetPost (f : Nat → Nat) (L : List Int) (w : World) (e : Ending) (w' : World) : Prop :=
  (gE f L ≠ 0 → e = .returned (.tuple #[.slice none 0 0, .int .i64 0, .int .i64 (gE f L)]) ∧ Below w.heap.size w w') ∧
  (gE f L = 0 → ∃ A c, e = .returned (.tuple #[.slice A (gN L) c, .int .i64 ((gN L : Int) + 7), .int .i64 0]) ∧ OwnB w w' (.slice A (gN L) c) (body L) ∧ Below w.heap.size w w')
theorem GetPost.bad {f : Nat → Nat} {L : List Int} {w w' : World} {e : Ending} {x : Int} (h : gE f L = x) (hx : x ≠ 0) (he : e = .returned (.tuple #[.slice none 0 0, .int .i64 0, .int .i64 x])) (hb : Below w.heap.size w w') : GetPost f L w e w' := by
  unfold GetPost
  rw [h]
  exact ⟨fun _ => ⟨he, hb⟩, fun h0 => absurd h0 hx⟩
theorem GetPost.ok {f : Nat → Nat} {L : List Int} {w w' : World} {e : Ending} {A : Option Addr} {c N : Nat} {K : List Int} (h : gE f L = 0) (hN : gN L = N) (hK : K = (L.drop 3).take N) (he : e = .returned (.tuple #[.slice A N c, .int .i64 ((N : Int) + 7), .int .i64 0]))
    (ho : OwnB w w' (.slice A N c) K) (hb : Below w.heap.size w w') : GetPost f L w e w' := by
  unfold GetPost body
  rw [h, hN]
  subst hK
  exact ⟨fun h => absurd rfl h, fun _ => ⟨A, c, he, ho, hb⟩⟩
theorem OwnK.base' {V U w : World} {E : TypeId} {k : IntKind} {x : Value} {zs : List Int} (h : OwnK V w E k x zs) (hV : Below U.heap.size U V) : OwnK U w E k x zs := h.base hV.size
theorem fGetNil (v : Value) (w : World) : Calls Try.prog 26 #[.pointer none, v] w fun e w' => e = .returned (.tuple #[.slice none 0 0, .int .i64 0, .int .i64 2]) ∧ Below w.heap.size w w' := by
  go_enter Try.func26, Try.ntmps26
  go_wp2_with ((go_at_call 48; first | (with_reducible refine Calls_past2 (gBad _ _) (fun z => ?_)) | (with_reducible refine Calls_past (gBad _ _) (fun z => ?_))))
  refine bodyPost_ret (results_tmp3 Try.results26 _ _ _) rfl ?_
  exact ⟨rfl, past_below _ _⟩
set_option maxHeartbeats 8000000 in
theorem fGet {g : Nat} {T : TypeId} {f : Nat → Nat} {A : Option Addr} {n c : Nat} {L : List Int} {w : World} (hb : Blk w g T (tabC f)) (hf : F32 f) (hr : RS .u8 w A n c L) (hL : AllB L) :
    Calls Try.prog 26 #[.pointer (some ⟨g, 0, none⟩), .slice A n c] w (GetPost f L w) := by
  obtain rfl := hr.len
  have hcap := hr.cap
  have htop := hr.top
  by_cases h0 : L.length = 0
  · have e : gE f L = 15 := by unfold gE; rw [if_pos h0]
    have d1 : (((L.length : Nat) : Int) == 0) = true := by simpa using h0
    have HE := Lib.hid e
    clear e h0 hr hb hL
    go_enter Try.func26, Try.ntmps26
    go_wp2_with ((go_at_call 48; first | (with_reducible refine Calls_past2 (gBad _ _) (fun z => ?_)) | (with_reducible refine Calls_past (gBad _ _) (fun z => ?_))))
    refine bodyPost_ret (results_tmp3 Try.results26 _ _ _) rfl ?_
    exact .bad HE.out (by omega) rfl (past_below _ _)
  have d1 : (((L.length : Nat) : Int) == 0) = false := beq_eq_false_iff_ne.2 (by omega)
  have hlen0 : 0 < L.length := by omega
  have hll : L.length ≤ 9223372036854775807 := by omega
  have hr0 := hr
  obtain ⟨b, o, rfl, hbw, hrow⟩ := hr.at_ (by omega)
  have hc0 := hrow 0 hlen0
  have hb0 := hL.get 0 hlen0
  rw [Nat.add_zero] at hc0
  have HR := Lib.hid hr
  have HB := Lib.hid hb
  have HW := Lib.hid hrow
  clear hr hb hrow hr0
  by_cases h1 : L.getD 0 0 = 126
  case neg =>
    have e : gE f L = 5 := by unfold gE; rw [if_neg h0, if_pos h1]
    have d2 : (L.getD 0 0 != 126) = true := by simpa using h1
    obtain ⟨x0, hx0⟩ : ∃ x, L.getD 0 0 = x := ⟨_, rfl⟩
    rw [hx0] at d2 hc0 hb0
    have HE := Lib.hid e
    clear e h0 h1 hL hx0
    go_enter Try.func26, Try.ntmps26
    go_wp2_with ((go_at_call 48; first | (with_reducible refine Calls_past2 (gBad _ _) (fun z => ?_)) | (with_reducible refine Calls_past (gBad _ _) (fun z => ?_))))
    refine bodyPost_ret (results_tmp3 Try.results26 _ _ _) rfl ?_
    exact .bad HE.out (by omega) rfl (past_below _ _)
  rw [h1] at hc0
  clear hb0
  by_cases h2 : L.length < 3
  · have e : gE f L = 15 := by unfold gE; rw [if_neg h0, if_neg (by simpa using h1), if_pos h2]
    have d2 : decide ((L.length : Int) < 3) = true := by simp; omega
    have HE := Lib.hid e
    clear e h0 h1 hL
    go_enter Try.func26, Try.ntmps26
    go_wp2_with ((go_at_call 48; first | (with_reducible refine Calls_past2 (gBad _ _) (fun z => ?_)) | (with_reducible refine Calls_past (gBad _ _) (fun z => ?_))))
    refine bodyPost_ret (results_tmp3 Try.results26 _ _ _) rfl ?_
    exact .bad HE.out (by omega) rfl (past_below _ _)
  have d2 : decide ((L.length : Int) < 3) = false := by simp; omega
  have hc1 := HW.out 1 (by omega)
  have hc2 := HW.out 2 (by omega)
  have hb1 := hL.get 1 (by omega)
  have hb2 := hL.get 2 (by omega)
  have hgN : gN L = (L.getD 1 0 * 256 + L.getD 2 0).toNat := rfl
  obtain ⟨x1, hx1⟩ : ∃ x, L.getD 1 0 = x := ⟨_, rfl⟩
  obtain ⟨x2, hx2⟩ : ∃ x, L.getD 2 0 = x := ⟨_, rfl⟩
  obtain ⟨N, hN⟩ : ∃ N, gN L = N := ⟨_, rfl⟩
  rw [hx1] at hc1 hb1 hgN
  rw [hx2] at hc2 hb2 hgN
  rw [hN] at hgN
  have HN := Lib.hid hN
  have HG := Lib.hid hgN
  obtain ⟨l1, u1⟩ := hb1
  obtain ⟨l2, u2⟩ := hb2
  have j1 : (1 : Int) < (L.length : Int) := by omega
  have j2 : (2 : Int) < (L.length : Int) := by omega
  have hor : bits .or .i64 (x1 * 256) x2 = (N : Int) := by rw [or_bytes l1 (by omega) l2 (by omega)]; omega
  clear hN hgN hx1 hx2
  by_cases h3 : N = 0 ∨ 1000 < N
  · have e : gE f L = 5 := by unfold gE; rw [if_neg h0, if_neg (by simpa using h1), if_neg h2, if_pos (by rw [HN.out]; exact h3)]
    have HE := Lib.hid e
    clear e h0 h1 h2 hL
    rcases h3 with h3 | h3
    · have d3 : ((N : Int) == 0) = true := by simpa using h3
      clear h3 HG
      go_enter Try.func26, Try.ntmps26
      go_wp2_with ((go_at_call 48; first | (with_reducible refine Calls_past2 (gBad _ _) (fun z => ?_)) | (with_reducible refine Calls_past (gBad _ _) (fun z => ?_))))
      (first | refine region_past2 (by kernel_rfl) (by kernel_rfl) ?_ | refine region_past (by kernel_rfl) (by kernel_rfl) ?_)
      repeat (go_big_quiet_step (fail))
      refine wpQuiet_nil ?_; rintro _ ⟨y, rfl⟩
      clear hor
      go_wp2_with ((go_at_call 48; first | (with_reducible refine Calls_past2 (gBad _ _) (fun z => ?_)) | (with_reducible refine Calls_past (gBad _ _) (fun z => ?_))))
      refine bodyPost_ret (results_tmp3 Try.results26 _ _ _) rfl ?_
      exact .bad HE.out (by omega) rfl (past_below _ _)
    · have d3 : ((N : Int) == 0) = false := beq_eq_false_iff_ne.2 (by omega)
      have d4 : decide ((1000 : Int) < (N : Int)) = true := by simp; omega
      clear h3 HG
      go_enter Try.func26, Try.ntmps26
      go_wp2_with ((go_at_call 48; first | (with_reducible refine Calls_past2 (gBad _ _) (fun z => ?_)) | (with_reducible refine Calls_past (gBad _ _) (fun z => ?_))))
      (first | refine region_past2 (by kernel_rfl) (by kernel_rfl) ?_ | refine region_past (by kernel_rfl) (by kernel_rfl) ?_)
      repeat (go_big_quiet_step (fail))
      refine wpQuiet_nil ?_; rintro _ ⟨y, rfl⟩
      clear hor
      go_wp2_with ((go_at_call 48; first | (with_reducible refine Calls_past2 (gBad _ _) (fun z => ?_)) | (with_reducible refine Calls_past (gBad _ _) (fun z => ?_))))
      refine bodyPost_ret (results_tmp3 Try.results26 _ _ _) rfl ?_
      exact .bad HE.out (by omega) rfl (past_below _ _)
  have hN0 : 0 < N := by omega
  have hN1 : N ≤ 1000 := by omega
  have d3 : ((N : Int) == 0) = false := beq_eq_false_iff_ne.2 (by omega)
  have d4 : decide ((1000 : Int) < (N : Int)) = false := by simp; omega
  by_cases h4 : L.length < N + 7
  · have e : gE f L = 15 := by unfold gE; rw [if_neg h0, if_neg (by simpa using h1), if_neg h2, if_neg (by rw [HN.out]; exact h3), if_pos (by rw [HN.out]; exact h4)]
    have d5 : decide ((L.length : Int) < (N : Int) + 7) = true := by simp; omega
    have HE := Lib.hid e
    clear e h0 h1 h2 hL h3 h4 HG
    go_enter Try.func26, Try.ntmps26
    go_wp2_with ((go_at_call 48; first | (with_reducible refine Calls_past2 (gBad _ _) (fun z => ?_)) | (with_reducible refine Calls_past (gBad _ _) (fun z => ?_))))
    (first | refine region_past2 (by kernel_rfl) (by kernel_rfl) ?_ | refine region_past (by kernel_rfl) (by kernel_rfl) ?_)
    repeat (go_big_quiet_step (fail))
    refine wpQuiet_nil ?_; rintro _ ⟨y, rfl⟩
    clear hor
    go_wp2_with ((go_at_call 48; first | (with_reducible refine Calls_past2 (gBad _ _) (fun z => ?_)) | (with_reducible refine Calls_past (gBad _ _) (fun z => ?_))))
    refine bodyPost_ret (results_tmp3 Try.results26 _ _ _) rfl ?_
    exact .bad HE.out (by omega) rfl (past_below _ _)
  have d5 : decide ((L.length : Int) < (N : Int) + 7) = false := by simp; omega
  have hgE : gE f L = if sumOk f L = true then 0 else 14 := by unfold gE; rw [if_neg h0, if_neg (by simpa using h1), if_neg h2, if_neg (by rw [HN.out]; exact h3), if_neg (by rw [HN.out]; exact h4)]
  have hsl : AllB ((L.drop 1).take (N + 2)) := fun x hx => hL x (List.mem_of_mem_drop (List.mem_of_mem_take hx))
  have hlt := sumv_lt hf hsl
  have r1 := HR.out.cut 1 (N + 3) (by omega) (by omega)
  have r2 := HR.out.cut (N + 3) (N + 7) (by omega) (by omega)
  have r3 := HR.out.cut 3 (N + 3) (by omega) (by omega)
  rw [show N + 3 - 1 = N + 2 by omega] at r1
  rw [show N + 7 - (N + 3) = 4 by omega] at r2
  rw [show N + 3 - 3 = N by omega] at r3
  obtain ⟨S, hS⟩ : ∃ S, sumv f (nn ((L.drop 1).take (N + 2))) = S := ⟨_, rfl⟩
  have hsum : ∀ W, Below w.heap.size w W → Calls Try.prog 17 #[.pointer (some ⟨g, 0, none⟩), .slice (some ⟨b, o + 1, none⟩) (N + 2) (c - 1)] W fun e w' => e = .returned (.int .u32 (S : Int)) ∧ Below W.heap.size W w' := by
    intro W k
    have := fSum (HB.out.keep k) hf (r1.keep k) hsl
    rwa [hS] at this
  have hsk : sumOk f L = decide (tailI S = (L.drop (N + 3)).take 4) := by unfold sumOk; rw [HN.out, hS]
  rw [hS] at hlt
  have HR2 := Lib.hid r2
  have HR3 := Lib.hid r3
  have HSK := Lib.hid hsk
  have HGE := Lib.hid hgE
  have nc1 : ¬ c = 1 := by omega
  have nc3 : ¬ c = 3 := by omega
  have nc2 : ¬ c = N + 3 := by omega
  clear h0 h1 h2 h3 hL r1 r2 r3 hS hsk hgE HG hsl
  go_enter Try.func26, Try.ntmps26
  go_wp2_with ((go_at_call 48; first | (with_reducible refine Calls_past2 (gBad _ _) (fun z => ?_)) | (with_reducible refine Calls_past (gBad _ _) (fun z => ?_))))
  (first | refine region_past2 (by kernel_rfl) (by kernel_rfl) ?_ | refine region_past (by kernel_rfl) (by kernel_rfl) ?_)
  repeat (go_big_quiet_step (fail))
  refine wpQuiet_nil ?_; rintro _ ⟨y, rfl⟩
  clear hor
  go_wp2_with (first | (go_at_call 48; first | (with_reducible refine Calls_past2 (gBad _ _) (fun z => ?_)) | (with_reducible refine Calls_past (gBad _ _) (fun z => ?_))) | (go_at_call 17; with_reducible refine Calls_past (hsum _ ?_) (fun z => ?_); (focus ((first | ((repeat (first | assumption | exact Below.refl _ _ | with_reducible refine past_t _ ?_ | with_reducible refine below_a _ ?_ | with_reducible refine Below.drew ?_ | with_reducible refine below_d _ ?_ | (with_reducible refine Below.setCell ?_ (by (show _ ≤ _; repeat (first | exact Nat.le_refl _ | assumption | (omega; done) | with_reducible exact le_past (Nat.le_refl _) | with_reducible refine le_past ?_ | with_reducible refine le_al ?_ | with_reducible refine le_set ?_ | with_reducible refine le_p1 ?_))) _))); done) | (with_reducible rfl; done) | omega | (rfl; done) | (simp; done) | (simp [go_sem]; done) | (simp; omega) | (simp [go_sem]; omega)); done))) | (go_at_call 47; with_reducible refine Calls_past (fTail4 S hlt _) (fun z => ?_)))
  have hw3 : IntKind.i64.wrap ((N : Int) + 3) = (N : Int) + 3 := IntWalk.i64_in _ (by omega)
  have hw7 : IntKind.i64.wrap ((N : Int) + 7) = (N : Int) + 7 := IntWalk.i64_in _ (by omega)
  have hp3 : (0 : Int) ≤ (N : Int) + 3 := by omega
  have hp7 : (0 : Int) ≤ (N : Int) + 7 := by omega
  have ht3 : ((N : Int) + 3).toNat = N + 3 := by omega
  have ht7 : ((N : Int) + 7).toNat = N + 7 := by omega
  have hl37 : (N : Int) + 3 ≤ (N : Int) + 7 := by omega
  have hl7c : (N : Int) + 7 ≤ (c : Int) := by omega
  have e47 : N + 7 - (N + 3) = 4 := by omega
  (first | refine region_past2 (by kernel_rfl) (by kernel_rfl) ?_ | refine region_past (by kernel_rfl) (by kernel_rfl) ?_)
  repeat (go_big_quiet_step ((go_at_call 49; with_reducible refine Calls_pastq (kEqual (L := tailI S) (K := (L.drop (N + 3)).take 4) ?_ ?_ (by omega)); (focus (refine RS.keep (RS.lit .u8 _ (tailI S) _ _ rfl 4 rfl (by omega) 4 rfl _ ?_) (past_below _ _); (simp [go_sem]; done))); (focus (refine HR2.out.keep ?_; (repeat (first | assumption | exact Below.refl _ _ | with_reducible refine past_t _ ?_ | with_reducible refine below_a _ ?_ | with_reducible refine Below.drew ?_ | with_reducible refine below_d _ ?_ | (with_reducible refine Below.setCell ?_ (by (show _ ≤ _; repeat (first | exact Nat.le_refl _ | assumption | (omega; done) | with_reducible exact le_past (Nat.le_refl _) | with_reducible refine le_past ?_ | with_reducible refine le_al ?_ | with_reducible refine le_set ?_ | with_reducible refine le_p1 ?_))) _))); done)))))
  refine wpQuiet_nil ?_; rintro _ ⟨y, rfl⟩
  clear hw3 hw7 hp3 hp7 ht3 ht7 hl37 hl7c e47
  cases hR : decide (tailI S = (L.drop (N + 3)).take 4) with
  | false =>
    have he : gE f L = 14 := by rw [HGE.out, HSK.out, hR]; rfl
    have HE := Lib.hid he
    clear hR he
    go_wp2_with ((go_at_call 48; first | (with_reducible refine Calls_past2 (gBad _ _) (fun z => ?_)) | (with_reducible refine Calls_past (gBad _ _) (fun z => ?_))))
    refine bodyPost_ret (results_tmp3 Try.results26 _ _ _) rfl ?_
    exact .bad HE.out (by omega) rfl (by (repeat (first | assumption | exact Below.refl _ _ | with_reducible refine past_t _ ?_ | with_reducible refine below_a _ ?_ | with_reducible refine Below.drew ?_ | with_reducible refine below_d _ ?_ | (with_reducible refine Below.setCell ?_ (by (show _ ≤ _; repeat (first | exact Nat.le_refl _ | assumption | (omega; done) | with_reducible exact le_past (Nat.le_refl _) | with_reducible refine le_past ?_ | with_reducible refine le_al ?_ | with_reducible refine le_set ?_ | with_reducible refine le_p1 ?_))) _))))
  | true =>
    have he : gE f L = 0 := by rw [HGE.out, HSK.out, hR]; rfl
    have hbl : ((L.drop 3).take N).length = N := by simp; omega
    have HBL := Lib.hid hbl
    have HE := Lib.hid he
    clear hR he hbl
    go_wp2_with ((go_at_call 50; with_reducible refine Calls.mono (kClone (L := (L.drop 3).take N) (HR3.out.keep ?_) hN0 (by rw [HBL.out]; omega)) ?_; (focus ((first | ((repeat (first | assumption | exact Below.refl _ _ | with_reducible refine past_t _ ?_ | with_reducible refine below_a _ ?_ | with_reducible refine Below.drew ?_ | with_reducible refine below_d _ ?_ | (with_reducible refine Below.setCell ?_ (by (show _ ≤ _; repeat (first | exact Nat.le_refl _ | assumption | (omega; done) | with_reducible exact le_past (Nat.le_refl _) | with_reducible refine le_past ?_ | with_reducible refine le_al ?_ | with_reducible refine le_set ?_ | with_reducible refine le_p1 ?_))) _))); done) | (with_reducible rfl; done) | omega | (rfl; done) | (simp; done) | (simp [go_sem]; done) | (simp; omega) | (simp [go_sem]; omega)); done)); rintro _ _ ⟨A1, c1, rfl, ho1, hbz⟩; obtain ⟨z, rfl⟩ := ex_past hbz; clear hbz))
    refine bodyPost_ret (results_tmp3 Try.results26 _ _ _) rfl ?_
    refine .ok HE.out HN.out rfl (A := A1) (c := c1) ?_ ?_ (by (repeat (first | assumption | exact Below.refl _ _ | with_reducible refine past_t _ ?_ | with_reducible refine below_a _ ?_ | with_reducible refine Below.drew ?_ | with_reducible refine below_d _ ?_ | (with_reducible refine Below.setCell ?_ (by (show _ ≤ _; repeat (first | exact Nat.le_refl _ | assumption | (omega; done) | with_reducible exact le_past (Nat.le_refl _) | with_reducible refine le_past ?_ | with_reducible refine le_al ?_ | with_reducible refine le_set ?_ | with_reducible refine le_p1 ?_))) _))))
    · have emin : min N (L.length - 3) = N := by omega
      show Ending.returned (.tuple #[.slice A1 (min N (L.length - 3)) c1, .int .i64 ((N : Int) + 7), .int .i64 0]) = _
      rw [emin]
    · rw [HBL.out] at ho1
      refine ho1.base' ?_
      (repeat (first | assumption | exact Below.refl _ _ | with_reducible refine past_t _ ?_ | with_reducible refine below_a _ ?_ | with_reducible refine Below.drew ?_ | with_reducible refine below_d _ ?_ | (with_reducible refine Below.setCell ?_ (by (show _ ≤ _; repeat (first | exact Nat.le_refl _ | assumption | (omega; done) | with_reducible exact le_past (Nat.le_refl _) | with_reducible refine le_past ?_ | with_reducible refine le_al ?_ | with_reducible refine le_set ?_ | with_reducible refine le_p1 ?_))) _)))
end Go.Proofs.Ytlioogkcndahnaa
