/- binnacleref01.quotient, Div, Round. -/
import Derived.Test.YtlhadociaekkhaaQRef3
import Derived.Deep.DeepCutAuto
import Derived.Deep.RegionHeld3
namespace Go.Proofs.Ytlhadociaekkhaa
set_option linter.unusedVariables false
open Go.RowKit
/-- Variables of 128 bits, places that may be written, and all that was there before. -/
structure Inv (w : World) (L : List (Nat × Int)) (S : List (Nat × Nat)) (W : World) : Prop where
  c : ∀ p ∈ L, WC p.1 p.2 W
  s : ∀ p ∈ S, Slot p.1 p.2 W
  B : Below w.heap.size w W
theorem Inv.keep {w : World} {L : List (Nat × Int)} {S : List (Nat × Nat)} {W W' : World} (h : Inv w L S W) (hb : Below W.heap.size W W') : Inv w L S W' :=
  ⟨fun p hp => (h.c p hp).keep hb, fun p hp => (h.s p hp).keep hb, Below.next h.B hb h.B.size⟩
theorem Inv.drew {w : World} {L : List (Nat × Int)} {S : List (Nat × Nat)} {W : World} (h : Inv w L S W) : Inv w L S W.drew := h.keep (Below.draw W)
theorem Inv.one {w : World} {L : List (Nat × Int)} {S : List (Nat × Nat)} {W : World} (h : Inv w L S W) (o : Obj) : Inv w L S (W.alloc o) := h.keep (Below.one W o)
/-- A write to a block that holds none of them. -/
theorem Inv.far2 {w : World} {L : List (Nat × Int)} {S : List (Nat × Nat)} {W : World} (h : Inv w L S W) {E : Nat} (hE : ∀ p ∈ L, E ≠ p.1) (hw : w.heap.size ≤ E) (u v : Value) :
    Inv w L S ((W.setCell ⟨E, 0, none⟩ u).setCell ⟨E, 1, none⟩ v) :=
  ⟨fun p hp => (h.c p hp).far2 (hE p hp) u v, fun p hp => (h.s p hp).set2 u v, Below.set2 h.B hw u v⟩
theorem Inv.lt {w : World} {L : List (Nat × Int)} {S : List (Nat × Nat)} {W : World} (h : Inv w L S W) : ∀ p ∈ L, W.heap.size ≠ p.1 := fun p hp e => by
  have := (h.c p hp).lt; omega
theorem Inv.lts {w : World} {L : List (Nat × Int)} {S : List (Nat × Nat)} {W : World} (h : Inv w L S W) : (∀ p ∈ L, p.1 < W.heap.size) ∧ (∀ p ∈ S, p.1 < W.heap.size) ∧ w.heap.size ≤ W.heap.size :=
  ⟨fun p hp => (h.c p hp).lt, fun p hp => (h.s p hp).lt, h.B.size⟩
theorem Inv.farE {w : World} {L : List (Nat × Int)} {S : List (Nat × Nat)} {W : World} {E : Nat} (h : Inv w L S W) (l : (∀ p ∈ L, p.1 < E) ∧ (∀ p ∈ S, p.1 < E) ∧ w.heap.size ≤ E) (u v : Value) :
    Inv w L S ((W.setCell ⟨E, 0, none⟩ u).setCell ⟨E, 1, none⟩ v) := h.far2 (fun p hp => Nat.ne_of_gt (l.1 p hp)) l.2.2 u v
theorem Inv.setIn2 {w : World} {b c : Nat} {x y : Int} {S : List (Nat × Nat)} {W : World} (h : Inv w [(b, x), (c, y)] S W) (hne : c ≠ b) (hc : WC c y W) (hw : w.heap.size ≤ c) (z : Int) :
    Inv w [(b, x), (c, z)] S ((W.setCell ⟨c, 0, none⟩ (.int .i64 (whi z))).setCell ⟨c, 1, none⟩ (.int .u64 (wlo z))) := by
  refine ⟨?_, fun p hp => (h.s p hp).set2 _ _, Below.set2 h.B hw _ _⟩
  intro p hp
  simp only [List.mem_cons, List.not_mem_nil, or_false] at hp
  rcases hp with rfl | rfl
  · exact (h.c (b, x) (by simp)).far2 hne _ _
  · exact hc.set z
set_option maxHeartbeats 400000 in
theorem rRound_bad (x n : Int) (w : World) (h0 : n < 0 ∨ 127 < n) :
    Calls Try.prog 97 #[WV x, .int .i64 n] w fun e w' => e = .returned (.tuple #[WV 0, .int .i64 2]) ∧ Below w.heap.size w w' := by
  go_enter Try.func97, Try.ntmps97
  go_wp2_with fail
  all_goals exact bodyPost_ret (v := .tuple #[WV 0, .int .i64 2]) (by simp [results, Try.results97, go_sem, whi_0, wlo_0]) rfl ⟨rfl, b2 _ _ _⟩
set_option maxHeartbeats 1000000 in
theorem rRound (x n : Int) (w : World) (hx0 : -170141183460469231731687303715884105728 ≤ x) (hx : x < 170141183460469231731687303715884105728) (h0 : 0 ≤ n) (h1 : n ≤ 127) :
    Calls Try.prog 97 #[WV x, .int .i64 n] w fun e w' => e = .returned (.tuple #[WV (rnd x (2 ^ n.toNat)), .int .i64 0]) ∧ Below w.heap.size w w' := by
  have z1 : 0 ≤ iabs x := by unfold iabs; omega
  have z2 : iabs x ≤ 170141183460469231731687303715884105728 := by unfold iabs; omega
  have nx := Lib.hid (of_neg x hx0 hx)
  have HR : Hid _ := Lib.hid (rest_bd (iabs x) n z1 z2 h0 h1)
  have HP := Lib.hid (pw_pos n.toNat)
  go_enter Try.func97, Try.ntmps97
  go_wp2_with fail
  obtain ⟨P, hP⟩ : ∃ P, P = w.heap.size := ⟨_, rfl⟩
  obtain ⟨W, hW⟩ : ∃ W, W = (((w.alloc (Obj.cells #[.int .i64 (whi x), .int .u64 (wlo x)] 89)).alloc (Obj.cells #[.int .i64 0, .int .u64 0] 89)).alloc (Obj.cells #[.int .i64 0, .int .u64 1] 89)) := ⟨_, rfl⟩
  have one : whi 1 = 0 ∧ wlo 1 = 1 := by unfold whi wlo; omega
  have hI : Inv w [(P, x), (P + 1 + 1, 1)] [(P + 1, 0), (P + 1, 1)] W := by
    rw [hW, hP]
    refine ⟨?_, ?_, b3 _ _ _ _ _ (Nat.le_refl _)⟩
    · intro p hp
      simp only [List.mem_cons, List.not_mem_nil, or_false] at hp
      rcases hp with rfl | rfl
      · exact ⟨by simp [go_sem], by simp [go_sem], by simp [go_sem], by simp [go_sem]⟩
      · exact ⟨by simp [go_sem, one.1], by simp [go_sem, one.2], by simp [go_sem], by simp [go_sem]⟩
    · intro p hp
      simp only [List.mem_cons, List.not_mem_nil, or_false] at hp
      rcases hp with rfl | rfl
      · exact ⟨⟨.int .i64 0, by simp [go_sem]⟩, by simp [go_sem]⟩
      · exact ⟨⟨.int .u64 0, by simp [go_sem]⟩, by simp [go_sem]⟩
  have wP : w.heap.size ≤ P := by omega
  have HO := Lib.hid one
  rw [← hW, ← hP]
  clear hW hP one
  go_loopg [7] n.toNat (fun g i wr => ∃ k : Int, (g : Int) = n - k ∧ 0 ≤ k ∧ k ≤ n ∧ i = .int .i64 k ∧ Inv w [(P, x), (P + 1 + 1, 2 ^ k.toNat)] [(P + 1, 0), (P + 1, 1)] wr)
  case atStart => exact ⟨0, by omega, by omega, h0, rfl, hI⟩
  case round =>
    clear hI
    obtain ⟨k, kg, k0, k1, rfl, hI⟩ := hrel
    by_cases hk : k < n
    · have a1 := (hI.c (P + 1 + 1, 2 ^ k.toNat) (by simp)).hi
      have a2 := (hI.c (P + 1 + 1, 2 ^ k.toNat) (by simp)).lo
      go_wp2_with fail
      refine (rTwice _ _ _).mono ?_
      rintro e w3 ⟨rfl, hb3⟩
      have hJ := hI.keep hb3
      rw [show incr false (2 * 2 ^ k.toNat) = 2 ^ (k + 1).toNat from by rw [show (k + 1).toNat = k.toNat + 1 from by omega, Int.pow_succ]; unfold incr; simp; omega]
      clear a1 a2
      have c1 := hJ.c (P + 1 + 1, 2 ^ k.toNat) (by simp)
      have a1 := c1.hi
      have a2 := c1.lo
      have a3 := c1.f0
      have a4 := c1.f1
      go_wp2_with fail
      go_roundg (n - (k + 1)).toNat
      case measure => omega
      case rel => exact ⟨k + 1, by omega, by omega, by omega, rfl, hJ.setIn2 (by omega) c1 (by omega) _⟩
    · obtain rfl : k = n := by omega
      have rb := HR.out.2.2.1
      have pp := HP.out
      go_wp2_with fail
      go_cut [8] (fun s8 wx => ∃ E : Nat, s8 = .pointer (some ⟨E, 0, none⟩) ∧ P + 1 < E ∧ WC E (rh (iabs x) (2 ^ k.toNat)) wx ∧ Inv w [(P, x), (P + 1 + 1, 2 ^ k.toNat)] [(P + 1, 0), (P + 1, 1)] wx)
      case first =>
        go_region_held3 (fun w' => Inv w [(P, x), (P + 1 + 1, 2 ^ k.toNat)] [(P + 1, 0), (P + 1, 1)] w' ∧ w'.cell? ⟨P, 0, none⟩ = some (.int .i64 (whi x)) ∧ w'.cell? ⟨P, 1, none⟩ = some (.int .u64 (wlo x)) ∧ w'.cell? ⟨P + 1 + 1, 0, none⟩ = some (.int .i64 (whi (2 ^ k.toNat))) ∧ w'.cell? ⟨P + 1 + 1, 1, none⟩ = some (.int .u64 (wlo (2 ^ k.toNat))))
          (first | exact ⟨hI.drew, ((hI.drew).c (P, x) (by simp)).hi, ((hI.drew).c (P, x) (by simp)).lo, ((hI.drew).c (P + 1 + 1, 2 ^ k.toNat) (by simp)).hi, ((hI.drew).c (P + 1 + 1, 2 ^ k.toNat) (by simp)).lo⟩ | exact ⟨hI, ((hI).c (P, x) (by simp)).hi, ((hI).c (P, x) (by simp)).lo, ((hI).c (P + 1 + 1, 2 ^ k.toNat) (by simp)).hi, ((hI).c (P + 1 + 1, 2 ^ k.toNat) (by simp)).lo⟩ | exact ⟨hI.one _, ((hI.one _).c (P, x) (by simp)).hi, ((hI.one _).c (P, x) (by simp)).lo, ((hI.one _).c (P + 1 + 1, 2 ^ k.toNat) (by simp)).hi, ((hI.one _).c (P + 1 + 1, 2 ^ k.toNat) (by simp)).lo⟩ | exact ⟨(hI.one _).drew, (((hI.one _).drew).c (P, x) (by simp)).hi, (((hI.one _).drew).c (P, x) (by simp)).lo, (((hI.one _).drew).c (P + 1 + 1, 2 ^ k.toNat) (by simp)).hi, (((hI.one _).drew).c (P + 1 + 1, 2 ^ k.toNat) (by simp)).lo⟩ | exact ⟨hI.farE lE _ _, ((hI.farE lE _ _).c (P, x) (by simp)).hi, ((hI.farE lE _ _).c (P, x) (by simp)).lo, ((hI.farE lE _ _).c (P + 1 + 1, 2 ^ k.toNat) (by simp)).hi, ((hI.farE lE _ _).c (P + 1 + 1, 2 ^ k.toNat) (by simp)).lo⟩ | (trace_state; sorry))
          (first | (go_at_call 113; refine (rWhole x _ hx0 hx).mono ?_; rintro e w3 ⟨rfl, hbz⟩; (first | (have zF := (WC.new0 _).keep hbz; have lE := hI.lts) | (have zF := ((WC.new0 _).keep (Below.draw _)).keep hbz; have lE := hI.lts) | (have zF := zF.keep hbz) | skip); (first | (have zc1 := zF.hi; have zc2 := zF.lo; have zc3 := zF.f0; have zc4 := zF.f1) | skip); (first | (have hI := hI.keep hbz) | (have hI := hI.drew.keep hbz) | (have hI := (hI.one _).keep hbz) | (have hI := (hI.one _).drew.keep hbz))) | (go_at_call 112; refine (rRounded _ _ _ z1 (by omega) pp rb).mono ?_; rintro e w3 ⟨rfl, hbz⟩; (first | (have zF := (WC.new0 _).keep hbz; have lE := hI.lts) | (have zF := ((WC.new0 _).keep (Below.draw _)).keep hbz; have lE := hI.lts) | (have zF := zF.keep hbz) | skip); (first | (have zc1 := zF.hi; have zc2 := zF.lo; have zc3 := zF.f0; have zc4 := zF.f1) | skip); (first | (have hI := hI.keep hbz) | (have hI := hI.drew.keep hbz) | (have hI := (hI.one _).keep hbz) | (have hI := (hI.one _).drew.keep hbz))))
        all_goals (go_wp2_with fail; go_meet; first | exact ⟨_, rfl, lE.2.1 (P + 1, 0) (by simp), zF.set _, hI.farE lE _ _⟩ | exact ⟨_, rfl, hI.lts.2.1 (P + 1, 0) (by simp), WC.new _ _, hI.one _⟩ | (trace_state; sorry))
      case rest =>
        obtain ⟨E, rfl, hE, cE, hJ⟩ := hcut
        clear hI
        have a1 := (hJ.c (P, x) (by simp)).hi
        have e1 := cE.hi
        have e2 := cE.lo
        obtain ⟨v0, f1⟩ := (hJ.s (P + 1, 0) (by simp)).val
        obtain ⟨v1, f2⟩ := (hJ.s (P + 1, 1) (by simp)).val
        have f3 := (hJ.s (P + 1, 0) (by simp)).fro
        have f4 := (hJ.s (P + 1, 1) (by simp)).fro
        by_cases sx : x < 0
        · have hr : Hid (rnd x (2 ^ k.toNat) = -rh (iabs x) (2 ^ k.toNat)) := by show rnd x _ = _; unfold rnd sgn; simp [sx]
          have sw := nx.out.2 sx
          go_wp2_with fail
          refine (rNeg _ _).mono ?_
          rintro e w5 ⟨rfl, hb5⟩
          have hK := hJ.keep hb5
          clear a1 e1 e2 f1 f2 f3 f4
          obtain ⟨v0, f1⟩ := (hK.s (P + 1, 0) (by simp)).val
          obtain ⟨v1, f2⟩ := (hK.s (P + 1, 1) (by simp)).val
          have f3 := (hK.s (P + 1, 0) (by simp)).fro
          have f4 := (hK.s (P + 1, 1) (by simp)).fro
          go_wp2_with fail
          exact bodyPost_ret (v := .tuple #[WV (-rh (iabs x) (2 ^ k.toNat)), .int .i64 0]) (by simp [results, Try.results97, go_sem, f1, f2]) rfl ⟨by rw [hr.out], Below.set2 hK.B (by omega) _ _⟩
        · have hr : Hid (rnd x (2 ^ k.toNat) = rh (iabs x) (2 ^ k.toNat)) := by show rnd x _ = _; unfold rnd sgn; simp [sx]
          have sw : ¬ whi x < 0 := fun q => sx (nx.out.1 q)
          go_wp2_with fail
          exact bodyPost_ret (v := .tuple #[WV (rh (iabs x) (2 ^ k.toNat)), .int .i64 0]) (by simp [results, Try.results97, go_sem, f1, f2]) rfl ⟨by rw [hr.out], Below.set2 hJ.B (by omega) _ _⟩
end Go.Proofs.Ytlhadociaekkhaa
