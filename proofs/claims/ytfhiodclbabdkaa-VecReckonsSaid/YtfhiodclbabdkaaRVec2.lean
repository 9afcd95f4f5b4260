/- The document's products and farthest; lists of any lengths; both units as one. -/
import Derived.Test.YtfhiodclbabdkaaRVec
import Derived.Test.YtfhiodclbabdkaaVec4
import Derived.Test.YtfhiodclbabdkaaVec5
import Derived.Test.YtfhiodclbabdkaaOver
import Derived.Test.YtfhiodclbabdkaaRows1
namespace Go.Proofs.Ytfhiodclbabdkaa
set_option linter.unusedVariables false
set_option maxRecDepth 100000
open Go.RowKit
set_option maxHeartbeats 4000000 in
theorem r6Most {B : Nat} {i : Bool} {c : Int} {w : World} (h : RA B i c w) (v : Value) (a : List Int) (ha : AllI a) (hv : SL w B v a) (hc : 0 ≤ c ∧ c + a.length ≤ 4611686018427387904) :
    Calls Try.prog 34 #[UP B, v] w fun e w' => e = .returned (.tuple #[.int .i64 (mostR i c a a.length).1, .int .i64 0]) ∧
      Below (put B (mostR i c a a.length).2.1 (mostR i c a a.length).2.2 w).heap.size (put B (mostR i c a a.length).2.1 (mostR i c a a.length).2.2 w) w' := by
  obtain ⟨A1, cp1, rfl, hl1, hr1⟩ := hv
  by_cases hz0 : a.length = 0
  · rw [hz0]
    have e0 : mostR i c a 0 = (0, i, c) := rfl
    rw [e0]
    simp only []
    rw [rput_self h]
    clear h e0 ha hr1 hz0 hl1 hc
    go_enter Try.func34, Try.ntmps34
    go_wp2_with fail
    go_loopg [6, 7, 8] 1 (fun g s6 s7 s8 wr => s6 = .int .i64 0 ∧ s7 = .int .i64 0 ∧ ∃ z, wr = past w z)
    case atStart => exact ⟨rfl, rfl, _, past_of (Below.refl _ _)⟩
    case round =>
      obtain ⟨rfl, rfl, z, rfl⟩ := hrel
      go_wp2_with fail
      go_ret2
      exact ⟨rfl, past_below _ _⟩
  obtain ⟨b1, o1, rfl, hb1, hw1, hc1⟩ := hr1 (by omega)
  have hBw := h.lt
  have H := Lib.hid h
  have HR1 := Lib.hid hc1
  have HA := Lib.hid ha
  have HC := Lib.hid hc
  have hst := ra_start h
  have HS := Lib.hid hst
  clear h hc1 hr1 ha hc hst
  go_enter Try.func34, Try.ntmps34
  go_wp2_with fail
  go_loopg [6, 7, 8] a.length (fun g s6 s7 s8 wr => ∃ k : Nat, k ≤ a.length ∧ a.length ≤ g + k ∧ s7 = .int .i64 k ∧ s6 = .int .i64 (mostR i c a k).1 ∧ ∃ z, wr = past (put B (mostR i c a k).2.1 (mostR i c a k).2.2 w) z)
  case atStart =>
    refine ⟨0, by omega, by omega, rfl, rfl, w, ?_⟩
    have e0 : mostR i c a 0 = (0, i, c) := rfl
    rw [e0]
    exact HS.out
  case round =>
    obtain ⟨k, hk, hg, rfl, rfl, z, rfl⟩ := hrel
    have hcn := mostR_cnt i c a k
    have hin := mostR_in i c HA.out k hk
    by_cases hlt : k < a.length
    · have hnx : mostR i c a (k + 1) = if a.getD k 0 < 0 then (max (mostR i c a k).1 (opSub 0 (a.getD k 0)).1, (mostR i c a k).2.1 || (opSub 0 (a.getD k 0)).2, (mostR i c a k).2.2 + 1) else (max (mostR i c a k).1 (a.getD k 0), (mostR i c a k).2.1, (mostR i c a k).2.2) := rfl
      have hx := HA.out.get hlt
      have hcx := HR1.out k hlt
      obtain ⟨P, hP⟩ : ∃ P, mostR i c a k = P := ⟨_, rfl⟩
      obtain ⟨m, f, cc⟩ := P
      obtain ⟨x, hxx⟩ : ∃ x, a.getD k 0 = x := ⟨_, rfl⟩
      simp only [hP, hxx] at hnx hcn hin hx hcx ⊢
      by_cases hneg : x < 0
      · rw [if_pos hneg] at hnx
        have hs := fun (z : World) => r4Sub (ra_past H.out f cc z) (by have := HC.out; omega) 0 x ⟨by omega, by omega⟩ hx
        have hq2 := opSub_in 0 x
        obtain ⟨q, hq⟩ : ∃ q, opSub 0 x = q := ⟨_, rfl⟩
        simp only [hq] at hs hnx hq2
        obtain ⟨q1, q2⟩ := q
        simp only at hs hnx hq2
        have HX := Lib.hid hnx
        clear hP hxx hnx hq
        go_wp2_with (first | (go_at_call 73; with_reducible refine Calls_put (hs _) (fun z => ?_)))
        go_roundg (a.length - (k + 1))
        case measure => omega
        case rel => exact ⟨k + 1, by omega, by omega, by go_num, by rw [HX.out], z, by rw [HX.out]⟩
      · rw [if_neg hneg] at hnx
        have HX := Lib.hid hnx
        clear hP hxx hnx
        go_wp2_with fail
        go_roundg (a.length - (k + 1))
        case measure => omega
        case rel => exact ⟨k + 1, by omega, by omega, by go_num, by rw [HX.out], z, by rw [HX.out]⟩
    · obtain rfl : k = a.length := by omega
      go_wp2_with fail
      go_ret2
      exact ⟨rfl, past_below _ _⟩
theorem r6Dot {B : Nat} {i : Bool} {c : Int} {w : World} (h : RA B i c w) (v1 v2 : Value) (a b : List Int) (ha : AllI a) (hb : AllI b) (h1 : SL w B v1 a) (h2 : SL w B v2 b) (hlen : a.length = b.length) (hc : 0 ≤ c ∧ c + 2 * a.length ≤ 4611686018427387904) :
    Calls Try.prog 33 #[UP B, v1, v2] w fun e w' => e = .returned (.tuple #[.int .i64 (runD (0, i) a b a.length).1, .int .i64 0]) ∧
      Below (put B (runD (0, i) a b a.length).2 (c + 2 * a.length) w).heap.size (put B (runD (0, i) a b a.length).2 (c + 2 * a.length) w) w' := by
  have hd := r4Dot h v1 v2 a b ha hb h1 h2 hlen hc
  clear h h1 h2 hlen hc ha hb
  go_enter Try.func33, Try.ntmps33
  go_wp2_with (first | (go_at_call 75; with_reducible refine Calls_to (hd) (fun z => ?_)))
  go_ret2
  exact ⟨rfl, past_below _ _⟩
theorem r6DotNo (v : Value) (A1 A2 : Option Addr) (n m c1 c2 : Nat) (hne : n ≠ m) (h1 : n ≤ 4611686018427387904) (h2 : m ≤ 4611686018427387904) (w : World) :
    Calls Try.prog 33 #[v, .slice A1 n c1, .slice A2 m c2] w fun e w' => e = .returned (.tuple #[.int .i64 0, .int .i64 3]) ∧ Below w.heap.size w w' := by
  have hd := r4DotNo v A1 A2 n m c1 c2 hne h1 h2
  clear hne
  go_enter Try.func33, Try.ntmps33
  go_wp2_with (first | (go_at_call 75; with_reducible refine Calls_past (hd _) (fun z => ?_)))
  go_ret2
  exact ⟨rfl, past_below _ _⟩
theorem vDotNo {B : Nat} {i : Bool} {c : Int} {w : World} (h : UA B i c w) (A1 A2 : Option Addr) (n m c1 c2 : Nat) (hne : n ≠ m) (h1 : n ≤ 4611686018427387904) (h2 : m ≤ 4611686018427387904) :
    Calls Try.prog 19 #[UP B, .slice A1 n c1, .slice A2 m c2] w fun e w' => e = .returned (.tuple #[.int .i64 0, .int .i64 3]) ∧ Below w.heap.size w w' := by
  have hd := uDotNo h A1 A2 n m c1 c2 hne h1 h2
  clear hne h
  go_enter Try.func19, Try.ntmps19
  go_wp2_with (first | (go_at_call 65; with_reducible refine Calls_past (hd) (fun z => ?_)))
  go_ret2
  exact ⟨rfl, past_below _ _⟩
theorem vLessNo {B : Nat} {i : Bool} {c : Int} {w : World} (h : UA B i c w) (hc : 0 ≤ c ∧ c ≤ 4611686018427387904) (A1 A2 : Option Addr) (n m c1 c2 : Nat) (hne : n ≠ m) (h1 : n ≤ 4611686018427387904) (h2 : m ≤ 4611686018427387904) :
    Calls Try.prog 23 #[UP B, .slice A1 n c1, .slice A2 m c2] w fun e w' => e = .returned (.tuple #[.slice none 0 0, .int .i64 3]) ∧ Below w.heap.size w w' := by
  have hp := fun (W : World) (k : Below w.heap.size w W) => vPairsNoLess (h.keep k) hc A1 A2 n m c1 c2 hne h1 h2
  clear h hne
  go_enter Try.func23, Try.ntmps23
  go_wp2_with ((go_at_call 63; with_reducible refine Calls_past (hp _ ?_) (fun z => ?_); (focus ((first | ((repeat (first | assumption | exact Below.refl _ _ | with_reducible refine past_t _ ?_ | with_reducible refine below_a _ ?_ | with_reducible refine Below.drew ?_ | with_reducible refine below_d _ ?_ | (with_reducible refine Below.setCell ?_ (by (show _ ≤ _; repeat (first | exact Nat.le_refl _ | assumption | (omega; done) | with_reducible exact le_past (Nat.le_refl _) | with_reducible refine le_past ?_ | with_reducible refine le_al ?_ | with_reducible refine le_set ?_ | with_reducible refine le_p1 ?_))) _))); done) | (with_reducible rfl; done) | omega | (rfl; done) | (simp; done) | (simp [go_sem]; done) | (simp; omega) | (simp [go_sem]; omega)); done))))
  go_ret2
  exact ⟨rfl, by (repeat (first | assumption | exact Below.refl _ _ | with_reducible refine past_t _ ?_ | with_reducible refine below_a _ ?_ | with_reducible refine Below.drew ?_ | with_reducible refine below_d _ ?_ | (with_reducible refine Below.setCell ?_ (by (show _ ≤ _; repeat (first | exact Nat.le_refl _ | assumption | (omega; done) | with_reducible exact le_past (Nat.le_refl _) | with_reducible refine le_past ?_ | with_reducible refine le_al ?_ | with_reducible refine le_set ?_ | with_reducible refine le_p1 ?_))) _)))⟩
/-- What two lists come to: the list, the error, the flag, the count. -/
def pairR (g : Bool → Int → Int → Int × Bool) (n i : Bool) (c cost : Int) (a b : List Int) : List Int × Int × Bool × Int :=
  if a.length = b.length then ((mapG g i a b a.length).1, 0, (mapG g i a b a.length).2, c + cost * a.length) else ([], 3, i, c)
def dotR (i : Bool) (c : Int) (a b : List Int) : Int × Int × Bool × Int :=
  if a.length = b.length then ((runD (0, i) a b a.length).1, 0, (runD (0, i) a b a.length).2, c + 2 * a.length) else (0, 3, i, c)
abbrev PairPost (B : Nat) (w : World) (P : List Int × Int × Bool × Int) (e : Ending) (w' : World) : Prop :=
  ∃ A' n' c', e = .returned (.tuple #[.slice A' n' c', .int .i64 P.2.1]) ∧ OwnI w w' (.slice A' n' c') P.1 ∧ Below (put B P.2.2.1 P.2.2.2 w).heap.size (put B P.2.2.1 P.2.2.2 w) w'
theorem pair_yes {B : Nat} {w : World} {g : Bool → Int → Int → Int × Bool} {i : Bool} {c cost : Int} {a b : List Int} (hlen : a.length = b.length) {e : Ending} {w' : World}
    (h : ∃ A' c', e = .returned (.tuple #[.slice A' a.length c', .int .i64 0]) ∧ OwnI w w' (.slice A' a.length c') (mapG g i a b a.length).1 ∧ Below (put B (mapG g i a b a.length).2 (c + cost * a.length) w).heap.size (put B (mapG g i a b a.length).2 (c + cost * a.length) w) w') :
    PairPost B w (pairR g true i c cost a b) e w' := by
  unfold pairR
  rw [if_pos hlen]
  obtain ⟨A', c', h1, h2, h3⟩ := h
  exact ⟨A', _, c', h1, h2, h3⟩
theorem pair_no {B : Nat} {w : World} {g : Bool → Int → Int → Int × Bool} {i : Bool} {c cost : Int} {a b : List Int} (hlen : a.length ≠ b.length) (hp : put B i c w = w) {e : Ending} {w' : World}
    (h : e = .returned (.tuple #[.slice none 0 0, .int .i64 3]) ∧ Below w.heap.size w w') :
    PairPost B w (pairR g true i c cost a b) e w' := by
  unfold pairR
  rw [if_neg hlen]
  exact ⟨none, 0, 0, h.1, OwnK.nil _ _ _ _, by simp only []; rw [hp]; exact h.2⟩
abbrev DotPost (B : Nat) (w : World) (P : Int × Int × Bool × Int) (e : Ending) (w' : World) : Prop :=
  e = .returned (.tuple #[.int .i64 P.1, .int .i64 P.2.1]) ∧ Below (put B P.2.2.1 P.2.2.2 w).heap.size (put B P.2.2.1 P.2.2.2 w) w'
theorem vSumX {B : Nat} {i : Bool} {c : Int} {w : World} (h : UA B i c w) {A1 A2 : Option Addr} {c1 c2 : Nat} {a b : List Int} (ha : AllI a) (hb : AllI b) (h1 : SL w B (.slice A1 a.length c1) a) (h2 : SL w B (.slice A2 b.length c2) b) (hc : 0 ≤ c ∧ c ≤ 1000000) (la : a.length ≤ 150) (lb : b.length ≤ 150) :
    Calls Try.prog 18 #[UP B, .slice A1 a.length c1, .slice A2 b.length c2] w (PairPost B w (pairR gSum true i c 2 a b)) := by
  by_cases hlen : a.length = b.length
  · exact (vSum h _ _ a b ha hb h1 h2 hlen ⟨hc.1, by omega⟩ (by omega)).mono fun e w' => pair_yes hlen
  · exact (vSumNo h ⟨hc.1, by omega⟩ A1 A2 a.length b.length c1 c2 hlen (by omega) (by omega)).mono fun e w' => pair_no hlen (put_self h)
theorem vLessX {B : Nat} {i : Bool} {c : Int} {w : World} (h : UA B i c w) {A1 A2 : Option Addr} {c1 c2 : Nat} {a b : List Int} (ha : AllI a) (hb : AllI b) (h1 : SL w B (.slice A1 a.length c1) a) (h2 : SL w B (.slice A2 b.length c2) b) (hc : 0 ≤ c ∧ c ≤ 1000000) (la : a.length ≤ 150) (lb : b.length ≤ 150) :
    Calls Try.prog 23 #[UP B, .slice A1 a.length c1, .slice A2 b.length c2] w (PairPost B w (pairR gLess true i c 1 a b)) := by
  by_cases hlen : a.length = b.length
  · exact (vLess h _ _ a b ha hb h1 h2 hlen ⟨hc.1, by omega⟩ (by omega)).mono fun e w' => pair_yes hlen
  · exact (vLessNo h ⟨hc.1, by omega⟩ A1 A2 a.length b.length c1 c2 hlen (by omega) (by omega)).mono fun e w' => pair_no hlen (put_self h)
theorem r6SumX {B : Nat} {i : Bool} {c : Int} {w : World} (h : RA B i c w) {A1 A2 : Option Addr} {c1 c2 : Nat} {a b : List Int} (ha : AllI a) (hb : AllI b) (h1 : SL w B (.slice A1 a.length c1) a) (h2 : SL w B (.slice A2 b.length c2) b) (hc : 0 ≤ c ∧ c ≤ 1000000) (la : a.length ≤ 150) (lb : b.length ≤ 150) :
    Calls Try.prog 29 #[UP B, .slice A1 a.length c1, .slice A2 b.length c2] w (PairPost B w (pairR gSum true i c 2 a b)) := by
  by_cases hlen : a.length = b.length
  · exact (r6Sum h _ _ a b ha hb h1 h2 hlen ⟨hc.1, by omega⟩ (by omega)).mono fun e w' => pair_yes hlen
  · exact (r6SumNo _ A1 A2 a.length b.length c1 c2 hlen (by omega) (by omega) w).mono fun e w' => pair_no hlen (rput_self h)
theorem r6LessX {B : Nat} {i : Bool} {c : Int} {w : World} (h : RA B i c w) {A1 A2 : Option Addr} {c1 c2 : Nat} {a b : List Int} (ha : AllI a) (hb : AllI b) (h1 : SL w B (.slice A1 a.length c1) a) (h2 : SL w B (.slice A2 b.length c2) b) (hc : 0 ≤ c ∧ c ≤ 1000000) (la : a.length ≤ 150) (lb : b.length ≤ 150) :
    Calls Try.prog 31 #[UP B, .slice A1 a.length c1, .slice A2 b.length c2] w (PairPost B w (pairR gLess true i c 1 a b)) := by
  by_cases hlen : a.length = b.length
  · exact (r6Less h _ _ a b ha hb h1 h2 hlen ⟨hc.1, by omega⟩ (by omega)).mono fun e w' => pair_yes hlen
  · exact (r6LessNo _ A1 A2 a.length b.length c1 c2 hlen (by omega) (by omega) w).mono fun e w' => pair_no hlen (rput_self h)
theorem vScaleX {B : Nat} {i : Bool} {c : Int} {w : World} (h : UA B i c w) {A1 : Option Addr} {c1 : Nat} {a : List Int} {s : Int} (ha : AllI a) (hs : InI s) (h1 : SL w B (.slice A1 a.length c1) a) (hc : 0 ≤ c ∧ c ≤ 1000000) (la : a.length ≤ 150) :
    Calls Try.prog 24 #[UP B, .slice A1 a.length c1, .int .i64 s] w (PairPost B w (pairR (gScaleS s) true i c 2 a a)) :=
  (vScale h _ a s ha hs h1 ⟨hc.1, by omega⟩ (by omega)).mono fun e w' => pair_yes rfl
theorem r6ScaleX {B : Nat} {i : Bool} {c : Int} {w : World} (h : RA B i c w) {A1 : Option Addr} {c1 : Nat} {a : List Int} {s : Int} (ha : AllI a) (hs : InI s) (h1 : SL w B (.slice A1 a.length c1) a) (hc : 0 ≤ c ∧ c ≤ 1000000) (la : a.length ≤ 150) :
    Calls Try.prog 32 #[UP B, .slice A1 a.length c1, .int .i64 s] w (PairPost B w (pairR (gScaleS s) true i c 2 a a)) :=
  (r6Scale h _ a s ha hs h1 ⟨hc.1, by omega⟩ (by omega)).mono fun e w' => pair_yes rfl
theorem vDotX {B : Nat} {i : Bool} {c : Int} {w : World} (h : UA B i c w) {A1 A2 : Option Addr} {c1 c2 : Nat} {a b : List Int} (ha : AllI a) (hb : AllI b) (h1 : SL w B (.slice A1 a.length c1) a) (h2 : SL w B (.slice A2 b.length c2) b) (hc : 0 ≤ c ∧ c ≤ 1000000) (la : a.length ≤ 150) (lb : b.length ≤ 150) :
    Calls Try.prog 19 #[UP B, .slice A1 a.length c1, .slice A2 b.length c2] w (DotPost B w (dotR i c a b)) := by
  unfold dotR
  by_cases hlen : a.length = b.length
  · rw [if_pos hlen]
    exact vDot h _ _ a b ha hb h1 h2 hlen ⟨hc.1, by omega⟩
  · rw [if_neg hlen]
    exact (vDotNo h A1 A2 a.length b.length c1 c2 hlen (by omega) (by omega)).mono fun e w' ⟨h1, h2⟩ => ⟨h1, by simp only []; rw [put_self h]; exact h2⟩
theorem r6DotX {B : Nat} {i : Bool} {c : Int} {w : World} (h : RA B i c w) {A1 A2 : Option Addr} {c1 c2 : Nat} {a b : List Int} (ha : AllI a) (hb : AllI b) (h1 : SL w B (.slice A1 a.length c1) a) (h2 : SL w B (.slice A2 b.length c2) b) (hc : 0 ≤ c ∧ c ≤ 1000000) (la : a.length ≤ 150) (lb : b.length ≤ 150) :
    Calls Try.prog 33 #[UP B, .slice A1 a.length c1, .slice A2 b.length c2] w (DotPost B w (dotR i c a b)) := by
  unfold dotR
  by_cases hlen : a.length = b.length
  · rw [if_pos hlen]
    exact r6Dot h _ _ a b ha hb h1 h2 hlen ⟨hc.1, by omega⟩
  · rw [if_neg hlen]
    exact (r6DotNo _ A1 A2 a.length b.length c1 c2 hlen (by omega) (by omega) w).mono fun e w' ⟨h1, h2⟩ => ⟨h1, by simp only []; rw [rput_self h]; exact h2⟩
theorem vLike {P w3 : World} {U V : Nat} {j : Bool} {d : Int} (hP : Below P.heap.size P w3) (hu : UA U j d w3) (hr : RA V j d w3) {A B : Option Addr} {n cc m dd : Nat} {R : List Int} (ha : OwnI P w3 (.slice A n cc) R) (hb : RS .i64 w3 B m dd R) (e : Int) :
    Calls Try.prog 30 #[.agg #[UP U, UP V], .slice A n cc, .int .i64 e, .slice B m dd, .int .i64 e] w3 fun en w' => en = .returned (.bool true) ∧ Below P.heap.size P w' := by
  go_enter Try.func30, Try.ntmps30
  go_upto_region 1 with fail
  refine wp_gen (fun W3 hW3 => ?_)
  have hk : Below w3.heap.size w3 W3 := by rw [hW3]; (repeat (first | assumption | exact Below.refl _ _ | with_reducible refine past_t _ ?_ | with_reducible refine below_a _ ?_ | with_reducible refine Below.drew ?_ | with_reducible refine below_d _ ?_ | (with_reducible refine Below.setCell ?_ (by (show _ ≤ _; repeat (first | exact Nat.le_refl _ | assumption | (omega; done) | with_reducible exact le_past (Nat.le_refl _) | with_reducible refine le_past ?_ | with_reducible refine le_al ?_ | with_reducible refine le_set ?_ | with_reducible refine le_p1 ?_))) _)))
  have b0 : W3.cell? ⟨w3.heap.size, 0, none⟩ = some (UP U) := by rw [hW3]; (first | (simp [go_sem]; done) | (simp [go_sem, ↓IntWalk.iteOmega]; done))
  have b1 : W3.cell? ⟨w3.heap.size, 1, none⟩ = some (UP V) := by rw [hW3]; (first | (simp [go_sem]; done) | (simp [go_sem, ↓IntWalk.iteOmega]; done))
  have hu3 := hu.keep hk
  have hr3 := hr.keep hk
  have ha3 := ha.keep hk
  have hP3 := hP.trans (hk.mono hP.size)
  have hs := fun z => iSameT (ha3.rs.keep (past_below W3 z)) ((hb.keep hk).keep (past_below W3 z))
  have hc := fun z => uCut (hu3.keep (past_below W3 z))
  have hn := fun z => uCount (hu3.keep (past_below W3 z))
  have v0 := hr3.c0
  have v1 := hr3.c1
  clear hW3 hu hr ha hb hP hk hu3 hr3
  (first | refine region_past2 (by kernel_rfl) (by kernel_rfl) ?_ | refine region_past (by kernel_rfl) (by kernel_rfl) ?_)
  repeat (go_big_quiet_step (first | (go_at_call 26; with_reducible exact Calls_pastq (hs _)) | (go_at_call 21; with_reducible exact Calls_pastq (hc _)) | (go_at_call 60; with_reducible exact Calls_pastq (hn _))))
  refine wpQuiet_nil ?_; rintro _ ⟨y, rfl⟩
  go_wp2_with ((go_at_call 72; with_reducible refine Calls_to0 (iOver ?_ (ha3.keep ?_)) (fun z => ?_); (focus ((first | ((repeat (first | assumption | exact Below.refl _ _ | with_reducible refine past_t _ ?_ | with_reducible refine below_a _ ?_ | with_reducible refine Below.drew ?_ | with_reducible refine below_d _ ?_ | (with_reducible refine Below.setCell ?_ (by (show _ ≤ _; repeat (first | exact Nat.le_refl _ | assumption | (omega; done) | with_reducible exact le_past (Nat.le_refl _) | with_reducible refine le_past ?_ | with_reducible refine le_al ?_ | with_reducible refine le_set ?_ | with_reducible refine le_p1 ?_))) _))); done) | (with_reducible rfl; done) | omega | (rfl; done) | (simp; done) | (simp [go_sem]; done) | (simp; omega) | (simp [go_sem]; omega)); done)); (focus ((first | ((repeat (first | assumption | exact Below.refl _ _ | with_reducible refine past_t _ ?_ | with_reducible refine below_a _ ?_ | with_reducible refine Below.drew ?_ | with_reducible refine below_d _ ?_ | (with_reducible refine Below.setCell ?_ (by (show _ ≤ _; repeat (first | exact Nat.le_refl _ | assumption | (omega; done) | with_reducible exact le_past (Nat.le_refl _) | with_reducible refine le_past ?_ | with_reducible refine le_al ?_ | with_reducible refine le_set ?_ | with_reducible refine le_p1 ?_))) _))); done) | (with_reducible rfl; done) | omega | (rfl; done) | (simp; done) | (simp [go_sem]; done) | (simp; omega) | (simp [go_sem]; omega)); done))))
  go_ret
  exact ⟨rfl, past_below _ _⟩
end Go.Proofs.Ytfhiodclbabdkaa
