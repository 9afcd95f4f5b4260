/- Package unit: sums, products and dots of lists. -/
import Derived.Test.YtlhadociaekkhaaQUnit1
import Derived.Deep.LoopGhost
import Derived.Deep.DeepCutAuto
import Derived.Deep.RegionWith
namespace Go.Proofs.Ytlhadociaekkhaa
set_option linter.unusedVariables false
open Go.RowKit
/-- A row of ints in memory. -/
def Row (w : World) (b o : Nat) (zs : List Int) : Prop := ∀ k : Nat, k < zs.length → w.cell? ⟨b, o + k, none⟩ = some (.int .i64 (zs.getD k 0))
def AllI (zs : List Int) : Prop := ∀ n ∈ zs, InI n
/-- A slice that reads as zs, in another block than B. -/
def SL (w : World) (B : Nat) (v : Value) (zs : List Int) : Prop :=
  ∃ A c, v = .slice A zs.length c ∧ zs.length ≤ 4611686018427387904 ∧ (0 < zs.length → ∃ b o, A = some ⟨b, o, none⟩ ∧ b ≠ B ∧ b < w.heap.size ∧ Row w b o zs)
theorem SL.nil (w : World) (B : Nat) : SL w B (.slice none 0 0) [] := ⟨none, 0, rfl, by simp, fun h => absurd h (by simp)⟩
theorem SL.keep {w v : World} {B : Nat} {x : Value} {zs : List Int} (h : SL w B x zs) (k : Below w.heap.size w v) : SL v B x zs := by
  obtain ⟨A, c, e, l, f⟩ := h
  refine ⟨A, c, e, l, fun h0 => ?_⟩
  obtain ⟨b, o, e1, e2, e3, e4⟩ := f h0
  exact ⟨b, o, e1, e2, Nat.lt_of_lt_of_le e3 k.size, fun j hj => (k.cell e3).trans (e4 j hj)⟩
theorem SL.put {w : World} {B : Nat} {x : Value} {zs : List Int} (h : SL w B x zs) (i : Bool) (c : Int) : SL (put B i c w) B x zs := by
  obtain ⟨A, c', e, l, f⟩ := h
  refine ⟨A, c', e, l, fun h0 => ?_⟩
  obtain ⟨b, o, e1, e2, e3, e4⟩ := f h0
  exact ⟨b, o, e1, e2, by rw [put_size]; exact e3, fun j hj => (put_cell B i c w _ e2).trans (e4 j hj)⟩
theorem AllI.get {zs : List Int} (h : AllI zs) {k : Nat} (hk : k < zs.length) : InI (zs.getD k 0) := by
  have e : zs.getD k 0 = zs[k] := by simp [List.getD, hk]
  rw [e]; exact h _ (List.getElem_mem hk)
def acc (op : Int → Int → Int × Bool) (p : Int × Bool) (x : Int) : Int × Bool := ((op p.1 x).1, p.2 || (op p.1 x).2)
def runL (op : Int → Int → Int × Bool) (p : Int × Bool) (zs : List Int) : Int × Bool := zs.foldl (acc op) p
theorem take_next (zs : List Int) (k : Nat) (h : k < zs.length) : zs.take (k + 1) = zs.take k ++ [zs.getD k 0] := by
  rw [List.take_succ_eq_append_getElem h]; simp [List.getD, h]
theorem runL_next (op : Int → Int → Int × Bool) (p : Int × Bool) (zs : List Int) (k : Nat) (h : k < zs.length) :
    runL op p (zs.take (k + 1)) = acc op (runL op p (zs.take k)) (zs.getD k 0) := by
  rw [take_next zs k h]; unfold runL; rw [List.foldl_append]; rfl
theorem runL_in {op : Int → Int → Int × Bool} (ho : ∀ a b, InI (op a b).1) {p : Int × Bool} (hp : InI p.1) (zs : List Int) : InI (runL op p zs).1 := by
  unfold runL
  induction zs generalizing p with
  | nil => exact hp
  | cons x zs ih => exact ih (ho _ _)
theorem opAdd_in (a b : Int) : InI (opAdd a b).1 := by have := fitV_bd (addW a b); unfold opAdd; exact ⟨by omega, by omega⟩
theorem opMul_in (a b : Int) : InI (opMul a b).1 := by have := fitV_bd (mulW a b); unfold opMul; exact ⟨by omega, by omega⟩
theorem ua_start {B : Nat} {i : Bool} {c : Int} {w : World} (h : UA B i c w) : w = past (put B i c w) w := by
  rw [put_self h]; exact past_of (Below.refl _ _)
set_option maxHeartbeats 2000000 in
theorem uAllAdd {B : Nat} {i : Bool} {c : Int} {w : World} (h : UA B i c w) (s : Int) (hs : InI s) (v : Value) (zs : List Int) (hz : AllI zs) (hv : SL w B v zs) (hc : 0 ≤ c ∧ c + zs.length ≤ 4611686018427387904) :
    Calls Try.prog 72 #[UP B, .int .i64 s, .func (.func 67) #[] #[], v] w fun e w' => e = .returned (.int .i64 (runL opAdd (s, i) zs).1) ∧
      Below (put B (runL opAdd (s, i) zs).2 (c + zs.length) w).heap.size (put B (runL opAdd (s, i) zs).2 (c + zs.length) w) w' := by
  have hn := uNone h
  obtain ⟨A, cp, rfl, hl, hrow⟩ := hv
  by_cases hz0 : zs.length = 0
  · obtain rfl : zs = [] := List.length_eq_zero_iff.1 hz0
    have e0 : (runL opAdd (s, i) []) = (s, i) := rfl
    rw [e0]
    simp only [List.length_nil, Int.natCast_zero, Int.add_zero]
    rw [put_self h]
    clear h e0 hz hrow hz0
    go_enter Try.func72, Try.ntmps72
    go_wp2_with (first | (go_at_call 65; first | (with_reducible refine Calls_past2 (hn) (fun z => ?_)) | (with_reducible refine Calls_past (hn) (fun z => ?_))))
    go_loopg [1, 10, 15] 1 (fun g s1 s10 s15 wr => s1 = .int .i64 s ∧ s15 = .int .i64 0 ∧ ∃ z, wr = past w z)
    case atStart => exact ⟨rfl, rfl, _, rfl⟩
    case round =>
      obtain ⟨rfl, rfl, z, rfl⟩ := hrel
      go_wp2_with fail
      go_ret
      exact ⟨rfl, past_below _ _⟩
  · obtain ⟨b, o, rfl, hbB, hbw, hrow⟩ := hrow (by omega)
    have hlt := h.lt
    have run0 : runL opAdd (s, i) (zs.take 0) = (s, i) := by simp [runL]
    have H := Lib.hid h
    have HN := Lib.hid hn
    have HR := Lib.hid hrow
    have hst := ua_start h
    have HS := Lib.hid hst
    have R0 := Lib.hid run0
    clear h hrow hst run0
    go_enter Try.func72, Try.ntmps72
    go_wp2_with (first | (go_at_call 65; first | (with_reducible refine Calls_past2 (hn) (fun z => ?_)) | (with_reducible refine Calls_past (hn) (fun z => ?_))))
    clear hn
    go_loopg [1, 10, 15] zs.length (fun g s1 s10 s15 wr => ∃ k : Nat, k ≤ zs.length ∧ zs.length ≤ g + k ∧ s1 = .int .i64 (runL opAdd (s, i) (zs.take k)).1 ∧ s15 = .int .i64 k ∧ ∃ z, wr = past (put B (runL opAdd (s, i) (zs.take k)).2 (c + k) w) z)
    case atStart =>
      refine ⟨0, by omega, by omega, by rw [R0.out], rfl, z, ?_⟩
      rw [R0.out]
      simp only [Int.natCast_zero, Int.add_zero]
      rw [put_self H.out]
    case round =>
      obtain ⟨k, hk, hg, rfl, rfl, z, rfl⟩ := hrel
      have hin := runL_in opAdd_in (p := (s, i)) hs (zs.take k)
      obtain ⟨P, hP⟩ : ∃ P, runL opAdd (s, i) (zs.take k) = P := ⟨_, rfl⟩
      rw [hP] at hin ⊢
      by_cases hlt : k < zs.length
      · have hx := hz.get hlt
        have hcell := HR.out k hlt
        have hnx := runL_next opAdd (s, i) zs k hlt
        rw [hP] at hnx
        obtain ⟨x, hxx⟩ : ∃ x, zs.getD k 0 = x := ⟨_, rfl⟩
        rw [hxx] at hx hcell hnx
        have hop : ∀ w, Calls Try.prog 67 #[.int .i64 P.1, .int .i64 x] w fun e w' => e = .returned (.tuple #[.int .i64 (opAdd P.1 x).1, .bool (opAdd P.1 x).2]) ∧ Below w.heap.size w w' := fun w => fAdd P.1 x w hin hx
        obtain ⟨n, cut⟩ := P
        obtain ⟨p, hp⟩ : ∃ p, opAdd n x = p := ⟨_, rfl⟩
        simp only at hop hnx hin ⊢
        have hac : acc opAdd (n, cut) x = (p.1, cut || p.2) := by unfold acc; simp only [hp]
        rw [hac] at hnx
        rw [hp] at hop
        have hd := fun z => uDid (ua_past H.out cut (c + k) z) (by omega) p.1 p.2
        have HX := Lib.hid hnx
        clear hP hnx hxx hp hac
        go_wp2_with (first | (go_at_call 67; first | (with_reducible refine Calls_past2 (hop _) (fun z => ?_)) | (with_reducible refine Calls_past (hop _) (fun z => ?_))) | (go_at_call 77; with_reducible refine Calls_put (hd _) (fun z => ?_)))
        go_roundg (zs.length - (k + 1))
        case measure => omega
        case rel =>
          refine ⟨k + 1, by omega, by omega, by rw [HX.out], by go_num, z, ?_⟩
          rw [HX.out]
          have : c + (k : Int) + 1 = c + ((k + 1 : Nat) : Int) := by omega
          rw [this]
      · obtain rfl : k = zs.length := by omega
        rw [List.take_of_length_le (Nat.le_refl _)] at hP
        have HP := Lib.hid hP
        clear hP
        go_wp2_with fail
        go_ret
        exact ⟨by rw [HP.out]; rfl, by rw [HP.out]; exact past_below _ _⟩
theorem uAdd {B : Nat} {i : Bool} {c : Int} {w : World} (h : UA B i c w) (v : Value) (zs : List Int) (hz : AllI zs) (hv : SL w B v zs) (hc : 0 ≤ c ∧ c + zs.length ≤ 4611686018427387904) :
    Calls Try.prog 55 #[UP B, v] w fun e w' => e = .returned (.int .i64 (runL opAdd (0, i) zs).1) ∧
      Below (put B (runL opAdd (0, i) zs).2 (c + zs.length) w).heap.size (put B (runL opAdd (0, i) zs).2 (c + zs.length) w) w' := by
  have ha := uAllAdd h 0 (by omega) v zs hz hv hc
  go_enter Try.func55, Try.ntmps55
  go_wp2_with (first | (go_at_call 72; with_reducible refine Calls_to (ha) (fun z => ?_)))
  go_ret
  exact ⟨rfl, past_below _ _⟩
set_option maxHeartbeats 2000000 in
theorem uAllMul {B : Nat} {i : Bool} {c : Int} {w : World} (h : UA B i c w) (s : Int) (hs : InI s) (v : Value) (zs : List Int) (hz : AllI zs) (hv : SL w B v zs) (hc : 0 ≤ c ∧ c + zs.length ≤ 4611686018427387904) :
    Calls Try.prog 72 #[UP B, .int .i64 s, .func (.func 68) #[] #[], v] w fun e w' => e = .returned (.int .i64 (runL opMul (s, i) zs).1) ∧
      Below (put B (runL opMul (s, i) zs).2 (c + zs.length) w).heap.size (put B (runL opMul (s, i) zs).2 (c + zs.length) w) w' := by
  have hn := uNone h
  obtain ⟨A, cp, rfl, hl, hrow⟩ := hv
  by_cases hz0 : zs.length = 0
  · obtain rfl : zs = [] := List.length_eq_zero_iff.1 hz0
    have e0 : (runL opMul (s, i) []) = (s, i) := rfl
    rw [e0]
    simp only [List.length_nil, Int.natCast_zero, Int.add_zero]
    rw [put_self h]
    clear h e0 hz hrow hz0
    go_enter Try.func72, Try.ntmps72
    go_wp2_with (first | (go_at_call 65; first | (with_reducible refine Calls_past2 (hn) (fun z => ?_)) | (with_reducible refine Calls_past (hn) (fun z => ?_))))
    go_loopg [1, 10, 15] 1 (fun g s1 s10 s15 wr => s1 = .int .i64 s ∧ s15 = .int .i64 0 ∧ ∃ z, wr = past w z)
    case atStart => exact ⟨rfl, rfl, _, rfl⟩
    case round =>
      obtain ⟨rfl, rfl, z, rfl⟩ := hrel
      go_wp2_with fail
      go_ret
      exact ⟨rfl, past_below _ _⟩
  · obtain ⟨b, o, rfl, hbB, hbw, hrow⟩ := hrow (by omega)
    have hlt := h.lt
    have run0 : runL opMul (s, i) (zs.take 0) = (s, i) := by simp [runL]
    have H := Lib.hid h
    have HN := Lib.hid hn
    have HR := Lib.hid hrow
    have hst := ua_start h
    have HS := Lib.hid hst
    have R0 := Lib.hid run0
    clear h hrow hst run0
    go_enter Try.func72, Try.ntmps72
    go_wp2_with (first | (go_at_call 65; first | (with_reducible refine Calls_past2 (hn) (fun z => ?_)) | (with_reducible refine Calls_past (hn) (fun z => ?_))))
    clear hn
    go_loopg [1, 10, 15] zs.length (fun g s1 s10 s15 wr => ∃ k : Nat, k ≤ zs.length ∧ zs.length ≤ g + k ∧ s1 = .int .i64 (runL opMul (s, i) (zs.take k)).1 ∧ s15 = .int .i64 k ∧ ∃ z, wr = past (put B (runL opMul (s, i) (zs.take k)).2 (c + k) w) z)
    case atStart =>
      refine ⟨0, by omega, by omega, by rw [R0.out], rfl, z, ?_⟩
      rw [R0.out]
      simp only [Int.natCast_zero, Int.add_zero]
      rw [put_self H.out]
    case round =>
      obtain ⟨k, hk, hg, rfl, rfl, z, rfl⟩ := hrel
      have hin := runL_in opMul_in (p := (s, i)) hs (zs.take k)
      obtain ⟨P, hP⟩ : ∃ P, runL opMul (s, i) (zs.take k) = P := ⟨_, rfl⟩
      rw [hP] at hin ⊢
      by_cases hlt : k < zs.length
      · have hx := hz.get hlt
        have hcell := HR.out k hlt
        have hnx := runL_next opMul (s, i) zs k hlt
        rw [hP] at hnx
        obtain ⟨x, hxx⟩ : ∃ x, zs.getD k 0 = x := ⟨_, rfl⟩
        rw [hxx] at hx hcell hnx
        have hop : ∀ w, Calls Try.prog 68 #[.int .i64 P.1, .int .i64 x] w fun e w' => e = .returned (.tuple #[.int .i64 (opMul P.1 x).1, .bool (opMul P.1 x).2]) ∧ Below w.heap.size w w' := fun w => fMul P.1 x w hin hx
        obtain ⟨n, cut⟩ := P
        obtain ⟨p, hp⟩ : ∃ p, opMul n x = p := ⟨_, rfl⟩
        simp only at hop hnx hin ⊢
        have hac : acc opMul (n, cut) x = (p.1, cut || p.2) := by unfold acc; simp only [hp]
        rw [hac] at hnx
        rw [hp] at hop
        have hd := fun z => uDid (ua_past H.out cut (c + k) z) (by omega) p.1 p.2
        have HX := Lib.hid hnx
        clear hP hnx hxx hp hac
        go_wp2_with (first | (go_at_call 68; first | (with_reducible refine Calls_past2 (hop _) (fun z => ?_)) | (with_reducible refine Calls_past (hop _) (fun z => ?_))) | (go_at_call 77; with_reducible refine Calls_put (hd _) (fun z => ?_)))
        go_roundg (zs.length - (k + 1))
        case measure => omega
        case rel =>
          refine ⟨k + 1, by omega, by omega, by rw [HX.out], by go_num, z, ?_⟩
          rw [HX.out]
          have : c + (k : Int) + 1 = c + ((k + 1 : Nat) : Int) := by omega
          rw [this]
      · obtain rfl : k = zs.length := by omega
        rw [List.take_of_length_le (Nat.le_refl _)] at hP
        have HP := Lib.hid hP
        clear hP
        go_wp2_with fail
        go_ret
        exact ⟨by rw [HP.out]; rfl, by rw [HP.out]; exact past_below _ _⟩
theorem uMul {B : Nat} {i : Bool} {c : Int} {w : World} (h : UA B i c w) (v : Value) (zs : List Int) (hz : AllI zs) (hv : SL w B v zs) (hc : 0 ≤ c ∧ c + zs.length ≤ 4611686018427387904) :
    Calls Try.prog 61 #[UP B, v] w fun e w' => e = .returned (.int .i64 (runL opMul (4294967296, i) zs).1) ∧
      Below (put B (runL opMul (4294967296, i) zs).2 (c + zs.length) w).heap.size (put B (runL opMul (4294967296, i) zs).2 (c + zs.length) w) w' := by
  have ha := uAllMul h 4294967296 (by omega) v zs hz hv hc
  go_enter Try.func61, Try.ntmps61
  go_wp2_with (first | (go_at_call 72; with_reducible refine Calls_to (ha) (fun z => ?_)))
  go_ret
  exact ⟨rfl, past_below _ _⟩
def accD (p : Int × Bool) (x y : Int) : Int × Bool := ((opAdd p.1 (opMul x y).1).1, (p.2 || (opMul x y).2) || (opAdd p.1 (opMul x y).1).2)
def runD (p : Int × Bool) (a b : List Int) : Nat → Int × Bool
  | 0 => p
  | k + 1 => accD (runD p a b k) (a.getD k 0) (b.getD k 0)
theorem runD_in {p : Int × Bool} (hp : InI p.1) (a b : List Int) (k : Nat) : InI (runD p a b k).1 := by
  cases k with
  | zero => exact hp
  | succ k => exact opAdd_in _ _
theorem uDotNo {B : Nat} {i : Bool} {c : Int} {w : World} (h : UA B i c w) (A1 A2 : Option Addr) (n m c1 c2 : Nat) (hn : n ≠ m) (h1 : n ≤ 4611686018427387904) (h2 : m ≤ 4611686018427387904) :
    Calls Try.prog 47 #[UP B, .slice A1 n c1, .slice A2 m c2] w fun e w' => e = .returned (.tuple #[.int .i64 0, .int .i64 3]) ∧ Below w.heap.size w w' := by
  have hnn := uNone h
  have d1 : (((n : Nat) : Int) != ((m : Nat) : Int)) = true := by simp; omega
  clear h
  go_enter Try.func47, Try.ntmps47
  go_wp2_with (first | (go_at_call 65; first | (with_reducible refine Calls_past2 (hnn) (fun z => ?_)) | (with_reducible refine Calls_past (hnn) (fun z => ?_))))
  go_ret2
  exact ⟨rfl, past_below _ _⟩
set_option maxHeartbeats 2000000 in
theorem uDot {B : Nat} {i : Bool} {c : Int} {w : World} (h : UA B i c w) (v1 v2 : Value) (a b : List Int) (ha : AllI a) (hb : AllI b) (h1 : SL w B v1 a) (h2 : SL w B v2 b) (hlen : a.length = b.length) (hc : 0 ≤ c ∧ c + 2 * a.length ≤ 4611686018427387904) :
    Calls Try.prog 47 #[UP B, v1, v2] w fun e w' => e = .returned (.tuple #[.int .i64 (runD (0, i) a b a.length).1, .int .i64 0]) ∧
      Below (put B (runD (0, i) a b a.length).2 (c + 2 * a.length) w).heap.size (put B (runD (0, i) a b a.length).2 (c + 2 * a.length) w) w' := by
  have hn := uNone h
  obtain ⟨A1, cp1, rfl, hl1, hr1⟩ := h1
  obtain ⟨A2, cp2, rfl, hl2, hr2⟩ := h2
  rw [← hlen] at hl2 hr2 ⊢
  have d1 : (((a.length : Nat) : Int) != ((a.length : Nat) : Int)) = false := by simp
  by_cases hz0 : a.length = 0
  · rw [hz0]
    have e0 : runD (0, i) a b 0 = (0, i) := rfl
    rw [e0]
    simp only [Int.natCast_zero, Int.mul_zero, Int.add_zero]
    rw [put_self h]
    clear h e0 ha hb hr1 hr2 hz0 hlen hl1 hl2 d1
    go_enter Try.func47, Try.ntmps47
    go_wp2_with (first | (go_at_call 65; first | (with_reducible refine Calls_past2 (hn) (fun z => ?_)) | (with_reducible refine Calls_past (hn) (fun z => ?_))))
    go_loopg [8, 9, 21] 1 (fun g s8 s9 s21 wr => s8 = .int .i64 0 ∧ s21 = .int .i64 0 ∧ ∃ z, wr = past w z)
    case atStart => exact ⟨rfl, rfl, _, rfl⟩
    case round =>
      obtain ⟨rfl, rfl, z, rfl⟩ := hrel
      go_wp2_with fail
      go_ret2
      exact ⟨rfl, past_below _ _⟩
  · have hp0 : 0 < a.length := by omega
    obtain ⟨b1, o1, rfl, hb1, hw1, hc1⟩ := hr1 hp0
    obtain ⟨b2, o2, rfl, hb2, hw2, hc2⟩ := hr2 hp0
    have hlt := h.lt
    have H := Lib.hid h
    have HR1 := Lib.hid hc1
    have HR2 := Lib.hid hc2
    have HL := Lib.hid hlen
    clear h hc1 hc2 hr1 hr2 hlen
    go_enter Try.func47, Try.ntmps47
    go_wp2_with (first | (go_at_call 65; first | (with_reducible refine Calls_past2 (hn) (fun z => ?_)) | (with_reducible refine Calls_past (hn) (fun z => ?_))))
    clear hn
    go_loopg [8, 9, 21] a.length (fun g s8 s9 s21 wr => ∃ k : Nat, k ≤ a.length ∧ a.length ≤ g + k ∧ s8 = .int .i64 (runD (0, i) a b k).1 ∧ s21 = .int .i64 k ∧ ∃ z, wr = past (put B (runD (0, i) a b k).2 (c + 2 * k) w) z)
    case atStart =>
      refine ⟨0, Nat.zero_le _, Nat.le_add_right _ _, rfl, rfl, z, ?_⟩
      have e0 : runD (0, i) a b 0 = (0, i) := rfl
      rw [e0]
      simp only [Int.natCast_zero, Int.mul_zero, Int.add_zero]
      rw [put_self H.out]
    case round =>
      obtain ⟨k, hk, hg, rfl, rfl, z, rfl⟩ := hrel
      have hin := runD_in (p := (0, i)) (show InI (0 : Int) from ⟨by omega, by omega⟩) a b k
      obtain ⟨P, hP⟩ : ∃ P, runD (0, i) a b k = P := ⟨_, rfl⟩
      rw [hP] at hin ⊢
      by_cases hlt : k < a.length
      · have hx := ha.get hlt
        have hy := hb.get (show k < b.length by have := HL.out; omega)
        have hcx := HR1.out k hlt
        have hcy := HR2.out k (show k < b.length by have := HL.out; omega)
        have hnx : runD (0, i) a b (k + 1) = accD (runD (0, i) a b k) (a.getD k 0) (b.getD k 0) := rfl
        rw [hP] at hnx
        obtain ⟨x, hxx⟩ : ∃ x, a.getD k 0 = x := ⟨_, rfl⟩
        obtain ⟨y, hyy⟩ : ∃ y, b.getD k 0 = y := ⟨_, rfl⟩
        rw [hxx] at hx hcx hnx
        rw [hyy] at hy hcy hnx
        obtain ⟨n, cut⟩ := P
        have hpi := opMul_in x y
        have hm := fun (z : World) => uOneMul ((ua_past H.out cut (c + 2 * k) z).keep (Below.refl _ _).drew) (by omega) x y hx hy
        obtain ⟨p, hp⟩ : ∃ p, opMul x y = p := ⟨_, rfl⟩
        have hs := fun (j : Bool) (z : World) => uOneAdd (ua_past H.out j (c + 2 * k + 1) z) (by omega) n p.1 hin (by rw [← hp]; exact hpi)
        obtain ⟨q, hq⟩ : ∃ q, opAdd n p.1 = q := ⟨_, rfl⟩
        have hac : accD (n, cut) x y = (q.1, (cut || p.2) || q.2) := by unfold accD; simp only [hp, hq]
        rw [hac] at hnx
        simp only [hp] at hm
        simp only [hq] at hs
        have hm2 : ∀ z, Calls Try.prog 66 #[UP B, .func (.func 68) #[] #[], .int .i64 x, .int .i64 y] (past (put B cut (c + 2 * k) w) z).drew fun e w' => e = .returned (.int .i64 p.1) ∧ Below (put B (cut || p.2) (c + 2 * k + 1) w).heap.size (put B (cut || p.2) (c + 2 * k + 1) w) w' := fun z =>
          (hm z).mono fun e w' ⟨e1, e2⟩ => ⟨e1, by
            have := lift_put (v := put B cut (c + 2 * k) w) ((past_below _ z).drew) e2
            rw [put_put] at this; exact this⟩
        have HX := Lib.hid hnx
        clear hP hnx hxx hyy hp hq hac hm hpi
        go_wp2_with fail
        go_region_with (first | (go_at_call 66; with_reducible refine Calls_to (hm2 _) (fun z => ?_)) | (go_at_call 66; with_reducible refine Calls_put (hs _ _) (fun z => ?_)))
        all_goals
          go_wp2_with fail
          go_roundg (a.length - (k + 1))
          case measure => omega
          case rel =>
            refine ⟨k + 1, by omega, by omega, by rw [HX.out], by go_num, z, ?_⟩
            rw [HX.out]
            have : c + 2 * (k : Int) + 1 + 1 = c + 2 * ((k + 1 : Nat) : Int) := by omega
            rw [this]
      · obtain rfl : k = a.length := by omega
        have HP := Lib.hid hP
        clear hP
        go_wp2_with fail
        go_ret2
        exact ⟨by rw [HP.out]; rfl, by rw [HP.out]; exact past_below _ _⟩
theorem uNew (w : World) : Calls Try.prog 10 #[] w fun e w' => e = .returned (UP w.heap.size) ∧ w' = w.alloc (.cells #[.bool false, .int .i64 0, .bool true] 45) := by
  go_enter Try.func10, Try.ntmps10
  go_wp2_with fail
  go_ret
  exact ⟨rfl, rfl⟩
end Go.Proofs.Ytlhadociaekkhaa
