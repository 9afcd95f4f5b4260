/- Sums, products and Dots of a unit are those of fix, one by one; a flag is set just if one of these was cut; a sum that is not cut is the same from its end on. -/
import Derived.Test.YtijnillcklcgbaaKnown4
import Derived.Test.YtijnillcklcgbaaRows1
import Derived.Deep.DeepCutAuto
import Derived.Deep.LoopGhost
import Derived.WalkKit
import Derived.ProofKit
import Derived.OpenShut
import Derived.ShutString
import Derived.ChangeOld
import Derived.Below
import Derived.Lib.SmallJoins
namespace Go.Proofs.Ytijnillcklcgbaa.unitSums
open Go.ChangeShapes Go.WideShapes Go.ChangeAt Go.RowKit
open Go.ChangeMaps (open_string shut_string)
open Go.Joins
set_option linter.unusedVariables false
theorem own : ownKnob Try.prog.godebug = none := by kernel_rfl
theorem laidOut : laidOutB Try.prog = true := by kernel_rfl
def IsRow (k : IntKind) (w : World) (a : Option Addr) (len cap : Nat) (zs : List Int) : Prop :=
  (a = none ∧ len = 0 ∧ cap = 0 ∧ zs = []) ∨
  ∃ x, a = some x ∧ len ≤ cap ∧ cap ≤ maxLen ∧ zs.length = cap ∧ (∀ i, i < zs.length → w.cell? (x.add i) = some (.int k (zs.getD i 0))) ∧ ∀ n ∈ zs, (Lit.int k n).wf = true
set_option maxHeartbeats 8000000 in
set_option maxRecDepth 100000 in
theorem walk (w : World) (l : Option Addr) (lenl capl : Nat) (zl : List Int) (w0 : IsRow .i64 w l lenl capl zl) (k : Option Addr) (lenk capk : Nat) (zk : List Int) (w1 : IsRow .i64 w k lenk capk zk) : -- the walk
    Calls Try.prog 4 #[.slice l lenl capl, .slice k lenk capk] w fun e w' => e = .returned (.bool true) ∧ Below w.heap.size w w' := by
  have hk := lKnown4
  unfold SaysYes at hk
  obtain ⟨L, rfl, hLc, hLi, hL⟩ := RL_of w0
  obtain ⟨K, rfl, hKc, hKi, hK⟩ := RL_of w1
  have HLC := Lib.hid hLc
  have HKC := Lib.hid hKc
  clear hLc hKc
  clear w0 w1
  by_cases hl : 20 < L.length
  · have d1 : (decide ((20 : Int) < (L.length : Int))) = true := by simp; omega
    go_enter Try.func4, Try.ntmps4
    go_wp2_with (first | (go_at_call 3; first | (with_reducible refine Calls_past2 (hk _) (fun z => ?_)) | (with_reducible refine Calls_past (hk _) (fun z => ?_))))
    go_ret
    exact ⟨rfl, by (repeat (first | assumption | exact Below.refl _ _ | with_reducible refine past_t _ ?_ | with_reducible refine below_a _ ?_ | with_reducible refine Below.drew ?_ | with_reducible refine below_d _ ?_ | (with_reducible refine Below.setCell ?_ (by (show _ ≤ _; repeat (first | exact Nat.le_refl _ | with_reducible exact le_past (Nat.le_refl _) | with_reducible refine le_past ?_ | with_reducible refine le_al ?_ | with_reducible refine le_set ?_ | with_reducible refine le_p1 ?_))) _)))⟩
  by_cases hkk : 20 < K.length
  · have d1 : (decide ((20 : Int) < (L.length : Int))) = false := by simp; omega
    have d2 : (decide ((20 : Int) < (K.length : Int))) = true := by simp; omega
    go_enter Try.func4, Try.ntmps4
    go_wp2_with (first | (go_at_call 3; first | (with_reducible refine Calls_past2 (hk _) (fun z => ?_)) | (with_reducible refine Calls_past (hk _) (fun z => ?_))))
    go_ret
    exact ⟨rfl, by (repeat (first | assumption | exact Below.refl _ _ | with_reducible refine past_t _ ?_ | with_reducible refine below_a _ ?_ | with_reducible refine Below.drew ?_ | with_reducible refine below_d _ ?_ | (with_reducible refine Below.setCell ?_ (by (show _ ≤ _; repeat (first | exact Nat.le_refl _ | with_reducible exact le_past (Nat.le_refl _) | with_reducible refine le_past ?_ | with_reducible refine le_al ?_ | with_reducible refine le_set ?_ | with_reducible refine le_p1 ?_))) _)))⟩
  have d1 : (decide ((20 : Int) < (L.length : Int))) = false := by simp; omega
  have d2 : (decide ((20 : Int) < (K.length : Int))) = false := by simp; omega
  have HL := Lib.hid hL
  have HK := Lib.hid hK
  clear hL hK
  go_enter Try.func4, Try.ntmps4
  go_upto_region 7 with (first | (go_at_call 3; first | (with_reducible refine Calls_past2 (hk _) (fun z => ?_)) | (with_reducible refine Calls_past (hk _) (fun z => ?_))) | (go_at_call 13; refine (uNew _).mono ?_; rintro e w1 ⟨rfl, rfl⟩))
  have hBV : Below w.heap.size w ((past w z).alloc (.cells #[.bool false, .int .i64 0, .bool true] 32)) := by (repeat (first | assumption | exact Below.refl _ _ | with_reducible refine past_t _ ?_ | with_reducible refine below_a _ ?_ | with_reducible refine Below.drew ?_ | with_reducible refine below_d _ ?_ | (with_reducible refine Below.setCell ?_ (by (show _ ≤ _; repeat (first | exact Nat.le_refl _ | with_reducible exact le_past (Nat.le_refl _) | with_reducible refine le_past ?_ | with_reducible refine le_al ?_ | with_reducible refine le_set ?_ | with_reducible refine le_p1 ?_))) _)))
  have hUA : UA (w.heap.size + gap w z) false 0 ((past w z).alloc (.cells #[.bool false, .int .i64 0, .bool true] 32)) := ⟨by (first | (simp [go_sem]; done) | (simp [go_sem, ↓IntWalk.iteOmega]; done)), by (first | (simp [go_sem]; done) | (simp [go_sem, ↓IntWalk.iteOmega]; done)), by (first | (simp [go_sem]; done) | (simp [go_sem, ↓IntWalk.iteOmega]; done)), by (first | (simp [go_sem]; done) | (simp [go_sem, ↓IntWalk.iteOmega]; done)), by (first | (simp [go_sem]; done) | (simp [go_sem, ↓IntWalk.iteOmega]; done))⟩
  obtain ⟨U, hU⟩ : ∃ U, w.heap.size + gap w z = U := ⟨_, rfl⟩
  obtain ⟨V, hV⟩ : ∃ V, (past w z).alloc (.cells #[.bool false, .int .i64 0, .bool true] 32) = V := ⟨_, rfl⟩
  rw [hV] at hBV hUA
  rw [hU] at hUA
  have hUw : w.heap.size ≤ U := by omega
  rw [hU, hV]
  clear hU hV d1 d2
  have sl := HL.out.sl hBV hUw (by omega) capl
  have sk := HK.out.sl hBV hUw (by omega) capk
  have HL0 := HL
  have HK0 := HK
  have HLV := Lib.hid (HL.out.keep hBV)
  have HKV := Lib.hid (HK.out.keep hBV)
  have SLV := Lib.hid sl
  have SKV := Lib.hid sk
  have HUA := Lib.hid hUA
  have hUV := hUA.lt
  clear sl sk hUA
  go_wp2_with fail
  go_loopg [7, 9, 10, 11] L.length (fun g s7 s9 s10 s11 wr => ∃ (k : Nat) (c : Bool), k ≤ L.length ∧ L.length ≤ g + k ∧ s7 = .int .i64 (runL opAdd (0, false) (L.take k)).1 ∧ s9 = .bool (runL opAdd (0, false) (L.take k)).2 ∧ s10 = .bool c ∧ s11 = .int .i64 k ∧ ∃ z, wr = past V z)
  case atStart => exact ⟨0, false, by omega, by omega, by simp [runL], by simp [runL], rfl, rfl, _, past_of (Below.refl _ _)⟩
  case round =>
    obtain ⟨k, c, hk1, hg, rfl, rfl, rfl, rfl, z, rfl⟩ := hrel
    have hin := runL_in opAdd_in (p := (0, false)) (show InI (0 : Int) from ⟨by omega, by omega⟩) (L.take k)
    obtain ⟨P, hP⟩ : ∃ P, runL opAdd (0, false) (L.take k) = P := ⟨_, rfl⟩
    rw [hP] at hin ⊢
    by_cases hlt : k < L.length
    · obtain ⟨b, o, rfl, hbw, hrow⟩ := HLV.out (by omega)
      have hx := hLi.get hlt
      have hcell := hrow k hlt
      have hnx := runL_next opAdd (0, false) L k hlt
      rw [hP] at hnx
      obtain ⟨x, hxx⟩ : ∃ x, L.getD k 0 = x := ⟨_, rfl⟩
      rw [hxx] at hx hcell hnx
      have hop : ∀ w, Calls Try.prog 21 #[.int .i64 P.1, .int .i64 x] w fun e w' => e = .returned (.tuple #[.int .i64 (opAdd P.1 x).1, .bool (opAdd P.1 x).2]) ∧ Below w.heap.size w w' := fun w => fAdd P.1 x w hin hx
      obtain ⟨n, cut⟩ := P
      obtain ⟨p, hp⟩ : ∃ p, opAdd n x = p := ⟨_, rfl⟩
      simp only at hop hnx hin ⊢
      have hac : acc opAdd (n, cut) x = (p.1, cut || p.2) := by unfold acc; simp only [hp]
      rw [hac] at hnx
      rw [hp] at hop
      have HX := Lib.hid hnx
      have HR := Lib.hid hrow
      clear hP hnx hxx hp hac hrow
      go_wp2_with (first | (go_at_call 21; first | (with_reducible refine Calls_past2 (hop _) (fun z => ?_)) | (with_reducible refine Calls_past (hop _) (fun z => ?_))))
      all_goals
        go_roundg (L.length - (k + 1))
        case measure => omega
        case rel => exact ⟨k + 1, p.2, by omega, by omega, by rw [HX.out], by rw [HX.out]; simp_all, rfl, by go_num, z, rfl⟩
    · obtain rfl : k = L.length := by omega
      rw [List.take_of_length_le (Nat.le_refl _)] at hP
      have hzl : AllI L := hLi
      have ha : ∀ z, Calls Try.prog 17 #[UP U, .slice l L.length capl] (past V z) fun e w' => e = .returned (.int .i64 P.1) ∧ Below (put U P.2 (L.length : Int) V).heap.size (put U P.2 (L.length : Int) V) w' := by
        intro z
        have h := uAdd (HUA.out.keep (past_below V z)) _ L hLi (SLV.out.keep (past_below V z)) (by omega)
        rw [hP] at h
        refine h.mono fun e w' ⟨e1, e2⟩ => ⟨e1, ?_⟩
        have := lift_put (past_below V z) e2
        rw [Int.zero_add] at this; exact this
      have hcu := fun (z : World) => uCut (ua_past HUA.out P.2 (L.length : Int) z)
      have hco := fun (z : World) => uCount (ua_past HUA.out P.2 (L.length : Int) z)
      have HP := Lib.hid hP
      clear hP
      obtain ⟨S, I⟩ := P
      simp only at ha hcu hco hin ⊢
      go_upto_if 75 with (first | (go_at_call 17; with_reducible refine Calls_to (ha _) (fun z => ?_)) | (go_at_call 15; first | (with_reducible refine Calls_past2 (hcu _) (fun z => ?_)) | (with_reducible refine Calls_past (hcu _) (fun z => ?_))) | (go_at_call 16; first | (with_reducible refine Calls_past2 (hco _) (fun z => ?_)) | (with_reducible refine Calls_past (hco _) (fun z => ?_))))
      go_cut [12, 13, 14] (fun s12 s13 s14 wc => ∃ z, wc = past (put U I (L.length : Int) V) z)
      case first =>
        cases I
        · have hb2 : Below w.heap.size w (put U false (L.length : Int) V) := below_putn _ _ hBV hUw
          have hr2 : RL (put U false (L.length : Int) V) l L := by
            intro h0
            obtain ⟨b, o, e1, e2, e3⟩ := HL0.out h0
            exact (RL.put (HLV.out) false _ (fun b' o' e' => by rw [e1] at e'; cases e'; omega)) h0
          obtain ⟨W, hW⟩ : ∃ W, put U false (L.length : Int) V = W := ⟨_, rfl⟩
          rw [hW] at hb2 hr2 ⊢
          have HR2 := Lib.hid hr2
          have HB2 := Lib.hid hb2
          have key : ∀ X, Below W.heap.size W X → ∃ z, X = past (put U false (L.length : Int) V) z := fun X h => ⟨X, by rw [hW]; exact past_of h⟩
          have KEY := Lib.hid key
          clear hr2 hb2 hW ha hcu hco key
          go_wp2_with fail
          go_loopg [12, 13] L.length (fun g s12 s13 wr => ∃ m : Nat, m ≤ L.length ∧ m ≤ g ∧ s13 = .int .i64 ((m : Int) - 1) ∧ ∃ z, wr = past W z ∧ Own W wr s12 (backw L (L.length - m)))
          case atStart => exact ⟨L.length, by omega, by omega, rfl, _, rfl, by rw [Nat.sub_self]; exact Own.nil _ _⟩
          case round =>
            obtain ⟨m, hm, hg, rfl, z, rfl, hown⟩ := hrel
            have HO := Lib.hid hown
            clear hown
            by_cases hm0 : m = 0
            · subst hm0
              have e0 : ((0 : Nat) : Int) - 1 = -1 := by omega
              rw [e0]
              have hbl := backw_len L (L.length - 0)
              have hbi := backw_in hLi (L.length - 0) (by omega)
              have hbr := backw_rev L (L.length - 0) (by omega)
              obtain ⟨BK, hBK⟩ : ∃ BK, backw L (L.length - 0) = BK := ⟨_, rfl⟩
              have hown := HO.out
              rw [hBK] at hbl hbi hbr hown
              have hXs : SL ((past W z).alloc (.cells #[.bool false, .int .i64 0, .bool true] 32)) (W.heap.size + gap W z) u12 BK :=
                (hown.slN _ (by rw [size_past]; exact Nat.le_refl _) (by omega)).keep ((Below.refl _ _).alloc (Nat.le_refl _) _)
              have hXu : UA (W.heap.size + gap W z) false 0 ((past W z).alloc (.cells #[.bool false, .int .i64 0, .bool true] 32)) := ⟨by (first | (simp [go_sem]; done) | (simp [go_sem, ↓IntWalk.iteOmega]; done)), by (first | (simp [go_sem]; done) | (simp [go_sem, ↓IntWalk.iteOmega]; done)), by (first | (simp [go_sem]; done) | (simp [go_sem, ↓IntWalk.iteOmega]; done)), by (first | (simp [go_sem]; done) | (simp [go_sem, ↓IntWalk.iteOmega]; done)), by (first | (simp [go_sem]; done) | (simp [go_sem, ↓IntWalk.iteOmega]; done))⟩
              have ha2 := uAdd hXu u12 BK hbi hXs (by omega)
              obtain ⟨d, hd⟩ : ∃ d : Int, 0 + (BK.length : Int) = d := ⟨_, rfl⟩
              obtain ⟨r, hr⟩ : ∃ r, runL opAdd (0, false) BK = r := ⟨_, rfl⟩
              rw [hd, hr] at ha2
              obtain ⟨s2, c2⟩ := r
              simp only at ha2
              have hcase : (s2 != S) = false ∨ (s2 != S) = true ∧ c2 = true := by
                by_cases hs : s2 = S
                · exact .inl (by simpa using hs)
                · refine .inr ⟨by simpa using hs, ?_⟩
                  cases c2
                  · exfalso
                    have e1 := (run_sum (zs := L) (n := 0) (s := S) (i := false) ⟨by omega, by omega⟩ HP.out).2
                    have e2 := (run_sum (zs := BK) (n := 0) (s := s2) (i := false) ⟨by omega, by omega⟩ hr).2
                    have e3 : BK = L.reverse := by rw [hbr]; simp
                    rw [e3, sum_rev] at e2
                    exact hs (by omega)
                  · rfl
              clear hd hr hbl hbi hbr hXs hXu hown hBK e0
              rcases hcase with h1 | ⟨h1, rfl⟩
              all_goals
                go_wp2_with (first | (go_at_call 13; refine (uNew _).mono ?_; rintro e w1 ⟨rfl, rfl⟩) | (go_at_call 17; with_reducible refine Calls_to (ha2) (fun z => ?_)) | (go_at_call 15; first | (with_reducible refine Calls_past2 (uCut (i := true) (c := d) ?_) (fun z => ?_); (focus ((refine ⟨?_, ?_, ?_, ?_, ?_⟩ <;> (first | (simp [go_sem]; done) | (simp [go_sem, ↓IntWalk.iteOmega]; done))); done))) | (with_reducible refine Calls_past (uCut (i := true) (c := d) ?_) (fun z => ?_); (focus ((refine ⟨?_, ?_, ?_, ?_, ?_⟩ <;> (first | (simp [go_sem]; done) | (simp [go_sem, ↓IntWalk.iteOmega]; done))); done)))))
                go_meet
                refine KEY.out _ ?_
                (repeat (first | assumption | exact Below.refl _ _ | with_reducible refine past_t _ ?_ | with_reducible refine below_a _ ?_ | with_reducible refine Below.drew ?_ | with_reducible refine below_d _ ?_ | (with_reducible refine Below.setCell ?_ (by (show _ ≤ _; repeat (first | exact Nat.le_refl _ | with_reducible exact le_past (Nat.le_refl _) | with_reducible refine le_past ?_ | with_reducible refine le_al ?_ | with_reducible refine le_set ?_ | with_reducible refine le_p1 ?_))) _)))
            · obtain ⟨j, rfl⟩ : ∃ j, m = j + 1 := ⟨m - 1, by omega⟩
              have ej : ((j + 1 : Nat) : Int) - 1 = (j : Int) := by omega
              rw [ej]
              obtain ⟨b, o, rfl, hbw, hrow⟩ := HR2.out (by omega)
              have hcell := hrow j (by omega)
              have hbk : backw L (L.length - j) = backw L (L.length - (j + 1)) ++ [L.getD j 0] := by
                have e : L.length - j = (L.length - (j + 1)) + 1 := by omega
                rw [e]
                show backw L (L.length - (j + 1)) ++ [L.getD (L.length - 1 - (L.length - (j + 1))) 0] = _
                rw [show L.length - 1 - (L.length - (j + 1)) = j from by omega]
              have hbl := backw_len L (L.length - (j + 1))
              obtain ⟨x, hxx⟩ : ∃ x, L.getD j 0 = x := ⟨_, rfl⟩
              rw [hxx] at hcell hbk
              have HK2 := Lib.hid hbk
              have HBL := Lib.hid hbl
              have HRW := Lib.hid hrow
              clear ej hxx hbk hbl hrow
              go_wp2_with (at_builtin; refine append_int rfl _ _ rfl W (below_a _ (past_below _ _)) _ (backw L (L.length - (j + 1))) rfl (HO.out.keep _) _ _ x rfl ?_ ?_ ?_; (focus ((first | (simp [go_sem]; done) | (simp [go_sem, ↓IntWalk.iteOmega]; done)); done)); (focus ((rw [HBL.out]; omega); done)); intro v2 z2 hown2; rw [← HK2.out] at hown2; have HO2 := Lib.hid hown2; clear hown2)

              go_roundg j
              case measure => omega
              case rel => exact ⟨j, by omega, by omega, rfl, z2, rfl, HO2.out⟩
        · go_wp2_with fail
          go_meet
          exact ⟨_, rfl⟩
      case rest =>
        obtain ⟨z, rfl⟩ := hcut
        have hb2 : Below w.heap.size w (put U I (L.length : Int) V) := below_putn _ _ hBV hUw
        have hrl : RL (put U I (L.length : Int) V) l L := fun h0 => by
          obtain ⟨b, o, e1, e2, e3⟩ := HL0.out h0
          exact (RL.put (HLV.out) I _ (fun b' o' e' => by rw [e1] at e'; cases e'; omega)) h0
        have hrk : RL (put U I (L.length : Int) V) k K := fun h0 => by
          obtain ⟨b, o, e1, e2, e3⟩ := HK0.out h0
          exact (RL.put (HKV.out) I _ (fun b' o' e' => by rw [e1] at e'; cases e'; omega)) h0
        have hua := HUA.out.put I (L.length : Int)
        have hsl := SLV.out.put I (L.length : Int)
        have hsk := SKV.out.put I (L.length : Int)
        obtain ⟨W, hW⟩ : ∃ W, put U I (L.length : Int) V = W := ⟨_, rfl⟩
        rw [hW] at hb2 hrl hrk hua hsl hsk ⊢
        have HRL := Lib.hid hrl
        have HRK := Lib.hid hrk
        have HB2 := Lib.hid hb2
        have HUW := Lib.hid hua
        have HSL := Lib.hid hsl
        have HSK := Lib.hid hsk
        have hUW := hua.lt
        clear hrl hrk hb2 hua hsl hsk hW ha hcu hco HUA SLV SKV HLV HKV HL0 HK0 hUV
        go_wp2_with fail
        go_loopg [8, 9, 10, 15] L.length (fun g s8 s9 s10 s15 wr => ∃ (j : Nat) (c : Bool), j ≤ L.length ∧ L.length ≤ g + j ∧ s8 = .int .i64 (runL opMul (4294967296, I) (L.take j)).1 ∧ s9 = .bool (runL opMul (4294967296, I) (L.take j)).2 ∧ s10 = .bool c ∧ s15 = .int .i64 j ∧ ∃ z, wr = past W z)
        case atStart => exact ⟨0, _, by omega, by omega, by simp [runL], by simp [runL], rfl, rfl, _, rfl⟩
        case round =>
          obtain ⟨j, c, hj1, hg, rfl, rfl, rfl, rfl, z, rfl⟩ := hrel
          have hin2 := runL_in opMul_in (p := (4294967296, I)) (show InI (4294967296 : Int) from ⟨by omega, by omega⟩) (L.take j)
          obtain ⟨P, hP⟩ : ∃ P, runL opMul (4294967296, I) (L.take j) = P := ⟨_, rfl⟩
          rw [hP] at hin2 ⊢
          by_cases hlt : j < L.length
          · obtain ⟨b, o, rfl, hbw, hrow⟩ := HRL.out (by omega)
            have hx := hLi.get hlt
            have hcell := hrow j hlt
            have hnx := runL_next opMul (4294967296, I) L j hlt
            rw [hP] at hnx
            obtain ⟨x, hxx⟩ : ∃ x, L.getD j 0 = x := ⟨_, rfl⟩
            rw [hxx] at hx hcell hnx
            have hop : ∀ w, Calls Try.prog 22 #[.int .i64 P.1, .int .i64 x] w fun e w' => e = .returned (.tuple #[.int .i64 (opMul P.1 x).1, .bool (opMul P.1 x).2]) ∧ Below w.heap.size w w' := fun w => fMul P.1 x w hin2 hx
            obtain ⟨n, cut⟩ := P
            obtain ⟨p, hp⟩ : ∃ p, opMul n x = p := ⟨_, rfl⟩
            simp only at hop hnx hin2 ⊢
            have hac : acc opMul (n, cut) x = (p.1, cut || p.2) := by unfold acc; simp only [hp]
            rw [hac] at hnx
            rw [hp] at hop
            have HX := Lib.hid hnx
            have HR := Lib.hid hrow
            clear hP hnx hxx hp hac hrow
            go_wp2_with (first | (go_at_call 22; first | (with_reducible refine Calls_past2 (hop _) (fun z => ?_)) | (with_reducible refine Calls_past (hop _) (fun z => ?_))))
            all_goals
              go_roundg (L.length - (j + 1))
              case measure => omega
              case rel => exact ⟨j + 1, p.2, by omega, by omega, by rw [HX.out], by rw [HX.out]; simp_all, rfl, by go_num, z, rfl⟩
          · obtain rfl : j = L.length := by omega
            rw [List.take_of_length_le (Nat.le_refl _)] at hP
            have ha : ∀ z, Calls Try.prog 23 #[UP U, .slice l L.length capl] (past W z) fun e w' => e = .returned (.int .i64 P.1) ∧ Below (put U P.2 ((L.length : Int) + L.length) W).heap.size (put U P.2 ((L.length : Int) + L.length) W) w' := by
              intro z
              have h := uMul (HUW.out.keep (past_below W z)) _ L hLi (HSL.out.keep (past_below W z)) (by omega)
              rw [hP] at h
              exact h.mono fun e w' ⟨e1, e2⟩ => ⟨e1, lift_put (past_below W z) e2⟩
            have hcu := fun (z : World) => uCut (ua_past HUW.out P.2 ((L.length : Int) + L.length) z)
            have HP2 := Lib.hid hP
            clear hP
            obtain ⟨S3, I3⟩ := P
            simp only at ha hcu hin2 ⊢
            go_upto_region 31 with (first | (go_at_call 23; with_reducible refine Calls_to (ha _) (fun z => ?_)) | (go_at_call 15; first | (with_reducible refine Calls_past2 (hcu _) (fun z => ?_)) | (with_reducible refine Calls_past (hcu _) (fun z => ?_))))
            have hua4 := HUW.out.put I3 ((L.length : Int) + L.length)
            have hsl4 := HSL.out.put I3 ((L.length : Int) + L.length)
            have hsk4 := HSK.out.put I3 ((L.length : Int) + L.length)
            have hb4 : Below w.heap.size w (put U I3 ((L.length : Int) + L.length) W) := below_putn _ _ HB2.out hUw
            obtain ⟨X, hX⟩ : ∃ X, put U I3 ((L.length : Int) + L.length) W = X := ⟨_, rfl⟩
            obtain ⟨C, hC⟩ : ∃ C : Int, (L.length : Int) + L.length = C := ⟨_, rfl⟩
            rw [hX] at hua4 hsl4 hsk4 hb4 ⊢
            rw [hC] at hua4
            obtain ⟨N, hN⟩ : ∃ N, min L.length K.length = N := ⟨_, rfl⟩
            have hmin : min (L.length : Int) (K.length : Int) = (N : Int) := by omega
            have hN1 : N ≤ L.length := by omega
            have hN2 : N ≤ K.length := by omega
            have HUA4 := Lib.hid hua4
            have HSL4 := Lib.hid hsl4
            have HSK4 := Lib.hid hsk4
            have HB4 := Lib.hid hb4
            have HCC := Lib.hid hC
            clear hua4 hsl4 hsk4 hb4 hX hC hN HUW HSL HSK HB2 HRL HRK ha hcu hUW
            go_wp2_with fail
            go_loopg [9, 10, 17, 18, 19] N (fun g s9 s10 s17 s18 s19 wr => ∃ (j : Nat) (c : Bool), j ≤ N ∧ N ≤ g + j ∧ s17 = .int .i64 (runD (0, I3) L K j).1 ∧ s9 = .bool (runD (0, I3) L K j).2 ∧ s10 = .bool c ∧ s19 = .int .i64 j ∧ ∃ z, wr = past X z)
            case atStart => exact ⟨0, _, Nat.zero_le _, Nat.le_add_right _ _, rfl, rfl, rfl, rfl, _, rfl⟩
            case round =>
              obtain ⟨j, c, hj1, hg, rfl, rfl, rfl, rfl, z, rfl⟩ := hrel
              have hin4 := runD_in (p := (0, I3)) (show InI (0 : Int) from ⟨by omega, by omega⟩) L K j
              obtain ⟨P, hP⟩ : ∃ P, runD (0, I3) L K j = P := ⟨_, rfl⟩
              rw [hP] at hin4 ⊢
              by_cases hlt : j < N
              · obtain ⟨b, o, rfl, hbU, hbw, hrow⟩ := HSL4.out.row (by omega)
                obtain ⟨b', o', rfl, hbU', hbw', hrow'⟩ := HSK4.out.row (by omega)
                have hx := hLi.get (show j < L.length by omega)
                have hy := hKi.get (show j < K.length by omega)
                have hcell := hrow j (by omega)
                have hcell' := hrow' j (by omega)
                have hjl : (j : Int) < (L.length : Int) := by omega
                have hjk : (j : Int) < (K.length : Int) := by omega
                have hnx : runD (0, I3) L K (j + 1) = accD (runD (0, I3) L K j) (L.getD j 0) (K.getD j 0) := rfl
                rw [hP] at hnx
                obtain ⟨x, hxx⟩ : ∃ x, L.getD j 0 = x := ⟨_, rfl⟩
                obtain ⟨y, hyy⟩ : ∃ y, K.getD j 0 = y := ⟨_, rfl⟩
                rw [hxx] at hx hcell hnx
                rw [hyy] at hy hcell' hnx
                obtain ⟨n, cut⟩ := P
                have hpi := opMul_in x y
                have hm : ∀ w, Calls Try.prog 22 #[.int .i64 x, .int .i64 y] w fun e w' => e = .returned (.tuple #[.int .i64 (opMul x y).1, .bool (opMul x y).2]) ∧ Below w.heap.size w w' := fun w => fMul x y w hx hy
                obtain ⟨p, hp⟩ : ∃ p, opMul x y = p := ⟨_, rfl⟩
                rw [hp] at hpi hm
                have hs : ∀ w, Calls Try.prog 21 #[.int .i64 n, .int .i64 p.1] w fun e w' => e = .returned (.tuple #[.int .i64 (opAdd n p.1).1, .bool (opAdd n p.1).2]) ∧ Below w.heap.size w w' := fun w => fAdd n p.1 w hin4 hpi
                obtain ⟨q, hq⟩ : ∃ q, opAdd n p.1 = q := ⟨_, rfl⟩
                have hac : accD (n, cut) x y = (q.1, (cut || p.2) || q.2) := by unfold accD; simp only [hp, hq]
                rw [hac] at hnx
                rw [hq] at hs
                obtain ⟨p1, p2⟩ := p
                obtain ⟨q1, q2⟩ := q
                simp only at hm hs hnx hin4 ⊢
                have HX := Lib.hid hnx
                have HR := Lib.hid hrow
                have HR' := Lib.hid hrow'
                clear hP hnx hxx hyy hp hq hac hrow hrow' hpi
                go_wp2_with fail
                (first | refine region_past2 (by kernel_rfl) (by kernel_rfl) ?_ | refine region_past (by kernel_rfl) (by kernel_rfl) ?_)
                repeat (go_big_quiet_step ((go_at_call 22; with_reducible exact Calls_pastq (hm _))))
                refine wpQuiet_nil ?_; rintro _ ⟨y, rfl⟩
                go_wp2_with (first | (go_at_call 21; first | (with_reducible refine Calls_past2 (hs _) (fun z => ?_)) | (with_reducible refine Calls_past (hs _) (fun z => ?_))))
                all_goals
                  go_roundg (N - (j + 1))
                  case measure => omega
                  case rel => exact ⟨j + 1, q2, by omega, by omega, by rw [HX.out], by rw [HX.out]; clear hm hs HX HR HR' hx hy hcell hcell' hin4; cases cut <;> cases p2 <;> cases q2 <;> first | rfl | contradiction | (simp; done), rfl, by go_num, _, rfl⟩
              · obtain rfl : j = N := by omega
                have hd : ∀ z, Calls Try.prog 14 #[UP U, .slice l j capl, .slice k j capk] (past X z).drew fun e w' => e = .returned (.tuple #[.int .i64 P.1, .int .i64 0]) ∧ Below (put U P.2 (C + 2 * (j : Int)) X).heap.size (put U P.2 (C + 2 * (j : Int)) X) w' := by
                  intro z
                  have hl1 : (L.take j).length = j := by simp; omega
                  have hl2 : (K.take j).length = j := by simp; omega
                  have kp : Below X.heap.size X (past X z).drew := (past_below X z).drew
                  have h := uDot (HUA4.out.keep kp) _ _ (L.take j) (K.take j) (hLi.take j) (hKi.take j) ((HSL4.out.take j hN1 capl).keep kp) ((HSK4.out.take j hN2 capk).keep kp) (by omega) (by have := HCC.out; omega)
                  rw [hl1, runD_take _ _ _ _ _ (Nat.le_refl _), hP] at h
                  exact h.mono fun e w' ⟨e1, e2⟩ => ⟨e1, lift_put kp e2⟩
                obtain ⟨D, hD⟩ : ∃ D : Int, 2 * (L.length : Int) + 2 * (j : Int) = D := ⟨_, rfl⟩
                have eD : C + 2 * (j : Int) = D := by have := HCC.out; omega
                rw [eD] at hd
                have hcu4 := fun (z : World) => uCut (ua_past HUA4.out P.2 D z)
                have hco4 := fun (z : World) => uCount (ua_past HUA4.out P.2 D z)
                have hN3 : (j : Int) ≤ (capl : Int) := by have := HLC.out.1; omega
                have hN4 : (j : Int) ≤ (capk : Int) := by have := HKC.out.1; omega
                have HBE := HB4
                clear eD hP
                obtain ⟨P1, P2⟩ := P
                simp only at hd hcu4 hco4 hin4 ⊢
                rcases l with _ | ⟨lb, lo, ls⟩ <;> rcases k with _ | ⟨kb, ko, ks⟩
                · obtain rfl : capl = 0 := HLC.out.2 rfl
                  obtain rfl : capk = 0 := HKC.out.2 rfl
                  obtain rfl : j = 0 := by omega
                  have hD2 : 2 * (L.length : Int) = D := by omega
                  have hd0 : ∀ z, Calls Try.prog 14 #[UP U, .slice none 0 0, .slice none 0 0] (past X z).drew fun e w' => e = .returned (.tuple #[.int .i64 P1, .int .i64 0]) ∧ Below (put U P2 D X).heap.size (put U P2 D X) w' := hd
                  clear hd hD
                  go_wp2_with fail
                  go_region_with ((go_at_call 14; with_reducible refine Calls_to (hd0 _) (fun z => ?_)))
                  all_goals
                    go_wp2_with (first | (go_at_call 15; first | (with_reducible refine Calls_past2 (hcu4 _) (fun z => ?_)) | (with_reducible refine Calls_past (hcu4 _) (fun z => ?_))) | (go_at_call 16; first | (with_reducible refine Calls_past2 (hco4 _) (fun z => ?_)) | (with_reducible refine Calls_past (hco4 _) (fun z => ?_))))
                    go_ret
                    exact ⟨rfl, past_t _ (below_putn _ _ HBE.out hUw)⟩
                · obtain rfl : capl = 0 := HLC.out.2 rfl
                  obtain rfl : j = 0 := by omega
                  have hD2 : 2 * (L.length : Int) = D := by omega
                  have hd0 : ∀ z, Calls Try.prog 14 #[UP U, .slice none 0 0, .slice (some ⟨kb, ko, ks⟩) 0 capk] (past X z).drew fun e w' => e = .returned (.tuple #[.int .i64 P1, .int .i64 0]) ∧ Below (put U P2 D X).heap.size (put U P2 D X) w' := hd
                  clear hd hD
                  go_wp2_with fail
                  go_region_with ((go_at_call 14; with_reducible refine Calls_to (hd0 _) (fun z => ?_)))
                  all_goals
                    go_wp2_with (first | (go_at_call 15; first | (with_reducible refine Calls_past2 (hcu4 _) (fun z => ?_)) | (with_reducible refine Calls_past (hcu4 _) (fun z => ?_))) | (go_at_call 16; first | (with_reducible refine Calls_past2 (hco4 _) (fun z => ?_)) | (with_reducible refine Calls_past (hco4 _) (fun z => ?_))))
                    go_ret
                    exact ⟨rfl, past_t _ (below_putn _ _ HBE.out hUw)⟩
                · obtain rfl : capk = 0 := HKC.out.2 rfl
                  obtain rfl : j = 0 := by omega
                  have hD2 : 2 * (L.length : Int) = D := by omega
                  have hd0 : ∀ z, Calls Try.prog 14 #[UP U, .slice (some ⟨lb, lo, ls⟩) 0 capl, .slice none 0 0] (past X z).drew fun e w' => e = .returned (.tuple #[.int .i64 P1, .int .i64 0]) ∧ Below (put U P2 D X).heap.size (put U P2 D X) w' := hd
                  clear hd hD
                  go_wp2_with fail
                  go_region_with ((go_at_call 14; with_reducible refine Calls_to (hd0 _) (fun z => ?_)))
                  all_goals
                    go_wp2_with (first | (go_at_call 15; first | (with_reducible refine Calls_past2 (hcu4 _) (fun z => ?_)) | (with_reducible refine Calls_past (hcu4 _) (fun z => ?_))) | (go_at_call 16; first | (with_reducible refine Calls_past2 (hco4 _) (fun z => ?_)) | (with_reducible refine Calls_past (hco4 _) (fun z => ?_))))
                    go_ret
                    exact ⟨rfl, past_t _ (below_putn _ _ HBE.out hUw)⟩
                · go_wp2_with fail
                  go_region_with ((go_at_call 14; with_reducible refine Calls_to (hd _) (fun z => ?_)))
                  all_goals
                    go_wp2_with (first | (go_at_call 15; first | (with_reducible refine Calls_past2 (hcu4 _) (fun z => ?_)) | (with_reducible refine Calls_past (hcu4 _) (fun z => ?_))) | (go_at_call 16; first | (with_reducible refine Calls_past2 (hco4 _) (fun z => ?_)) | (with_reducible refine Calls_past (hco4 _) (fun z => ?_))))
                    go_ret
                    exact ⟨rfl, past_t _ (below_putn _ _ HBE.out hUw)⟩
set_option maxRecDepth 100000 in
theorem lifted (os : Os) (started : os.Started) (H : Type) (enc : TypeId × Value → H) :
    ReturnsInHanded {} Try.checked os 4 .any (Rows.unitSumsSpec.pre6 enc Try.prog Try.f4 Rows.unitSumsRow.domain false) (Rows.unitSumsSpec.post enc Try.prog Try.f4 false true false false) := by
  refine returnsInHanded_of_change (C := Try.checked) own started (by kernel_rfl) Try.func4
    (ChangeSpec.witness6 (enc := enc) (C := Try.checked) false ⟨#[], #[.slice none 0 0, .slice none 0 0], []⟩ 8 (by kernel_rfl) (by kernel_rfl) (by kernel_rfl) (by kernel_rfl)) ?_
  intro W base args ds gs before hval0 hW hcnd _
  have hval : ∀ (j : Nat) t v, Try.f4.params[j]? = some t → args[j]? = some v → Value.okWide Try.prog W .any base t v := hval0
  have hW' := hW
  obtain ⟨p, q, hA0, hV, rfl, hfz, hnd⟩ := hW
  have hA : DataW.TrodAll enc Try.prog W 0 (fun _ => true) true Try.f4.params.toList args.toList ds p := hA0
  rw [Try.params4] at hA hval
  obtain ⟨v0, vs0, d0, ds0, p0, q0, hargs, rfl, rfl, h0, r0⟩ := trodAll_cons hA
  obtain ⟨v1, vs1, d1, ds1, p1, q1, rfl, rfl, rfl, h1, r1⟩ := trodAll_cons r0
  obtain ⟨rfl, rfl, rfl⟩ := trodAll_nil r1
  obtain rfl : args = #[v0, v1] := by cases args; simp_all
  obtain ⟨rfl, rfl⟩ := trodVars_none hV
  obtain ⟨l, lenl, capl, rfl⟩ := okWide_slice Try.underlying27 (hval 0 27 v0 rfl rfl)
  have k0 := h0
  have lt0 : ∀ x ∈ p0, x.block < W.heap.size := by obtain ⟨m, hm⟩ := k0; exact DataW.trod_lt m _ _ _ hm
  obtain ⟨zl, w0⟩ : ∃ zs, IsRow .i64 W l lenl capl zs := by
    obtain ⟨fuel, hf⟩ := h0
    rcases open_ints Try.underlying27 Try.underlying3 (by kernel_rfl) hf with ⟨hcs, _⟩ | ⟨x, l, c, zs, hcs, _, hl, hm, hz, _, hcell, hwz⟩
    · simp [Value.cells] at hcs
      obtain ⟨rfl, rfl, rfl⟩ := hcs
      exact ⟨[], .inl ⟨rfl, rfl, rfl, rfl⟩⟩
    · simp [Value.cells] at hcs
      obtain ⟨rfl, rfl, rfl⟩ := hcs
      exact ⟨zs, .inr ⟨_, rfl, hl, hm, by simpa using hz, hcell, hwz⟩⟩
  obtain ⟨k, lenk, capk, rfl⟩ := okWide_slice Try.underlying27 (hval 1 27 v1 rfl rfl)
  have k1 := h1
  have lt1 : ∀ x ∈ p1, x.block < W.heap.size := by obtain ⟨m, hm⟩ := k1; exact DataW.trod_lt m _ _ _ hm
  obtain ⟨zk, w1⟩ : ∃ zs, IsRow .i64 W k lenk capk zs := by
    obtain ⟨fuel, hf⟩ := h1
    rcases open_ints Try.underlying27 Try.underlying3 (by kernel_rfl) hf with ⟨hcs, _⟩ | ⟨x, l, c, zs, hcs, _, hl, hm, hz, _, hcell, hwz⟩
    · simp [Value.cells] at hcs
      obtain ⟨rfl, rfl, rfl⟩ := hcs
      exact ⟨[], .inl ⟨rfl, rfl, rfl, rfl⟩⟩
    · simp [Value.cells] at hcs
      obtain ⟨rfl, rfl, rfl⟩ := hcs
      exact ⟨zs, .inr ⟨_, rfl, hl, hm, by simpa using hz, hcell, hwz⟩⟩
  clear hA0 hval0
  refine (walk W l lenl capl zl w0 k lenk capk zk w1).mono fun e W' ⟨he, bel⟩ => ?_
  subst he
  exact ⟨_, rfl, _, _, _, [], _, [], hW', trodAll_mk1 (shut_bool Try.underlying4 _), (trodAll_cons_mk (Below.trod laidOut (by kernel_rfl) (of_decide_eq_true (by kernel_rfl)) k0 bel lt0) (trodAll_cons_mk (Below.trod laidOut (by kernel_rfl) (of_decide_eq_true (by kernel_rfl)) k1 bel lt1) trodAll_mk0)), rfl, bel.frame _, fun h => by cases h⟩
theorem over : Rows.unitSumsRow.holds Try.pinned (OpenSpec.ofChange Rows.unitSumsSpec) :=
  OpenClaim.holds_of_wide 4 Try.f4 rfl rfl rfl rfl rfl rfl rfl ⟨rfl, rfl, rfl, rfl, rfl⟩ rfl rfl rfl rfl rfl (by kernel_rfl) Try.func4 (by kernel_rfl)
    (of_decide_eq_true (by kernel_rfl)) (by unfold Func.isWrapper; first | (rw [if_pos (by decide +kernel)]; kernel_rfl) | (rw [if_neg (by decide +kernel)]; exact ⟨rfl, rfl⟩))
    (fun os started H enc _ => lifted os started H enc)
theorem proved : Rows.UnitSumsSaid := over
#print axioms proved
end Go.Proofs.Ytijnillcklcgbaa.unitSums
