/- A frame of which bits are turned behind its mark and length, all within 32 in a row, is refused for its sum. -/
import Derived.Test.YtlioogkcndahnaaFrame13
import Derived.Deep.DeepCutAuto
import Derived.Deep.LoopGhost
import Derived.WalkKit
import Derived.ProofKit
import Derived.OpenShut
import Derived.ShutString
import Derived.ChangeOld
import Derived.Below
import Derived.Lib.SmallJoins
namespace Go.Proofs.Ytlioogkcndahnaa.frameTurned
open Go.ChangeShapes Go.WideShapes Go.ChangeAt Go.RowKit
open Go.ChangeMaps (open_string shut_string)
open Go.Joins
set_option linter.unusedVariables false
theorem own : ownKnob Try.prog.godebug = none := by kernel_rfl
theorem laidOut : laidOutB Try.prog = true := by kernel_rfl
def IsRow (k : IntKind) (w : World) (a : Option Addr) (len cap : Nat) (zs : List Int) : Prop :=
  (a = none ∧ len = 0 ∧ cap = 0 ∧ zs = []) ∨
  ∃ x, a = some x ∧ len ≤ cap ∧ cap ≤ maxLen ∧ zs.length = cap ∧ (∀ i, i < zs.length → w.cell? (x.add i) = some (.int k (zs.getD i 0))) ∧ ∀ n ∈ zs, (Lit.int k n).wf = true
set_option maxHeartbeats 8000000 in
set_option maxRecDepth 100000 in
theorem walk (w : World) (body : Option Addr) (lenbody capbody : Nat) (zbody : List Int) (w0 : IsRow .u8 w body lenbody capbody zbody) (fr : Int) (w1 : (Lit.int .i64 fr).wf = true) (mask : Int) (w2 : (Lit.int .u32 mask).wf = true) : -- the walk
    Calls Try.prog 8 #[.slice body lenbody capbody, .int .i64 fr, .int .u32 mask] w fun e w' => e = .returned (.bool true) ∧ Below w.heap.size w w' := by
  obtain ⟨L, hrl, hL⟩ := RS_of w0
  obtain rfl := hrl.len
  clear w0
  have q1 := bounds_i64 w1
  have q2 := bounds_u32 w2
  obtain ⟨m, rfl⟩ : ∃ x : Nat, mask = (x : Int) := ⟨mask.toNat, by omega⟩
  clear w1 w2
  by_cases h0 : L.length = 0
  · have d1 : (((L.length : Nat) : Int) == 0) = true := by simpa using h0
    clear hrl hL
    go_enter Try.func8, Try.ntmps8
    go_wp2_with (first | (go_at_call 14; first | (with_reducible refine Calls_past2 (lAwake _) (fun z => ?_)) | (with_reducible refine Calls_past (lAwake _) (fun z => ?_))))
    go_ret
    exact ⟨rfl, by (repeat (first | assumption | exact Below.refl _ _ | with_reducible refine past_t _ ?_ | with_reducible refine below_a _ ?_ | with_reducible refine Below.drew ?_ | with_reducible refine below_d _ ?_ | (with_reducible refine Below.setCell ?_ (by (show _ ≤ _; repeat (first | exact Nat.le_refl _ | assumption | (omega; done) | with_reducible exact le_past (Nat.le_refl _) | with_reducible refine le_past ?_ | with_reducible refine le_al ?_ | with_reducible refine le_set ?_ | with_reducible refine le_p1 ?_))) _)))⟩
  have d1 : (((L.length : Nat) : Int) == 0) = false := beq_eq_false_iff_ne.2 (by omega)
  by_cases h1 : 1000 < L.length
  · have d2 : (decide ((1000 : Int) < (L.length : Int))) = true := by simp; omega
    clear hrl hL
    go_enter Try.func8, Try.ntmps8
    go_wp2_with (first | (go_at_call 14; first | (with_reducible refine Calls_past2 (lAwake _) (fun z => ?_)) | (with_reducible refine Calls_past (lAwake _) (fun z => ?_))))
    go_ret
    exact ⟨rfl, by (repeat (first | assumption | exact Below.refl _ _ | with_reducible refine past_t _ ?_ | with_reducible refine below_a _ ?_ | with_reducible refine Below.drew ?_ | with_reducible refine below_d _ ?_ | (with_reducible refine Below.setCell ?_ (by (show _ ≤ _; repeat (first | exact Nat.le_refl _ | assumption | (omega; done) | with_reducible exact le_past (Nat.le_refl _) | with_reducible refine le_past ?_ | with_reducible refine le_al ?_ | with_reducible refine le_set ?_ | with_reducible refine le_p1 ?_))) _)))⟩
  have d2 : (decide ((1000 : Int) < (L.length : Int))) = false := by simp; omega
  by_cases hm : m = 0
  · have d3 : ((m : Int) == 0) = true := by simpa using hm
    clear hrl hL
    go_enter Try.func8, Try.ntmps8
    go_wp2_with (first | (go_at_call 14; first | (with_reducible refine Calls_past2 (lAwake _) (fun z => ?_)) | (with_reducible refine Calls_past (lAwake _) (fun z => ?_))))
    go_ret
    exact ⟨rfl, by (repeat (first | assumption | exact Below.refl _ _ | with_reducible refine past_t _ ?_ | with_reducible refine below_a _ ?_ | with_reducible refine Below.drew ?_ | with_reducible refine below_d _ ?_ | (with_reducible refine Below.setCell ?_ (by (show _ ≤ _; repeat (first | exact Nat.le_refl _ | assumption | (omega; done) | with_reducible exact le_past (Nat.le_refl _) | with_reducible refine le_past ?_ | with_reducible refine le_al ?_ | with_reducible refine le_set ?_ | with_reducible refine le_p1 ?_))) _)))⟩
  have d3 : ((m : Int) == 0) = false := beq_eq_false_iff_ne.2 (by omega)
  have h3 : 0 < L.length := by omega
  have h4 : L.length ≤ 1000 := by omega
  have hPA := putL_all F32.tab hL h4
  have hPL := putL_len tab L
  have hgp := (get_put tab h3 h4 []).1
  have hgn := gN_put tab L []
  rw [List.append_nil] at hgp hgn
  have HRL := Lib.hid hrl
  obtain ⟨P, hP⟩ : ∃ P, putL tab L = P := ⟨_, rfl⟩
  have cB : ∀ W G, Blk W G 25 (tabC tab) → Below w.heap.size w W → Calls Try.prog 22 #[.pointer (some ⟨G, 0, none⟩), .slice body L.length capbody] W fun e w' => ∃ A' c', e = .returned (.tuple #[.slice A' (L.length + 7) c', .int .i64 0]) ∧ OwnB W w' (.slice A' (L.length + 7) c') P ∧ Below W.heap.size W w' := by
    intro W G k1 k2; rw [← hP]; exact fPut k1 F32.tab (HRL.out.keep k2) hL h3 h4
  rw [hP] at hPA hPL hgp hgn
  have hp0 := Int.emod_nonneg fr (show 8 * (L.length : Int) + 1 ≠ 0 by omega)
  obtain ⟨p, hp⟩ : ∃ p : Nat, fr % (8 * (L.length : Int) + 1) = (p : Int) := ⟨(fr % (8 * (L.length : Int) + 1)).toNat, by omega⟩
  have hp2 : p ≤ 8 * L.length := by have := Int.emod_lt_of_pos fr (show 0 < 8 * (L.length : Int) + 1 by omega); omega
  have hpick : ∀ w, Calls Try.prog 18 #[.int .i64 fr, .int .i64 (8 * ((L.length : Int) + 7 - 3) - 31)] w fun e w' => e = .returned (.int .i64 (p : Int)) ∧ Below w.heap.size w w' := by
    intro w
    rw [show 8 * ((L.length : Int) + 7 - 3) - 31 = 8 * (L.length : Int) + 1 by omega]
    have := kPick fr (8 * (L.length : Int) + 1) w (by omega) (by omega) (by omega) (by omega)
    rwa [hp] at this
  have HPL := Lib.hid hPL
  have d9 : (((L.length : Nat) : Int) + 7 == 0) = false := beq_eq_false_iff_ne.2 (by omega)
  clear hrl h0 h1 hP hp hp0
  go_enter Try.func8, Try.ntmps8
  go_upto_region 5 with (first | (go_at_call 14; first | (with_reducible refine Calls_past2 (lAwake _) (fun z => ?_)) | (with_reducible refine Calls_past (lAwake _) (fun z => ?_))) | (go_at_call 15; first | (with_reducible refine Calls_past2 (fTable _) (fun z => ?_)) | (with_reducible refine Calls_past (fTable _) (fun z => ?_))) | (refine alloc_row (by rfl) _ (by rfl) zeroTab ?_) | (refine store_new (by rfl) _ _ _ (by rfl) (by rfl) (by rfl) (by rfl) ?_ (by rw [tabC_size, tabC_size]) (szTabC _) (tabC_one _) ?_; (focus ((first | rfl | (simp [go_sem]; done)); done)); intro z1 hb1; (try simp only [size_past] at hb1)))
  refine wp_gen (fun W hW => ?_)
  have hBW : Below w.heap.size w W := by rw [hW]; (repeat (first | assumption | exact Below.refl _ _ | with_reducible refine past_t _ ?_ | with_reducible refine below_a _ ?_ | with_reducible refine Below.drew ?_ | with_reducible refine below_d _ ?_ | (with_reducible refine Below.setCell ?_ (by (show _ ≤ _; repeat (first | exact Nat.le_refl _ | assumption | (omega; done) | with_reducible exact le_past (Nat.le_refl _) | with_reducible refine le_past ?_ | with_reducible refine le_al ?_ | with_reducible refine le_set ?_ | with_reducible refine le_p1 ?_))) _)))
  rw [← hW] at hb1
  obtain ⟨G, hG⟩ : ∃ G, w.heap.size + gap w z = G := ⟨_, rfl⟩
  simp only [Act.put, List.setIfInBounds_toArray, List.set_cons_zero, List.set_cons_succ, size_past]
  rw [hG] at hb1 ⊢
  clear hW hG
  have HRW := Lib.hid (HRL.out.keep hBW)
  have hBWs := hBW.size
  have cB : ∀ W', Below W.heap.size W W' → Calls Try.prog 22 #[.pointer (some ⟨G, 0, none⟩), .slice body L.length capbody] W' fun e w' => ∃ A' c', e = .returned (.tuple #[.slice A' (L.length + 7) c', .int .i64 0]) ∧ OwnB W' w' (.slice A' (L.length + 7) c') P ∧ Below W'.heap.size W' w' :=
    fun W' k => cB W' G (hb1.keep k) (hBW.trans (k.mono hBWs))
  have HB1 := Lib.hid hb1
  have HBW := Lib.hid hBW
  clear hb1 hBW
  go_wp2_with (first | (go_at_call 22; with_reducible refine Calls.mono (cB _ ?_) ?_; (focus ((first | ((repeat (first | assumption | exact Below.refl _ _ | with_reducible refine past_t _ ?_ | with_reducible refine below_a _ ?_ | with_reducible refine Below.drew ?_ | with_reducible refine below_d _ ?_ | (with_reducible refine Below.setCell ?_ (by (show _ ≤ _; repeat (first | exact Nat.le_refl _ | assumption | (omega; done) | with_reducible exact le_past (Nat.le_refl _) | with_reducible refine le_past ?_ | with_reducible refine le_al ?_ | with_reducible refine le_set ?_ | with_reducible refine le_p1 ?_))) _))); done) | (with_reducible rfl; done) | omega | (rfl; done) | (simp; done) | (simp [go_sem]; done) | (simp; omega) | (simp [go_sem]; omega)); done)); rintro _ _ ⟨A3, c3, rfl, ho3, hbz⟩; obtain ⟨z, rfl⟩ := ex_past hbz; clear hbz; obtain ⟨g3, rfl, hg3, hgl3, -, hc3, ht3⟩ := ho3.some (by rw [HPL.out]; omega); rw [HPL.out] at hc3) | (go_at_call 18; with_reducible refine Calls_past (hpick _) (fun z => ?_)))
  refine wp_gen (fun W2 hW2 => ?_)
  have hV : Below W.heap.size W W2 := by rw [hW2]; (repeat (first | assumption | exact Below.refl _ _ | with_reducible refine past_t _ ?_ | with_reducible refine below_a _ ?_ | with_reducible refine Below.drew ?_ | with_reducible refine below_d _ ?_ | (with_reducible refine Below.setCell ?_ (by (show _ ≤ _; repeat (first | exact Nat.le_refl _ | assumption | (omega; done) | with_reducible exact le_past (Nat.le_refl _) | with_reducible refine le_past ?_ | with_reducible refine le_al ?_ | with_reducible refine le_set ?_ | with_reducible refine le_p1 ?_))) _)))
  have hoW : OwnB W W2 (.slice (some ⟨g3, 0, none⟩) (L.length + 7) c3) P := by rw [hW2]; exact ho3.keep (past_below _ _)
  have hb2 := HB1.out.keep hV
  have hrs := hoW.rs
  obtain ⟨cs, hbl, hcs⟩ : ∃ cs, Blk W2 g3 5 cs ∧ ∀ j, j < L.length + 7 → cs[j]? = some (.int .u8 (P.getD j 0)) := by
    rcases hoW.2 with ⟨h1, _⟩ | ⟨g', cap, cur, h1, hg', hh, h3⟩
    · cases h1
    · have h1' := h1
      simp at h1'
      obtain ⟨rfl, -, rfl⟩ := h1'
      refine ⟨cur, hh, fun j hj => ?_⟩
      obtain ⟨b, o, e, hb, hrow⟩ := hrs.at_ (by omega)
      obtain ⟨rfl, rfl⟩ : g3 = b ∧ 0 = o := by simpa using e
      rw [← hrow j (by rw [HPL.out]; exact hj), Nat.zero_add]
      exact (Blk.cell (t := 5) hh j).symm
  have hgg : G ≠ g3 := by have := HB1.out.lt; omega
  have hg3w : w.heap.size ≤ g3 := by omega
  have hBW2 : Below w.heap.size w W2 := HBW.out.trans (hV.mono hBWs)
  have HB := Lib.hid hbl
  have HC := Lib.hid hcs
  have HT := Lib.hid hb2
  have HV := Lib.hid hBW2
  have hR : p + 56 ≤ 8 * (L.length + 7) := by omega
  clear ho3 hoW hrs hbl hcs hb2 hBW2 hV hW2 cB hpick
  go_loopg [11] 32 (fun gg s11 wr => ∃ (i : Nat) (C : List Int) (ds : Array Value), i ≤ 32 ∧ 32 ≤ gg + i ∧ s11 = .int .i64 i ∧ Below w.heap.size w wr ∧ Blk wr g3 5 ds ∧ (∀ j, j < L.length + 7 → ds[j]? = some (.int .u8 (C.getD j 0))) ∧ Blk wr G 25 (tabC tab) ∧
    C.length = L.length + 7 ∧ AllB C ∧ (∀ j, j < 3 → C.getD j 0 = P.getD j 0) ∧ reg 4294967295 (nn (C.drop 1)) = reg 4294967295 (nn (P.drop 1)) ^^^ turnD (8 * (L.length + 7) - (24 + p) - 32) m i)
  case atStart => exact ⟨0, P, cs, by omega, by omega, rfl, HV.out, HB.out, HC.out, HT.out, HPL.out, hPA, fun _ _ => rfl, by rw [turnD_0, Nat.xor_zero]⟩
  case round =>
    obtain ⟨i, C, ds, hi, hgk, rfl, hV, hb, hcs, hbt, hCl, hCA, hCh, hCr⟩ := hrel
    by_cases hlt : i < 32
    · by_cases hbit : m / 2 ^ i % 2 = 1
      · have d8 : (((m : Int) / 2 ^ i).tmod 2 == 1) = true := by rw [turn_test]; simpa using hbit
        obtain ⟨k, hk⟩ : ∃ k : Nat, 24 + p + i = k := ⟨_, rfl⟩
        have hkI : 24 + (p : Int) + (i : Int) = (k : Int) := by omega
        obtain ⟨q, hq⟩ : ∃ q, k / 8 = q := ⟨_, rfl⟩
        obtain ⟨r, hr⟩ : ∃ r, k % 8 = r := ⟨_, rfl⟩
        have hqI : (k : Int) / 8 = (q : Int) := by omega
        have hrI : (k : Int) % 8 = (r : Int) := by omega
        have hqT : (k : Int).tdiv 8 = (q : Int) := by rw [Int.tdiv_eq_ediv_of_nonneg (by omega)]; omega
        have hrT : (k : Int).tmod 8 = (r : Int) := by rw [Int.tmod_eq_emod_of_nonneg (by omega)]; omega
        have hql : q < L.length + 7 := by omega
        have hqlI : (q : Int) < (L.length : Int) + 7 := by omega
        have hr8 : r < 8 := by omega
        have hcell := hb.cell q
        rw [hcs q hql] at hcell
        have hmark := hb.mark q
        have hx := hCA.get q (by omega)
        obtain ⟨x, hxx⟩ : ∃ x, C.getD q 0 = x := ⟨_, rfl⟩
        rw [hxx] at hcell hx
        have hgl := hb.lt
        have HV2 := Lib.hid hV
        have HB2 := Lib.hid hb
        have HC2 := Lib.hid hcs
        have HT2 := Lib.hid hbt
        have HL2 := Lib.hid hCl
        have HA2 := Lib.hid hCA
        have HH2 := Lib.hid hCh
        have HR2 := Lib.hid hCr
        have HK := Lib.hid hk
        have HQ := Lib.hid hq
        have HRr := Lib.hid hr
        have HX := Lib.hid hxx
        have HBIT := Lib.hid hbit
        clear hV hb hcs hbt hCl hCA hCh hCr hbit hk hq hr hxx
        go_wp2_with fail
        (first | refine region_past2_tail 13 (by kernel_rfl) (by kernel_rfl) ?_ | refine region_past_tail 13 (by kernel_rfl) (by kernel_rfl) ?_); simp only [List.take_succ_cons, List.take_zero, List.drop_succ_cons, List.drop_zero]
        repeat (go_big_quiet_step (fail))
        refine wpQuiet_nil ?_; rintro _ ⟨y, rfl⟩
        go_wp2_with fail
        go_roundg (32 - (i + 1))
        case measure => omega
        case rel =>
          have hq := HQ.out
          have hr := HRr.out
          have hk := HK.out
          have hfv := flip_val hx.1 hx.2 hr8
          have hfl : flip C k = C.set q ((x.toNat ^^^ 2 ^ r : Nat) : Int) := by unfold flip; rw [hq, hr, HX.out]
          rw [hfv]
          refine ⟨i + 1, flip C k, _, by omega, by omega, by go_num, past_t _ (HV2.out.setCell (by exact hg3w) _), (HB2.out.set q _).keep (past_below _ _), fun j hj => ?_, (HT2.out.far hgg _).keep (past_below _ _), by rw [flip_len]; exact HL2.out,
            flip_all HA2.out k (by rw [HL2.out, hq]; exact hql), fun j hj => by rw [flip_head C k j (by omega)]; exact HH2.out j hj, ?_⟩
          · rw [hfl, Array.getElem?_setIfInBounds]
            have hds : q < ds.size := by
              have := HC2.out q hql
              exact (Array.getElem?_eq_some_iff.1 this).1
            by_cases hjq : q = j
            · subst hjq
              rw [if_pos rfl, if_pos hds]
              have : q < C.length := by rw [HL2.out]; exact hql
              simp [List.getD, this]
            · rw [if_neg hjq, HC2.out j hj]
              simp [List.getD, hjq]
          · rw [flip_reg _ (by omega) (by rw [HL2.out, hq]; exact hql), HR2.out, turnD_bit _ m i (by omega) HBIT.out, Nat.xor_assoc, HL2.out]
            congr 2
            congr 1
            omega
      · have d8 : (((m : Int) / 2 ^ i).tmod 2 == 1) = false := by rw [turn_test]; simpa using hbit
        have hsk := turnD_skip (8 * (L.length + 7) - (24 + p) - 32) m i hbit
        rw [← hsk] at hCr
        have HV2 := Lib.hid hV
        have HB2 := Lib.hid hb
        have HC2 := Lib.hid hcs
        have HT2 := Lib.hid hbt
        have HL2 := Lib.hid hCl
        have HA2 := Lib.hid hCA
        have HH2 := Lib.hid hCh
        have HR2 := Lib.hid hCr
        clear hV hb hcs hbt hCl hCA hCh hCr hbit hsk
        go_wp2_with fail
        go_roundg (32 - (i + 1))
        case measure => omega
        case rel => exact ⟨i + 1, C, ds, by omega, by omega, by go_num, HV2.out, HB2.out, HC2.out, HT2.out, HL2.out, HA2.out, HH2.out, HR2.out⟩
    · obtain rfl : i = 32 := by omega
      have hD := turnD_all (R := 8 * (L.length + 7) - (24 + p) - 32) hm (by omega)
      have h14 := turned_E hgp (by rw [HPL.out, hgn]) hPA hCA (by rw [hCl, HPL.out]) hCh hD hCr
      have hrC : RS .u8 wr (some ⟨g3, 0, none⟩) (L.length + 7) c3 C :=
        ⟨hCl.symm, hc3, ht3, (fun e => by cases e), fun _ => ⟨g3, 0, rfl, hb.lt, fun j hj => by rw [Nat.zero_add, hb.cell]; exact hcs j (by omega)⟩⟩
      have cT : Calls Try.prog 26 #[.pointer (some ⟨G, 0, none⟩), .slice (some ⟨g3, 0, none⟩) (L.length + 7) c3] wr fun e w' => e = .returned (.tuple #[.slice none 0 0, .int .i64 0, .int .i64 14]) ∧ Below wr.heap.size wr w' := by
        refine (fGet hbt F32.tab hrC hCA).mono fun e w' h => ?_
        have := h.1 (by rw [h14]; decide)
        rwa [h14] at this
      have HV2 := Lib.hid hV
      clear hV hb hcs hbt hCl hCA hCh hCr hD h14 hrC
      go_wp2_with ((go_at_call 26; with_reducible refine Calls_past (cT) (fun z => ?_)))
      go_ret
      exact ⟨rfl, past_t _ HV2.out⟩
set_option maxRecDepth 100000 in
theorem lifted (os : Os) (started : os.Started) (H : Type) (enc : TypeId × Value → H) :
    ReturnsInHanded {} Try.checked os 8 .any (Rows.frameTurnedSpec.pre6 enc Try.prog Try.f8 Rows.frameTurnedRow.domain false) (Rows.frameTurnedSpec.post enc Try.prog Try.f8 false true false false) := by
  refine returnsInHanded_of_change (C := Try.checked) own started (by kernel_rfl) Try.func8
    (ChangeSpec.witness6 (enc := enc) (C := Try.checked) false ⟨#[], #[.slice none 0 0, .int .i64 0, .int .u32 0], []⟩ 8 (by kernel_rfl) (by kernel_rfl) (by kernel_rfl) (by kernel_rfl)) ?_
  intro W base args ds gs before hval0 hW hcnd _
  have hval : ∀ (j : Nat) t v, Try.f8.params[j]? = some t → args[j]? = some v → Value.okWide Try.prog W .any base t v := hval0
  have hW' := hW
  obtain ⟨p, q, hA0, hV, rfl, hfz, hnd⟩ := hW
  have hA : DataW.TrodAll enc Try.prog W 0 (fun _ => true) true Try.f8.params.toList args.toList ds p := hA0
  rw [Try.params8] at hA hval
  obtain ⟨v0, vs0, d0, ds0, p0, q0, hargs, rfl, rfl, h0, r0⟩ := trodAll_cons hA
  obtain ⟨v1, vs1, d1, ds1, p1, q1, rfl, rfl, rfl, h1, r1⟩ := trodAll_cons r0
  obtain ⟨v2, vs2, d2, ds2, p2, q2, rfl, rfl, rfl, h2, r2⟩ := trodAll_cons r1
  obtain ⟨rfl, rfl, rfl⟩ := trodAll_nil r2
  obtain rfl : args = #[v0, v1, v2] := by cases args; simp_all
  obtain ⟨rfl, rfl⟩ := trodVars_none hV
  obtain ⟨body, lenbody, capbody, rfl⟩ := okWide_slice Try.underlying22 (hval 0 22 v0 rfl rfl)
  have k0 := h0
  have lt0 : ∀ x ∈ p0, x.block < W.heap.size := by obtain ⟨m, hm⟩ := k0; exact DataW.trod_lt m _ _ _ hm
  obtain ⟨zbody, w0⟩ : ∃ zs, IsRow .u8 W body lenbody capbody zs := by
    obtain ⟨fuel, hf⟩ := h0
    rcases open_ints Try.underlying22 Try.underlying5 (by kernel_rfl) hf with ⟨hcs, _⟩ | ⟨x, l, c, zs, hcs, _, hl, hm, hz, _, hcell, hwz⟩
    · simp [Value.cells] at hcs
      obtain ⟨rfl, rfl, rfl⟩ := hcs
      exact ⟨[], .inl ⟨rfl, rfl, rfl, rfl⟩⟩
    · simp [Value.cells] at hcs
      obtain ⟨rfl, rfl, rfl⟩ := hcs
      exact ⟨zs, .inr ⟨_, rfl, hl, hm, by simpa using hz, hcell, hwz⟩⟩
  obtain ⟨fr, rfl, rfl, rfl, w1⟩ := open_int Try.underlying3 (hval 1 3 v1 rfl rfl) h1
  obtain ⟨mask, rfl, rfl, rfl, w2⟩ := open_int Try.underlying23 (hval 2 23 v2 rfl rfl) h2
  clear hA0 hval0
  refine (walk W body lenbody capbody zbody w0 fr w1 mask w2).mono fun e W' ⟨he, bel⟩ => ?_
  subst he
  exact ⟨_, rfl, _, _, _, [], _, [], hW', trodAll_mk1 (shut_bool Try.underlying4 _), (trodAll_cons_mk (Below.trod laidOut (by kernel_rfl) (of_decide_eq_true (by kernel_rfl)) k0 bel lt0) (trodAll_cons_mk (shut_int Try.underlying3 w1) (trodAll_cons_mk (shut_int Try.underlying23 w2) trodAll_mk0))), rfl, bel.frame _, fun h => by cases h⟩
theorem over : Rows.frameTurnedRow.holds Try.pinned (OpenSpec.ofChange Rows.frameTurnedSpec) :=
  OpenClaim.holds_of_wide 8 Try.f8 rfl rfl rfl rfl rfl rfl rfl ⟨rfl, rfl, rfl, rfl, rfl⟩ rfl rfl rfl rfl rfl (by kernel_rfl) Try.func8 (by kernel_rfl)
    (of_decide_eq_true (by kernel_rfl)) (by unfold Func.isWrapper; first | (rw [if_pos (by decide +kernel)]; kernel_rfl) | (rw [if_neg (by decide +kernel)]; exact ⟨rfl, rfl⟩))
    (fun os started H enc _ => lifted os started H enc)
theorem proved : Rows.FrameTurnedSaid := over
#print axioms proved
end Go.Proofs.Ytlioogkcndahnaa.frameTurned
