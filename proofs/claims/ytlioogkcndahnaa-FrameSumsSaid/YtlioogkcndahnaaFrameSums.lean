/- Which sum bytes have, by the table, or one of which some numbers are others, or none. -/
import Derived.Test.YtlioogkcndahnaaFrame10
import Derived.Deep.DeepCutAuto
import Derived.Deep.LoopGhost
import Derived.WalkKit
import Derived.ProofKit
import Derived.OpenShut
import Derived.ShutString
import Derived.ChangeOld
import Derived.Below
import Derived.Lib.SmallJoins
namespace Go.Proofs.Ytlioogkcndahnaa.frameSums
open Go.ChangeShapes Go.WideShapes Go.ChangeAt Go.RowKit
open Go.ChangeMaps (open_string shut_string)
open Go.Joins
set_option linter.unusedVariables false
theorem own : ownKnob Try.prog.godebug = none := by kernel_rfl
theorem laidOut : laidOutB Try.prog = true := by kernel_rfl
def IsRow (k : IntKind) (w : World) (a : Option Addr) (len cap : Nat) (zs : List Int) : Prop :=
  (a = none ∧ len = 0 ∧ cap = 0 ∧ zs = []) ∨
  ∃ x, a = some x ∧ len ≤ cap ∧ cap ≤ maxLen ∧ zs.length = cap ∧ (∀ i, i < zs.length → w.cell? (x.add i) = some (.int k (zs.getD i 0))) ∧ ∀ n ∈ zs, (Lit.int k n).wf = true
set_option maxHeartbeats 8000000 in
set_option maxRecDepth 100000 in
theorem walk (w : World) (b : Option Addr) (lenb capb : Nat) (zb : List Int) (w0 : IsRow .u8 w b lenb capb zb) (which : Int) (w1 : (Lit.int .i64 which).wf = true) (odd : Int) (w2 : (Lit.int .u32 odd).wf = true) (noth : Bool) : -- the walk
    Calls Try.prog 3 #[.slice b lenb capb, .int .i64 which, .int .u32 odd, .bool noth] w fun e w' => e = .returned (.bool true) ∧ Below w.heap.size w w' := by
  obtain ⟨L, hr, hL⟩ := RS_of w0
  obtain rfl := hr.len
  clear w0
  by_cases hl : 2000 < L.length
  · have d1 : (decide ((2000 : Int) < (L.length : Int))) = true := by simp; omega
    clear hr hL
    go_enter Try.func3, Try.ntmps3
    go_wp2_with (first | (go_at_call 14; first | (with_reducible refine Calls_past2 (lAwake _) (fun z => ?_)) | (with_reducible refine Calls_past (lAwake _) (fun z => ?_))))
    go_ret
    exact ⟨rfl, by (repeat (first | assumption | exact Below.refl _ _ | with_reducible refine past_t _ ?_ | with_reducible refine below_a _ ?_ | with_reducible refine Below.drew ?_ | with_reducible refine below_d _ ?_ | (with_reducible refine Below.setCell ?_ (by (show _ ≤ _; repeat (first | exact Nat.le_refl _ | assumption | (omega; done) | with_reducible exact le_past (Nat.le_refl _) | with_reducible refine le_past ?_ | with_reducible refine le_al ?_ | with_reducible refine le_set ?_ | with_reducible refine le_p1 ?_))) _)))⟩
  have d1 : (decide ((2000 : Int) < (L.length : Int))) = false := by simp; omega
  have q1 := bounds_i64 w1
  have q2 := bounds_u32 w2
  obtain ⟨od, rfl⟩ : ∃ x : Nat, odd = (x : Int) := ⟨odd.toNat, by omega⟩
  have hod : od < 4294967296 := by omega
  obtain ⟨p, hp⟩ : ∃ p : Nat, which % 256 = (p : Int) := ⟨(which % 256).toNat, by omega⟩
  have hp2 : p < 256 := by omega
  have hp3 : (p : Int) < 256 := by omega
  have hpick : ∀ w, Calls Try.prog 18 #[.int .i64 which, .int .i64 256] w fun e w' => e = .returned (.int .i64 (p : Int)) ∧ Below w.heap.size w w' := by
    intro w
    have := kPick which 256 w (by omega) (by omega) (by omega) (by omega)
    rwa [hp] at this
  have htt := tab_same
  have HR := Lib.hid hr
  have hf2 : F32 (fun j => if j = p then od else tab j) := by
    intro i hi
    show (if i = p then od else tab i) < 4294967296
    by_cases h : i = p
    · rw [if_pos h]; exact hod
    · rw [if_neg h]; exact tab_lt hi
  have HF2 := Lib.hid hf2
  have HP := Lib.hid hp
  clear hr w1 w2 hp hf2 q1 q2
  go_enter Try.func3, Try.ntmps3
  go_upto_region 3 with (fail)
  go_upto_region 4 with (first | (go_at_call 15; first | (with_reducible refine Calls_past2 (fTable _) (fun z => ?_)) | (with_reducible refine Calls_past (fTable _) (fun z => ?_))) | (go_at_call 16; first | (with_reducible refine Calls_past2 (rTable _) (fun z => ?_)) | (with_reducible refine Calls_past (rTable _) (fun z => ?_))) | (refine alloc_row (by rfl) _ (by rfl) zeroTab ?_) | (refine store_fst (by rfl) _ _ _ (by rfl) (by rfl) (by rfl) (by rfl) ?_ (by rw [tabC_size, tabC_size]) (szTabC _) (tabC_one _) ?_; (focus (first | (rfl; done) | (simp [go_sem]; done))); intro z1 hb0 hb1) | (refine store_snd (by rfl) _ _ _ (by rfl) (by rfl) (by rfl) (by rfl) (by exact hb0) (by exact hb1) ?_ (by rw [tabC_size, tabC_size]) (szTabC _) (tabC_one _) ?_; (focus (first | (rfl; done) | (simp [go_sem]; done))); clear hb0 hb1; intro z2 hb0 hb1; simp only [Act.put, List.setIfInBounds_toArray, List.set_cons_zero, List.set_cons_succ, size_past, World.size_alloc]; simp only [size_past] at hb0 hb1))
  refine wp_gen (fun W hW => ?_)
  have hBW : Below w.heap.size w W := by rw [hW]; (repeat (first | assumption | exact Below.refl _ _ | with_reducible refine past_t _ ?_ | with_reducible refine below_a _ ?_ | with_reducible refine Below.drew ?_ | with_reducible refine below_d _ ?_ | (with_reducible refine Below.setCell ?_ (by (show _ ≤ _; repeat (first | exact Nat.le_refl _ | assumption | (omega; done) | with_reducible exact le_past (Nat.le_refl _) | with_reducible refine le_past ?_ | with_reducible refine le_al ?_ | with_reducible refine le_set ?_ | with_reducible refine le_p1 ?_))) _)))
  rw [← hW] at hb0 hb1
  have hGw : w.heap.size ≤ w.heap.size + gap w z := by omega
  obtain ⟨G, hG⟩ : ∃ G, w.heap.size + gap w z = G := ⟨_, rfl⟩
  rw [hG] at hb0 hb1 hGw ⊢
  clear hW hG
  have hs0 : Blk (W.setCell ⟨G, p, none⟩ (.int .u32 (od : Int))) G 25 (tabC fun j => if j = p then od else tab j) := by
    have := hb0.set p (.int .u32 (od : Int))
    rwa [tabC_set] at this
  have hs1 : Blk (W.setCell ⟨G, p, none⟩ (.int .u32 (od : Int))) (G + 1) 25 (tabC tab) := hb1.far (by omega) _
  have hcell := hb0.cell p
  rw [tabC_at _ hp2] at hcell
  have hmark := hb0.mark p
  have hGl := hb0.lt
  obtain ⟨f2, hf2⟩ : ∃ f2, (fun j => if j = p then od else tab j) = f2 := ⟨_, rfl⟩
  rw [hf2] at hs0
  have hF2 := HF2.out
  rw [hf2] at hF2
  obtain ⟨S2, hS2⟩ : ∃ S, sumv f2 (nn L) = S := ⟨_, rfl⟩
  obtain ⟨S1, hS1⟩ : ∃ S, sumv tab (nn L) = S := ⟨_, rfl⟩
  have c1 : ∀ W A n c, Blk W G 25 (tabC f2) → RS .u8 W A n c L → Calls Try.prog 17 #[.pointer (some ⟨G, 0, none⟩), .slice A n c] W fun e w' => e = .returned (.int .u32 (S2 : Int)) ∧ Below W.heap.size W w' := by
    intro W A n c k1 k2; rw [← hS2]; exact fSum k1 hF2 k2 hL
  have c2 : ∀ W A n c, Blk W G 25 (tabC f2) → RS .u8 W A n c L → Calls Try.prog 20 #[.pointer (some ⟨G, 0, none⟩), .slice A n c] W fun e w' => e = .returned (.int .u32 (S2 : Int)) ∧ Below W.heap.size W w' := by
    intro W A n c k1 k2; rw [← hS2]; exact rSum k1 hF2 k2 hL
  have c3 : ∀ W A n c, Blk W (G + 1) 25 (tabC tab) → RS .u8 W A n c L → Calls Try.prog 17 #[.pointer (some ⟨G + 1, 0, none⟩), .slice A n c] W fun e w' => e = .returned (.int .u32 (S1 : Int)) ∧ Below W.heap.size W w' := by
    intro W A n c k1 k2; rw [← hS1]; exact fSum k1 F32.tab k2 hL
  have c4 : ∀ W A n c, Blk W (G + 1) 25 (tabC tab) → RS .u8 W A n c L → Calls Try.prog 20 #[.pointer (some ⟨G + 1, 0, none⟩), .slice A n c] W fun e w' => e = .returned (.int .u32 (S1 : Int)) ∧ Below W.heap.size W w' := by
    intro W A n c k1 k2; rw [← hS1]; exact rSum k1 F32.tab k2 hL
  have hll : L.length ≤ 2000 := by omega
  have HB0 := Lib.hid hb0
  have HB1 := Lib.hid hb1
  clear hS1 hS2 hf2 hb0 hb1 HF2 hF2
  cases noth
  all_goals
    go_wp2_with (first | (refine load_row (by rfl) _ _ (by rfl) (by rfl) Try.underlying25 rfl (szTabC _) (by exact HB0.out) ?_) | (refine load_row (by rfl) _ _ (by rfl) (by rfl) Try.underlying25 rfl (szTabC _) (by exact HB1.out) ?_) | (go_at_call 17; first | (with_reducible refine Calls_past2 (fSumNil _ _) (fun z => ?_)) | (with_reducible refine Calls_past (fSumNil _ _) (fun z => ?_))) | (go_at_call 18; first | (with_reducible refine Calls_past2 (hpick _) (fun z => ?_)) | (with_reducible refine Calls_past (hpick _) (fun z => ?_))) | (go_at_call 19; with_reducible refine Calls.mono (kLent (HR.out.keep ?_) (by omega)) ?_; (focus ((first | ((repeat (first | assumption | exact Below.refl _ _ | with_reducible refine past_t _ ?_ | with_reducible refine below_a _ ?_ | with_reducible refine Below.drew ?_ | with_reducible refine below_d _ ?_ | (with_reducible refine Below.setCell ?_ (by (show _ ≤ _; repeat (first | exact Nat.le_refl _ | assumption | (omega; done) | with_reducible exact le_past (Nat.le_refl _) | with_reducible refine le_past ?_ | with_reducible refine le_al ?_ | with_reducible refine le_set ?_ | with_reducible refine le_p1 ?_))) _))); done) | (with_reducible rfl; done) | omega | (rfl; done) | (simp; done) | (simp [go_sem]; done) | (simp; omega) | (simp [go_sem]; omega)); done)); rintro _ _ ⟨A1, c9, rfl, ho1, hbz⟩; obtain ⟨z, rfl⟩ := ex_past hbz; clear hbz; have hlr := ho1.rs.upto L.length (by omega); rw [List.take_left' rfl] at hlr; obtain ⟨g1, rfl, hg1, hgl1, -, hc1, ht1⟩ := ho1.some (by simp)) | (go_at_call 17; with_reducible refine Calls_past (c1 _ _ _ _ (hs0.keep ?_) (hlr.keep ?_)) (fun z => ?_); (focus ((first | ((repeat (first | assumption | exact Below.refl _ _ | with_reducible refine past_t _ ?_ | with_reducible refine below_a _ ?_ | with_reducible refine Below.drew ?_ | with_reducible refine below_d _ ?_ | (with_reducible refine Below.setCell ?_ (by (show _ ≤ _; repeat (first | exact Nat.le_refl _ | assumption | (omega; done) | with_reducible exact le_past (Nat.le_refl _) | with_reducible refine le_past ?_ | with_reducible refine le_al ?_ | with_reducible refine le_set ?_ | with_reducible refine le_p1 ?_))) _))); done) | (with_reducible rfl; done) | omega | (rfl; done) | (simp; done) | (simp [go_sem]; done) | (simp; omega) | (simp [go_sem]; omega)); done)); (focus ((first | ((repeat (first | assumption | exact Below.refl _ _ | with_reducible refine past_t _ ?_ | with_reducible refine below_a _ ?_ | with_reducible refine Below.drew ?_ | with_reducible refine below_d _ ?_ | (with_reducible refine Below.setCell ?_ (by (show _ ≤ _; repeat (first | exact Nat.le_refl _ | assumption | (omega; done) | with_reducible exact le_past (Nat.le_refl _) | with_reducible refine le_past ?_ | with_reducible refine le_al ?_ | with_reducible refine le_set ?_ | with_reducible refine le_p1 ?_))) _))); done) | (with_reducible rfl; done) | omega | (rfl; done) | (simp; done) | (simp [go_sem]; done) | (simp; omega) | (simp [go_sem]; omega)); done))) | (go_at_call 20; with_reducible refine Calls_past (c2 _ _ _ _ (hs0.keep ?_) (HR.out.keep ?_)) (fun z => ?_); (focus ((first | ((repeat (first | assumption | exact Below.refl _ _ | with_reducible refine past_t _ ?_ | with_reducible refine below_a _ ?_ | with_reducible refine Below.drew ?_ | with_reducible refine below_d _ ?_ | (with_reducible refine Below.setCell ?_ (by (show _ ≤ _; repeat (first | exact Nat.le_refl _ | assumption | (omega; done) | with_reducible exact le_past (Nat.le_refl _) | with_reducible refine le_past ?_ | with_reducible refine le_al ?_ | with_reducible refine le_set ?_ | with_reducible refine le_p1 ?_))) _))); done) | (with_reducible rfl; done) | omega | (rfl; done) | (simp; done) | (simp [go_sem]; done) | (simp; omega) | (simp [go_sem]; omega)); done)); (focus ((first | ((repeat (first | assumption | exact Below.refl _ _ | with_reducible refine past_t _ ?_ | with_reducible refine below_a _ ?_ | with_reducible refine Below.drew ?_ | with_reducible refine below_d _ ?_ | (with_reducible refine Below.setCell ?_ (by (show _ ≤ _; repeat (first | exact Nat.le_refl _ | assumption | (omega; done) | with_reducible exact le_past (Nat.le_refl _) | with_reducible refine le_past ?_ | with_reducible refine le_al ?_ | with_reducible refine le_set ?_ | with_reducible refine le_p1 ?_))) _))); done) | (with_reducible rfl; done) | omega | (rfl; done) | (simp; done) | (simp [go_sem]; done) | (simp; omega) | (simp [go_sem]; omega)); done))) | (go_at_call 17; with_reducible refine Calls_past (c3 _ _ _ _ (hs1.keep ?_) (hlr.keep ?_)) (fun z => ?_); (focus ((first | ((repeat (first | assumption | exact Below.refl _ _ | with_reducible refine past_t _ ?_ | with_reducible refine below_a _ ?_ | with_reducible refine Below.drew ?_ | with_reducible refine below_d _ ?_ | (with_reducible refine Below.setCell ?_ (by (show _ ≤ _; repeat (first | exact Nat.le_refl _ | assumption | (omega; done) | with_reducible exact le_past (Nat.le_refl _) | with_reducible refine le_past ?_ | with_reducible refine le_al ?_ | with_reducible refine le_set ?_ | with_reducible refine le_p1 ?_))) _))); done) | (with_reducible rfl; done) | omega | (rfl; done) | (simp; done) | (simp [go_sem]; done) | (simp; omega) | (simp [go_sem]; omega)); done)); (focus ((first | ((repeat (first | assumption | exact Below.refl _ _ | with_reducible refine past_t _ ?_ | with_reducible refine below_a _ ?_ | with_reducible refine Below.drew ?_ | with_reducible refine below_d _ ?_ | (with_reducible refine Below.setCell ?_ (by (show _ ≤ _; repeat (first | exact Nat.le_refl _ | assumption | (omega; done) | with_reducible exact le_past (Nat.le_refl _) | with_reducible refine le_past ?_ | with_reducible refine le_al ?_ | with_reducible refine le_set ?_ | with_reducible refine le_p1 ?_))) _))); done) | (with_reducible rfl; done) | omega | (rfl; done) | (simp; done) | (simp [go_sem]; done) | (simp; omega) | (simp [go_sem]; omega)); done))) | (go_at_call 20; with_reducible refine Calls_past (c4 _ _ _ _ (hs1.keep ?_) (HR.out.keep ?_)) (fun z => ?_); (focus ((first | ((repeat (first | assumption | exact Below.refl _ _ | with_reducible refine past_t _ ?_ | with_reducible refine below_a _ ?_ | with_reducible refine Below.drew ?_ | with_reducible refine below_d _ ?_ | (with_reducible refine Below.setCell ?_ (by (show _ ≤ _; repeat (first | exact Nat.le_refl _ | assumption | (omega; done) | with_reducible exact le_past (Nat.le_refl _) | with_reducible refine le_past ?_ | with_reducible refine le_al ?_ | with_reducible refine le_set ?_ | with_reducible refine le_p1 ?_))) _))); done) | (with_reducible rfl; done) | omega | (rfl; done) | (simp; done) | (simp [go_sem]; done) | (simp; omega) | (simp [go_sem]; omega)); done)); (focus ((first | ((repeat (first | assumption | exact Below.refl _ _ | with_reducible refine past_t _ ?_ | with_reducible refine below_a _ ?_ | with_reducible refine Below.drew ?_ | with_reducible refine below_d _ ?_ | (with_reducible refine Below.setCell ?_ (by (show _ ≤ _; repeat (first | exact Nat.le_refl _ | assumption | (omega; done) | with_reducible exact le_past (Nat.le_refl _) | with_reducible refine le_past ?_ | with_reducible refine le_al ?_ | with_reducible refine le_set ?_ | with_reducible refine le_p1 ?_))) _))); done) | (with_reducible rfl; done) | omega | (rfl; done) | (simp; done) | (simp [go_sem]; done) | (simp; omega) | (simp [go_sem]; omega)); done))) | (go_at_call 21; with_reducible refine Calls_past (kKept (ho1.keep ?_) rfl (HR.out.keep ?_) hL) (fun z => ?_); (focus ((first | ((repeat (first | assumption | exact Below.refl _ _ | with_reducible refine past_t _ ?_ | with_reducible refine below_a _ ?_ | with_reducible refine Below.drew ?_ | with_reducible refine below_d _ ?_ | (with_reducible refine Below.setCell ?_ (by (show _ ≤ _; repeat (first | exact Nat.le_refl _ | assumption | (omega; done) | with_reducible exact le_past (Nat.le_refl _) | with_reducible refine le_past ?_ | with_reducible refine le_al ?_ | with_reducible refine le_set ?_ | with_reducible refine le_p1 ?_))) _))); done) | (with_reducible rfl; done) | omega | (rfl; done) | (simp; done) | (simp [go_sem]; done) | (simp; omega) | (simp [go_sem]; omega)); done)); (focus ((first | ((repeat (first | assumption | exact Below.refl _ _ | with_reducible refine past_t _ ?_ | with_reducible refine below_a _ ?_ | with_reducible refine Below.drew ?_ | with_reducible refine below_d _ ?_ | (with_reducible refine Below.setCell ?_ (by (show _ ≤ _; repeat (first | exact Nat.le_refl _ | assumption | (omega; done) | with_reducible exact le_past (Nat.le_refl _) | with_reducible refine le_past ?_ | with_reducible refine le_al ?_ | with_reducible refine le_set ?_ | with_reducible refine le_p1 ?_))) _))); done) | (with_reducible rfl; done) | omega | (rfl; done) | (simp; done) | (simp [go_sem]; done) | (simp; omega) | (simp [go_sem]; omega)); done))) | (go_at_call 14; first | (with_reducible refine Calls_past2 (lAwake _) (fun z => ?_)) | (with_reducible refine Calls_past (lAwake _) (fun z => ?_))))
    go_ret
    exact ⟨rfl, by (repeat (first | assumption | exact Below.refl _ _ | with_reducible refine past_t _ ?_ | with_reducible refine below_a _ ?_ | with_reducible refine Below.drew ?_ | with_reducible refine below_d _ ?_ | (with_reducible refine Below.setCell ?_ (by (show _ ≤ _; repeat (first | exact Nat.le_refl _ | assumption | (omega; done) | with_reducible exact le_past (Nat.le_refl _) | with_reducible refine le_past ?_ | with_reducible refine le_al ?_ | with_reducible refine le_set ?_ | with_reducible refine le_p1 ?_))) _)))⟩
set_option maxRecDepth 100000 in
theorem lifted (os : Os) (started : os.Started) (H : Type) (enc : TypeId × Value → H) :
    ReturnsInHanded {} Try.checked os 3 .any (Rows.frameSumsSpec.pre6 enc Try.prog Try.f3 Rows.frameSumsRow.domain false) (Rows.frameSumsSpec.post enc Try.prog Try.f3 false true false false) := by
  refine returnsInHanded_of_change (C := Try.checked) own started (by kernel_rfl) Try.func3
    (ChangeSpec.witness6 (enc := enc) (C := Try.checked) false ⟨#[], #[.slice none 0 0, .int .i64 0, .int .u32 0, .bool false], []⟩ 8 (by kernel_rfl) (by kernel_rfl) (by kernel_rfl) (by kernel_rfl)) ?_
  intro W base args ds gs before hval0 hW hcnd _
  have hval : ∀ (j : Nat) t v, Try.f3.params[j]? = some t → args[j]? = some v → Value.okWide Try.prog W .any base t v := hval0
  have hW' := hW
  obtain ⟨p, q, hA0, hV, rfl, hfz, hnd⟩ := hW
  have hA : DataW.TrodAll enc Try.prog W 0 (fun _ => true) true Try.f3.params.toList args.toList ds p := hA0
  rw [Try.params3] at hA hval
  obtain ⟨v0, vs0, d0, ds0, p0, q0, hargs, rfl, rfl, h0, r0⟩ := trodAll_cons hA
  obtain ⟨v1, vs1, d1, ds1, p1, q1, rfl, rfl, rfl, h1, r1⟩ := trodAll_cons r0
  obtain ⟨v2, vs2, d2, ds2, p2, q2, rfl, rfl, rfl, h2, r2⟩ := trodAll_cons r1
  obtain ⟨v3, vs3, d3, ds3, p3, q3, rfl, rfl, rfl, h3, r3⟩ := trodAll_cons r2
  obtain ⟨rfl, rfl, rfl⟩ := trodAll_nil r3
  obtain rfl : args = #[v0, v1, v2, v3] := by cases args; simp_all
  obtain ⟨rfl, rfl⟩ := trodVars_none hV
  obtain ⟨b, lenb, capb, rfl⟩ := okWide_slice Try.underlying22 (hval 0 22 v0 rfl rfl)
  have k0 := h0
  have lt0 : ∀ x ∈ p0, x.block < W.heap.size := by obtain ⟨m, hm⟩ := k0; exact DataW.trod_lt m _ _ _ hm
  obtain ⟨zb, w0⟩ : ∃ zs, IsRow .u8 W b lenb capb zs := by
    obtain ⟨fuel, hf⟩ := h0
    rcases open_ints Try.underlying22 Try.underlying5 (by kernel_rfl) hf with ⟨hcs, _⟩ | ⟨x, l, c, zs, hcs, _, hl, hm, hz, _, hcell, hwz⟩
    · simp [Value.cells] at hcs
      obtain ⟨rfl, rfl, rfl⟩ := hcs
      exact ⟨[], .inl ⟨rfl, rfl, rfl, rfl⟩⟩
    · simp [Value.cells] at hcs
      obtain ⟨rfl, rfl, rfl⟩ := hcs
      exact ⟨zs, .inr ⟨_, rfl, hl, hm, by simpa using hz, hcell, hwz⟩⟩
  obtain ⟨which, rfl, rfl, rfl, w1⟩ := open_int Try.underlying3 (hval 1 3 v1 rfl rfl) h1
  obtain ⟨odd, rfl, rfl, rfl, w2⟩ := open_int Try.underlying23 (hval 2 23 v2 rfl rfl) h2
  obtain ⟨noth, rfl, rfl, rfl⟩ := open_bool Try.underlying4 (hval 3 4 v3 rfl rfl) h3
  clear hA0 hval0
  refine (walk W b lenb capb zb w0 which w1 odd w2 noth).mono fun e W' ⟨he, bel⟩ => ?_
  subst he
  exact ⟨_, rfl, _, _, _, [], _, [], hW', trodAll_mk1 (shut_bool Try.underlying4 _), (trodAll_cons_mk (Below.trod laidOut (by kernel_rfl) (of_decide_eq_true (by kernel_rfl)) k0 bel lt0) (trodAll_cons_mk (shut_int Try.underlying3 w1) (trodAll_cons_mk (shut_int Try.underlying23 w2) (trodAll_cons_mk (shut_bool Try.underlying4 _) trodAll_mk0)))), rfl, bel.frame _, fun h => by cases h⟩
theorem over : Rows.frameSumsRow.holds Try.pinned (OpenSpec.ofChange Rows.frameSumsSpec) :=
  OpenClaim.holds_of_wide 3 Try.f3 rfl rfl rfl rfl rfl rfl rfl ⟨rfl, rfl, rfl, rfl, rfl⟩ rfl rfl rfl rfl rfl (by kernel_rfl) Try.func3 (by kernel_rfl)
    (of_decide_eq_true (by kernel_rfl)) (by unfold Func.isWrapper; first | (rw [if_pos (by decide +kernel)]; kernel_rfl) | (rw [if_neg (by decide +kernel)]; exact ⟨rfl, rfl⟩))
    (fun os started H enc _ => lifted os started H enc)
theorem proved : Rows.FrameSumsSaid := over
#print axioms proved
end Go.Proofs.Ytlioogkcndahnaa.frameSums
