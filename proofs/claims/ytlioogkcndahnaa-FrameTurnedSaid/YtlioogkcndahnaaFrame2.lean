/- Package frame and its reference: the table. -/
import Derived.Test.YtlioogkcndahnaaFrame1
import Derived.Laws.BitsAllLaws
import Derived.Outline
namespace Go.Proofs.Ytlioogkcndahnaa
set_option linter.unusedVariables false
open Go.RowKit
theorem szTab : (Try.prog.info? 25).map (·.size) = some 256 := by kernel_rfl
theorem and_one (x : Nat) : x &&& 1 = x % 2 := Nat.and_one_is_mod x
theorem step_prog {x : Nat} (h : x < 4294967296) : bits .xor .u32 ((x : Int) / 2) (3988292384 * bits .and .u32 (x : Int) 1 % 4294967296) = ((stp x : Nat) : Int) := by
  have e1 : bits .and .u32 (x : Int) 1 = ((x % 2 : Nat) : Int) := by
    have := u32_and_nat x 1 h (by omega)
    rw [and_one] at this
    exact this
  have e2 : (3988292384 * bits .and .u32 (x : Int) 1 % 4294967296) = ((if x % 2 = 1 then poly else 0 : Nat) : Int) := by
    rw [e1]
    unfold poly
    rcases Nat.mod_two_eq_zero_or_one x with h | h <;> rw [h] <;> simp
  have e3 : ((x : Int) / 2) = ((x / 2 : Nat) : Int) := by omega
  rw [e2, e3, u32_xor_nat _ _ (by omega) (by unfold poly; split <;> omega)]
  rfl
theorem stpN_next (m x : Nat) : stpN (m + 1) x = stp (stpN m x) := stpN_add m 1 x
theorem tab_next (k : Nat) : (fun j => if j = k then tab k else if j < k then tab j else 0) = fun j => if j < k + 1 then tab j else 0 := by
  funext j
  by_cases h : j = k
  · subst h; simp
  · by_cases h2 : j < k
    · rw [if_neg h, if_pos h2, if_pos (by omega)]
    · rw [if_neg h, if_neg h2, if_neg (by omega)]
theorem tab_all : tabC (fun j => if j < 256 then tab j else 0) = tabC tab := by
  unfold tabC
  exact congrArg List.toArray (List.map_congr_left fun j hj => by simp only []; rw [if_pos (List.mem_range.1 hj)])
theorem szTabC (f : Nat → Nat) : (Try.prog.info? 25).map (·.size) = some (tabC f).size := by rw [tabC_size]; exact szTab
set_option maxHeartbeats 2000000 in
set_option maxRecDepth 100000 in
theorem fTable (w : World) : Calls Try.prog 15 #[] w fun e w' => e = .returned (.agg (tabC tab)) ∧ Below w.heap.size w w' := by
  go_enter Try.func15, Try.ntmps15
  go_wp2_with (refine alloc_row rfl _ rfl zeroTab ?_)
  have hb0 := Blk.new w 25 (tabC fun _ => 0)
  have hV0 : Below w.heap.size w (w.alloc (.cells (tabC fun _ => 0) 25)) := (Below.refl _ _).alloc (Nat.le_refl _) _
  have hsz : w.heap.size = w.heap.size := rfl
  clear hsz
  go_loopg [3] 256 (fun g s3 wr => ∃ k : Nat, k ≤ 256 ∧ 256 ≤ g + k ∧ s3 = .int .i64 k ∧ Below w.heap.size w wr ∧ Blk wr w.heap.size 25 (tabC fun j => if j < k then tab j else 0))
  case atStart => exact ⟨0, by omega, by omega, rfl, hV0, by simpa using hb0⟩
  case round =>
    obtain ⟨k, hk, hg, rfl, hV, hb⟩ := hrel
    clear hb0 hV0
    by_cases hlt : k < 256
    · have hcell := hb.cell k
      rw [tabC_at _ hlt, if_neg (Nat.lt_irrefl k)] at hcell
      have hmark := hb.mark k
      have HV := Lib.hid hV
      have HB := Lib.hid hb
      clear hV hb
      go_wp2_with fail
      obtain ⟨wo, rfl⟩ : ∃ wo : World, wo = wr := ⟨_, rfl⟩
      go_loop [2, 8] (fun s2 s8 => ∃ m : Nat, m ≤ 8 ∧ s8 = .int .i64 m ∧ s2 = .int .u32 (stpN m k : Nat)) (fun _ s8 => 8 - (intOf s8).toNat)
      case atStart => exact ⟨0, by omega, rfl, by rfl⟩
      case round =>
        obtain ⟨m, hm, rfl, rfl⟩ := hrel
        have hx : stpN m k < 4294967296 := stpN_lt m (by omega)
        have hs := step_prog hx
        rw [← stpN_next] at hs
        have HS := Lib.hid hs
        clear hs
        by_cases hl2 : m < 8
        · go_wp2_with fail
          go_round
          case rel => exact ⟨m + 1, by omega, by go_num, by rw [HS.out]⟩
          case measure => simp [intOf]; omega
        · obtain rfl : m = 8 := by omega
          clear HS
          go_wp2_with fail
          go_roundg (256 - (k + 1))
          case measure => omega
          case rel =>
            refine ⟨k + 1, by omega, by omega, by go_num, (HV.out.setCell (by exact Nat.le_refl _) _), ?_⟩
            have := HB.out.set k (.int .u32 (stpN 8 k : Nat))
            rw [tabC_set] at this
            rw [← tab_next]; exact this
    · obtain rfl : k = 256 := by omega
      rw [tab_all] at hb
      have HV := Lib.hid hV
      have HB := Lib.hid hb
      clear hV hb
      go_wp2_with (first | (refine load_row rfl _ _ rfl rfl Try.underlying25 rfl (szTabC _) HB.out ?_) | (refine store_row rfl _ _ _ rfl w rfl rfl HV.out (Nat.le_refl _) HB.out rfl (szTabC _) (tabC_one _) ?_; intro z hz hzf))
      exact bodyPost_ret (results_cell_row Try.results15 _ _ _ _ _ _ _ rfl hz Try.underlying25 rfl (szTabC _)) rfl ⟨rfl, past_below _ _⟩
theorem step_ref {x : Nat} (h : x < 4294967296) (h1 : x % 2 = 1) : bits .xor .u32 ((x : Int) / 2) 3988292384 = ((stp x : Nat) : Int) := by
  have e3 : ((x : Int) / 2) = ((x / 2 : Nat) : Int) := by omega
  have := u32_xor_nat (x / 2) 3988292384 (by omega) (by omega)
  rw [e3]
  unfold stp poly
  rw [if_pos h1]; exact this
theorem step_ref0 {x : Nat} (h1 : ¬ x % 2 = 1) : ((x : Int) / 2) = ((stp x : Nat) : Int) := by
  unfold stp
  rw [if_neg h1, Nat.xor_zero]; omega
theorem rOn (x n : Nat) (hx : x < 4294967296) (hn : n ≤ 1000) (w : World) : Calls Try.prog 46 #[.int .u32 x, .int .i64 n] w fun e w' => e = .returned (.int .u32 (stpN n x : Nat)) ∧ Below w.heap.size w w' := by
  go_enter Try.func46, Try.ntmps46
  go_wp2_with fail
  go_loop [0, 1] (fun s0 s1 => ∃ m : Nat, m ≤ n ∧ s1 = .int .i64 ((n - m : Nat) : Int) ∧ s0 = .int .u32 (stpN m x : Nat)) (fun _ s1 => (intOf s1).toNat)
  case atStart => exact ⟨0, by omega, rfl, rfl⟩
  case round =>
    obtain ⟨m, hm, rfl, rfl⟩ := hrel
    have hy := stpN_lt m hx
    have hnx := stpN_next m x
    obtain ⟨y, hyy⟩ : ∃ y, stpN m x = y := ⟨_, rfl⟩
    rw [hyy] at hy hnx ⊢
    by_cases hlt : m < n
    · obtain ⟨j, hj⟩ : ∃ j, n - m = j := ⟨_, rfl⟩
      rw [hj]
      have hj2 : 0 < j := by omega
      have hj3 : j ≤ 1000 := by omega
      have HX := Lib.hid hnx
      have HJ := Lib.hid hj
      clear hyy hnx hj
      by_cases hodd : y % 2 = 1
      · have d1 : (((y : Int) % 2) == 1) = true := by simp; omega
        have hs := step_ref hy hodd
        have HS := Lib.hid hs
        clear hs
        go_wp2_with fail
        go_round
        case rel => exact ⟨m + 1, by omega, by have := HJ.out; rw [show (n - (m + 1) : Nat) = j - 1 by omega]; congr 1; omega, by rw [HX.out, HS.out]⟩
        case measure => simp [intOf]; omega
      · have d1 : (((y : Int) % 2) == 1) = false := by simp; omega
        have hs := step_ref0 hodd
        have HS := Lib.hid hs
        clear hs
        go_wp2_with fail
        go_round
        case rel => exact ⟨m + 1, by omega, by have := HJ.out; rw [show (n - (m + 1) : Nat) = j - 1 by omega]; congr 1; omega, by rw [HX.out, HS.out]⟩
        case measure => simp [intOf]; omega
    · obtain rfl : m = n := by omega
      have e0 : m - m = 0 := by omega
      rw [e0]
      have HY := Lib.hid hyy
      clear hnx hyy e0
      go_wp2_with fail
      go_ret
      exact ⟨by rw [HY.out]; rfl, Below.refl _ _⟩
set_option maxHeartbeats 2000000 in
set_option maxRecDepth 100000 in
theorem rTable (w : World) : Calls Try.prog 16 #[] w fun e w' => e = .returned (.agg (tabC tab)) ∧ Below w.heap.size w w' := by
  go_enter Try.func16, Try.ntmps16
  go_wp2_with (refine alloc_row rfl _ rfl zeroTab ?_)
  have hb0 := Blk.new w 25 (tabC fun _ => 0)
  have hV0 : Below w.heap.size w (w.alloc (.cells (tabC fun _ => 0) 25)) := (Below.refl _ _).alloc (Nat.le_refl _) _
  have hb1 := Blk.new (w.alloc (.cells (tabC fun _ => 0) 25)) 25 (tabC fun _ => 0)
  rw [show (w.alloc (.cells (tabC fun _ => 0) 25)).heap.size = w.heap.size + 1 by simp] at hb1
  have hV1 := below_a (.cells (tabC fun _ => 0) 25) hV0
  have hb0 := hb0.keep ((Below.refl _ _).alloc (Nat.le_refl _) (.cells (tabC fun _ => 0) 25))
  clear hV0
  go_loopg [2] 256 (fun g s2 wr => ∃ k : Nat, k ≤ 256 ∧ 256 ≤ g + k ∧ s2 = .int .i64 k ∧ Below w.heap.size w wr ∧ Blk wr w.heap.size 25 (tabC fun _ => 0) ∧ Blk wr (w.heap.size + 1) 25 (tabC fun j => if j < k then tab j else 0))
  case atStart => exact ⟨0, by omega, by omega, rfl, hV1, hb0, by simpa using hb1⟩
  case round =>
    obtain ⟨k, hk, hg, rfl, hV, hb, hc⟩ := hrel
    clear hb0 hb1 hV1
    by_cases hlt : k < 256
    · have hcell := hc.cell k
      rw [tabC_at _ hlt, if_neg (Nat.lt_irrefl k)] at hcell
      have hmark := hc.mark k
      have hlt2 := hc.lt
      have hon : ∀ w, Calls Try.prog 46 #[.int .u32 k, .int .i64 8] w fun e w' => e = .returned (.int .u32 (tab k : Nat)) ∧ Below w.heap.size w w' := fun w => rOn k 8 (by omega) (by omega) w
      have HV := Lib.hid hV
      have HB := Lib.hid hb
      have HC := Lib.hid hc
      clear hV hb hc
      go_wp2_with ((go_at_call 46; first | (with_reducible refine Calls_past2 (hon _) (fun z => ?_)) | (with_reducible refine Calls_past (hon _) (fun z => ?_))))
      go_roundg (256 - (k + 1))
      case measure => omega
      case rel =>
        refine ⟨k + 1, by omega, by omega, by go_num, past_t _ (HV.out.setCell (by show w.heap.size ≤ w.heap.size + 1; omega) _), (HB.out.far (by omega) _).keep (past_below _ _), ?_⟩
        have := HC.out.set k (.int .u32 (tab k : Nat))
        rw [tabC_set] at this
        rw [← tab_next]; exact this.keep (past_below _ _)
    · obtain rfl : k = 256 := by omega
      rw [tab_all] at hc
      have HV := Lib.hid hV
      have HB := Lib.hid hb
      have HC := Lib.hid hc
      clear hV hb hc
      go_wp2_with (first | (refine load_row rfl _ _ rfl rfl Try.underlying25 rfl (szTabC _) HC.out ?_) | (refine store_row rfl _ _ _ rfl w rfl rfl HV.out (Nat.le_refl _) HB.out (by rw [tabC_size, tabC_size]) (szTabC _) (tabC_one _) ?_; intro z hz hzf))
      exact bodyPost_ret (results_cell_row Try.results16 _ _ _ _ _ _ _ rfl hz Try.underlying25 rfl (szTabC _)) rfl ⟨rfl, past_below _ _⟩
end Go.Proofs.Ytlioogkcndahnaa
