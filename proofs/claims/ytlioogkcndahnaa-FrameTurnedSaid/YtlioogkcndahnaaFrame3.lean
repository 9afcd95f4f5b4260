/- Package frame and its reference: the sum; a number's four bytes. -/
import Derived.Test.YtlioogkcndahnaaFrame2
namespace Go.Proofs.Ytlioogkcndahnaa
set_option linter.unusedVariables false
open Go.RowKit
def AllB (L : List Int) : Prop := ∀ x ∈ L, 0 ≤ x ∧ x < 256
abbrev nn (L : List Int) : List Nat := L.map Int.toNat
theorem AllB.nn {L : List Int} (h : AllB L) : ∀ c ∈ nn L, c < 256 := by
  intro c hc
  obtain ⟨x, hx, rfl⟩ := List.mem_map.1 hc
  have := h x hx; omega
theorem AllB.get {L : List Int} (h : AllB L) (k : Nat) (hk : k < L.length) : 0 ≤ L.getD k 0 ∧ L.getD k 0 < 256 := by
  have e : L.getD k 0 = L[k] := by simp [List.getD, hk]
  rw [e]; exact h _ (List.getElem_mem hk)
def F32 (f : Nat → Nat) : Prop := ∀ i, i < 256 → f i < 4294967296
theorem F32.tab : F32 tab := fun i hi => tab_lt hi
/-- What has been reckoned behind so many bytes. -/
def crcK (f : Nat → Nat) (L : List Int) (k : Nat) : Nat := crc f 4294967295 ((nn L).take k)
theorem crcK_lt {f : Nat → Nat} (hf : F32 f) {L : List Int} (hL : AllB L) (k : Nat) : crcK f L k < 4294967296 :=
  crc_lt hf (by omega) fun c hc => hL.nn c (List.mem_of_mem_take hc)
theorem crcK_next (f : Nat → Nat) (L : List Int) (k : Nat) (hk : k < L.length) : crcK f L (k + 1) = (crcK f L k / 256) ^^^ f ((crcK f L k % 256) ^^^ (L.getD k 0).toNat) := by
  unfold crcK
  rw [List.take_succ_eq_append_getElem (by simpa using hk), crc_snoc]
  simp [List.getD, hk]
theorem crcK_all (f : Nat → Nat) (L : List Int) : 4294967295 ^^^ crcK f L L.length = sumv f (nn L) := by
  unfold crcK sumv
  rw [List.take_of_length_le (by simp)]
theorem sumv_lt {f : Nat → Nat} (hf : F32 f) {L : List Int} (hL : AllB L) : sumv f (nn L) < 4294967296 := xor_lt32 (by omega) (crc_lt hf (by omega) hL.nn)
theorem sum_byte {x : Nat} {c : Int} (h0 : 0 ≤ c) (h1 : c < 256) : bits .xor .u8 ((x : Int) % 256) c = (((x % 256) ^^^ c.toNat : Nat) : Int) := by
  have := u8_xor_nat (x % 256) c.toNat (by omega) (by omega)
  rw [Int.toNat_of_nonneg h0] at this
  rw [← this]; congr 1
theorem sum_step {x y : Nat} (hx : x < 4294967296) (hy : y < 4294967296) : bits .xor .u32 ((x : Int) / 256) (y : Int) = ((x / 256 ^^^ y : Nat) : Int) := by
  have := u32_xor_nat (x / 256) y (by omega) hy
  rw [← this]; congr 1
theorem sum_end {x : Nat} (hx : x < 4294967296) : bits .xor .u32 4294967295 (x : Int) = ((4294967295 ^^^ x : Nat) : Int) := u32_xor_nat 4294967295 x (by omega) hx
set_option maxRecDepth 100000 in
theorem fSumNil (v : Value) (w : World) : Calls Try.prog 17 #[.pointer none, v] w fun e w' => e = .returned (.int .u32 0) ∧ Below w.heap.size w w' := by
  go_enter Try.func17, Try.ntmps17
  go_wp2_with fail
  go_ret
  exact ⟨rfl, Below.refl _ _⟩
theorem rSumNil (v : Value) (w : World) : Calls Try.prog 20 #[.pointer none, v] w fun e w' => e = .returned (.int .u32 0) ∧ Below w.heap.size w w' := by
  go_enter Try.func20, Try.ntmps20
  go_wp2_with fail
  go_ret
  exact ⟨rfl, Below.refl _ _⟩
set_option maxHeartbeats 2000000 in
set_option maxRecDepth 100000 in
theorem fSum {g : Nat} {T : TypeId} {f : Nat → Nat} {A : Option Addr} {n c : Nat} {L : List Int} {w : World} (hb : Blk w g T (tabC f)) (hf : F32 f) (hr : RS .u8 w A n c L) (hL : AllB L) :
    Calls Try.prog 17 #[.pointer (some ⟨g, 0, none⟩), .slice A n c] w fun e w' => e = .returned (.int .u32 (sumv f (nn L) : Nat)) ∧ Below w.heap.size w w' := by
  have hall := crcK_all f L
  have hln := hr.len
  have htop := hr.top
  have hcap := hr.cap
  obtain rfl := hln
  have HALL := Lib.hid hall
  have hll : L.length ≤ 9223372036854775807 := by omega
  by_cases h0 : L.length = 0
  · have hk0 : crcK f L 0 = 4294967295 := by simp [crcK, crc]
    rw [h0] at hall
    rw [hk0] at hall
    have : sumv f (nn L) = 0 := by rw [← hall]; rfl
    rw [this, h0]
    clear hall HALL hr hb this hk0 h0 htop hcap hL hf
    go_enter Try.func17, Try.ntmps17
    go_wp2_with fail
    go_loop [5, 12] (fun s5 s12 => s5 = .int .u32 4294967295 ∧ s12 = .int .i64 0) (fun _ s12 => 0)
    case atStart => exact ⟨rfl, rfl⟩
    case round =>
      obtain ⟨rfl, rfl⟩ := hrel
      go_wp2_with fail
      go_ret
      exact ⟨rfl, Below.refl _ _⟩
  · obtain ⟨b, o, rfl, hbw, hrow⟩ := hr.at_ (by omega)
    have HR := Lib.hid hrow
    have HB := Lib.hid hb
    have H0 := Lib.hid h0
    clear hall hr hrow hb h0
    go_enter Try.func17, Try.ntmps17
    go_wp2_with fail
    go_loop [5, 12] (fun s5 s12 => ∃ k : Nat, k ≤ L.length ∧ s12 = .int .i64 k ∧ s5 = .int .u32 (crcK f L k : Nat)) (fun _ s12 => L.length - (intOf s12).toNat)
    case atStart => exact ⟨0, by omega, rfl, by simp [crcK, crc]⟩
    case round =>
      obtain ⟨k, hk, rfl, rfl⟩ := hrel
      have hx := crcK_lt hf hL k
      by_cases hlt : k < L.length
      · have hc := hL.get k hlt
        have hcell := HR.out k hlt
        have hnx := crcK_next f L k hlt
        obtain ⟨x, hxx⟩ : ∃ x, crcK f L k = x := ⟨_, rfl⟩
        obtain ⟨d, hdd⟩ : ∃ d, L.getD k 0 = d := ⟨_, rfl⟩
        rw [hxx] at hx hnx ⊢
        rw [hdd] at hc hcell hnx
        have hby := sum_byte (x := x) hc.1 hc.2
        have hylt : (x % 256) ^^^ d.toNat < 256 := xor_lt8 (by omega) (by omega)
        have hyl : ((((x % 256) ^^^ d.toNat : Nat)) : Int) < 256 := by omega
        obtain ⟨y, hyy⟩ : ∃ y, (x % 256) ^^^ d.toNat = y := ⟨_, rfl⟩
        rw [hyy] at hby hylt hyl hnx
        have hct := HB.out.cell y
        rw [tabC_at _ hylt] at hct
        have hfy := hf y hylt
        have hst := sum_step hx hfy
        have HX := Lib.hid hnx
        have HS := Lib.hid hst
        obtain ⟨c1, c2⟩ := hc
        clear hxx hdd hyy hnx hst hcap
        go_wp2_with fail
        go_round
        case rel => exact ⟨k + 1, by omega, by go_num, by rw [HX.out, HS.out]⟩
        case measure => simp [intOf]; omega
      · obtain rfl : k = L.length := by omega
        have he := sum_end hx
        have HE := Lib.hid he
        clear he
        go_wp2_with fail
        go_ret
        exact ⟨by rw [← HALL.out, ← HE.out]; rfl, Below.refl _ _⟩
set_option maxHeartbeats 2000000 in
set_option maxRecDepth 100000 in
theorem rSum {g : Nat} {T : TypeId} {f : Nat → Nat} {A : Option Addr} {n c : Nat} {L : List Int} {w : World} (hb : Blk w g T (tabC f)) (hf : F32 f) (hr : RS .u8 w A n c L) (hL : AllB L) :
    Calls Try.prog 20 #[.pointer (some ⟨g, 0, none⟩), .slice A n c] w fun e w' => e = .returned (.int .u32 (sumv f (nn L) : Nat)) ∧ Below w.heap.size w w' := by
  have hall := crcK_all f L
  have hln := hr.len
  have htop := hr.top
  have hcap := hr.cap
  obtain rfl := hln
  have HALL := Lib.hid hall
  have hll : L.length ≤ 9223372036854775807 := by omega
  by_cases h0 : L.length = 0
  · have hk0 : crcK f L 0 = 4294967295 := by simp [crcK, crc]
    rw [h0] at hall
    rw [hk0] at hall
    have : sumv f (nn L) = 0 := by rw [← hall]; rfl
    rw [this, h0]
    clear hall HALL hr hb this hk0 h0 htop hcap hL hf
    go_enter Try.func20, Try.ntmps20
    go_wp2_with fail
    go_loop [5, 6] (fun s5 s12 => s5 = .int .u32 4294967295 ∧ s12 = .int .i64 0) (fun _ s12 => 0)
    case atStart => exact ⟨rfl, rfl⟩
    case round =>
      obtain ⟨rfl, rfl⟩ := hrel
      go_wp2_with fail
      go_ret
      exact ⟨rfl, Below.refl _ _⟩
  · obtain ⟨b, o, rfl, hbw, hrow⟩ := hr.at_ (by omega)
    have HR := Lib.hid hrow
    have HB := Lib.hid hb
    have H0 := Lib.hid h0
    clear hall hr hrow hb h0
    go_enter Try.func20, Try.ntmps20
    go_wp2_with fail
    go_loopg [5, 6] L.length (fun g s5 s12 wr => ∃ k : Nat, k ≤ L.length ∧ L.length ≤ g + k ∧ s12 = .int .i64 k ∧ s5 = .int .u32 (crcK f L k : Nat) ∧ ∃ z, wr = past w z)
    case atStart => exact ⟨0, by omega, by omega, rfl, by simp [crcK, crc], _, past_of (Below.refl _ _)⟩
    case round =>
      obtain ⟨k, hk, hg, rfl, rfl, z, rfl⟩ := hrel
      have hx := crcK_lt hf hL k
      by_cases hlt : k < L.length
      · have hc := hL.get k hlt
        have hcell := HR.out k hlt
        have hnx := crcK_next f L k hlt
        obtain ⟨x, hxx⟩ : ∃ x, crcK f L k = x := ⟨_, rfl⟩
        obtain ⟨d, hdd⟩ : ∃ d, L.getD k 0 = d := ⟨_, rfl⟩
        rw [hxx] at hx hnx ⊢
        rw [hdd] at hc hcell hnx
        have hby := sum_byte (x := x) hc.1 hc.2
        have hylt : (x % 256) ^^^ d.toNat < 256 := xor_lt8 (by omega) (by omega)
        have hyl : ((((x % 256) ^^^ d.toNat : Nat)) : Int) < 256 := by omega
        obtain ⟨y, hyy⟩ : ∃ y, (x % 256) ^^^ d.toNat = y := ⟨_, rfl⟩
        rw [hyy] at hby hylt hyl hnx
        have hct := HB.out.cell y
        rw [tabC_at _ hylt] at hct
        have hfy := hf y hylt
        have hst := sum_step hx hfy
        have HX := Lib.hid hnx
        have HS := Lib.hid hst
        obtain ⟨c1, c2⟩ := hc
        clear hxx hdd hyy hnx hst hcap
        go_wp2_with fail
        (first | refine region_past2 (by kernel_rfl) (by kernel_rfl) ?_ | refine region_past (by kernel_rfl) (by kernel_rfl) ?_)
        repeat (go_big_quiet_step (fail))
        refine wpQuiet_nil ?_; rintro _ ⟨y, rfl⟩
        go_wp2_with fail
        go_roundg (L.length - (k + 1))
        case measure => omega
        case rel => exact ⟨k + 1, by omega, by omega, by go_num, by rw [HX.out, HS.out], _, rfl⟩
      · obtain rfl : k = L.length := by omega
        have he := sum_end hx
        have HE := Lib.hid he
        clear he
        go_wp2_with fail
        go_ret
        exact ⟨by rw [← HALL.out, ← HE.out]; rfl, past_below _ _⟩
theorem tail4 : (Try.prog.info? 73).map (fun i => (i.zero, i.size)) = some (some (.agg #[.int .u8 0, .int .u8 0, .int .u8 0, .int .u8 0]), 4) := by kernel_rfl
def tl (x : Nat) : Nat → Array Value
  | 0 => #[.int .u8 0, .int .u8 0, .int .u8 0, .int .u8 0]
  | 1 => #[.int .u8 ((x : Int) % 256), .int .u8 0, .int .u8 0, .int .u8 0]
  | 2 => #[.int .u8 ((x : Int) % 256), .int .u8 ((x : Int) / 256 % 256), .int .u8 0, .int .u8 0]
  | 3 => #[.int .u8 ((x : Int) % 256), .int .u8 ((x : Int) / 256 % 256), .int .u8 ((x : Int) / 65536 % 256), .int .u8 0]
  | _ => #[.int .u8 ((x : Int) % 256), .int .u8 ((x : Int) / 256 % 256), .int .u8 ((x : Int) / 65536 % 256), .int .u8 ((x : Int) / 16777216)]
set_option maxRecDepth 100000 in
theorem fTail (x : Nat) (hx : x < 4294967296) (w : World) : Calls Try.prog 47 #[.int .u32 x] w fun e w' => e = .returned (.agg (tl x 4)) ∧ Below w.heap.size w w' := by
  go_enter Try.func47, Try.ntmps47
  go_wp2_with fail
  go_loopg [4] 4 (fun g s4 wr => ∃ k : Nat, k ≤ 4 ∧ 4 ≤ g + k ∧ s4 = .int .i64 k ∧ wr = w.alloc (.cells (tl x k) 73))
  case atStart => exact ⟨0, by omega, by omega, rfl, rfl⟩
  case round =>
    obtain ⟨k, hk, hg, rfl, rfl⟩ := hrel
    obtain rfl | rfl | rfl | rfl | rfl : k = 0 ∨ k = 1 ∨ k = 2 ∨ k = 3 ∨ k = 4 := by omega
    all_goals unfold tl
    · go_wp2_with fail
      go_roundg 3
      case measure => omega
      case rel => exact ⟨1, by omega, by omega, rfl, rfl⟩
    · go_wp2_with fail
      go_roundg 2
      case measure => omega
      case rel => exact ⟨2, by omega, by omega, rfl, rfl⟩
    · go_wp2_with fail
      go_roundg 1
      case measure => omega
      case rel => exact ⟨3, by omega, by omega, rfl, rfl⟩
    · go_wp2_with fail
      go_roundg 0
      case measure => omega
      case rel => exact ⟨4, by omega, by omega, rfl, rfl⟩
    · go_wp2_with fail
      exact bodyPost_ret (v := .agg (tl x 4)) (by unfold tl; (first | (simp [results, Try.results47, go_sem]; done) | (simp [results, Try.results47, go_sem, ↓IntWalk.iteOmega]; done))) rfl ⟨rfl, by (repeat (first | assumption | exact Below.refl _ _ | with_reducible refine past_t _ ?_ | with_reducible refine below_a _ ?_ | with_reducible refine Below.drew ?_ | with_reducible refine below_d _ ?_ | (with_reducible refine Below.setCell ?_ (by (show _ ≤ _; repeat (first | exact Nat.le_refl _ | assumption | (omega; done) | with_reducible exact le_past (Nat.le_refl _) | with_reducible refine le_past ?_ | with_reducible refine le_al ?_ | with_reducible refine le_set ?_ | with_reducible refine le_p1 ?_))) _)))⟩
end Go.Proofs.Ytlioogkcndahnaa
