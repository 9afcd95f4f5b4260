/- The laws of math/bits.Add64 and Sub64 at this dump. -/
import Derived.Test.YtlhadociaekkhaaRows
import Derived.WalkKit
import Derived.WalkSpells
import Derived.WalkLawsBesides
import Derived.StillTailTactics
import Derived.Deep.QuietTactic
import Derived.BigQuiet
import Derived.Lib.Hide
import Derived.IntWalk
import Derived.Deep.RegionWith
import Derived.Deep.RegionHeld3
import Derived.Test.YtlhadociaekkhaaProg
import Derived.Lib.BitFns
import Derived.Lib.Strings
import Derived.Lib.Slices
import Derived.Lib.Small
import Derived.Lib.Walk
namespace Go.Proofs.Ytlhadociaekkhaa
set_option linter.unusedVariables false
open Go.RowKit
def sub64E : Array Value → Sem Value := fun args => do
  let (x, y, b) ← Extern.MathBitsCarry.three "Sub64" args
  pure (Extern.MathBitsCarry.pair ((x + Extern.MathBitsCarry.m64 - y - b) % Extern.MathBitsCarry.m64) (if x < y + b then 1 else 0))

theorem run_sub64E {P : Program} (x y b : Int) (hx : 0 ≤ x) (hx1 : x < 18446744073709551616) (hy : 0 ≤ y) (hy1 : y < 18446744073709551616) (hb0 : 0 ≤ b) (hb : b ≤ 1) (w : World) :
    (sub64E #[.int .u64 x, .int .u64 y, .int .u64 b]).run P w =
      .ok (.tuple #[.int .u64 ((x - y - b) % 18446744073709551616), .int .u64 (if x < y + b then 1 else 0)]) w := by
  obtain ⟨x, rfl⟩ := Int.eq_ofNat_of_zero_le hx
  obtain ⟨y, rfl⟩ := Int.eq_ofNat_of_zero_le hy
  obtain ⟨b, rfl⟩ := Int.eq_ofNat_of_zero_le hb0
  have key : ∀ c : Nat, c ≤ 1 → (sub64E #[.int .u64 x, .int .u64 y, .int .u64 (c : Int)]).run P w =
      .ok (.tuple #[.int .u64 (((x + 18446744073709551616 - y - c) % 18446744073709551616 : Nat) : Int), .int .u64 ((if x < y + c then 1 else 0 : Nat) : Int)]) w := by
    intro c hc
    have : c = 0 ∨ c = 1 := by omega
    rcases this with rfl | rfl <;> rfl
  rw [key b (by omega)]
  have e1 : (((x + 18446744073709551616 - y - b) % 18446744073709551616 : Nat) : Int) = ((x : Int) - y - b) % 18446744073709551616 := by omega
  have e2 : ((if x < y + b then 1 else 0 : Nat) : Int) = (if (x : Int) < y + b then 1 else 0) := by split <;> split <;> omega
  rw [e1, e2]

theorem call_Add64 (x y c : Int) (hx : 0 ≤ x) (hy : 0 ≤ y) (hc0 : 0 ≤ c) (hc : c ≤ 1) (w : World) :
    (callFunc 101 #[.int .u64 x, .int .u64 y, .int .u64 c]).run Try.prog w =
      .ok (.value (.tuple #[.int .u64 ((x + y + c) % 18446744073709551616), .int .u64 ((x + y + c) / 18446744073709551616)])) w := by
  rw [run_callFunc_extern Try.func101 (by kernel_rfl) (by kernel_rfl) (by kernel_rfl) (e := add64Entry) (by kernel_rfl), run_add64 x y c hx hy hc0 hc]
  rfl

def brw (a b c : Int) : Int := if a < b + c then 1 else 0
theorem brw_lo (a b c : Int) : 0 ≤ brw a b c := by unfold brw; split <;> omega
theorem brw_up (a b c : Int) : brw a b c ≤ 1 := by unfold brw; split <;> omega
theorem call_Sub64 (x y b : Int) (hx : 0 ≤ x) (hx1 : x ≤ 18446744073709551615) (hy : 0 ≤ y) (hy1 : y ≤ 18446744073709551615) (hb0 : 0 ≤ b) (hb : b ≤ 1) (w : World) :
    (callFunc 118 #[.int .u64 x, .int .u64 y, .int .u64 b]).run Try.prog w =
      .ok (.value (.tuple #[.int .u64 ((x - y - b) % 18446744073709551616), .int .u64 (brw x y b)])) w := by
  rw [run_callFunc_extern Try.func118 (by kernel_rfl) (by kernel_rfl) (by kernel_rfl) (e := sub64E) (by kernel_rfl), run_sub64E x y b hx (by omega) hy (by omega) hb0 hb]
  rfl
end Go.Proofs.Ytlhadociaekkhaa
/- Plain arithmetic of numbers of 128 bits. -/
namespace Go.Proofs.Ytlhadociaekkhaa
set_option linter.unusedVariables false
def whi (x : Int) : Int := (x / 18446744073709551616 + 9223372036854775808) % 18446744073709551616 - 9223372036854775808
def wlo (x : Int) : Int := x % 18446744073709551616
theorem whi_lo (x : Int) : -9223372036854775808 ≤ whi x := by unfold whi; omega
theorem whi_up (x : Int) : whi x ≤ 9223372036854775807 := by unfold whi; omega
theorem wlo_lo (x : Int) : 0 ≤ wlo x := by unfold wlo; omega
theorem wlo_up (x : Int) : wlo x ≤ 18446744073709551615 := by unfold wlo; omega
theorem wide_of (h l : Int) (h1 : -9223372036854775808 ≤ h) (h2 : h ≤ 9223372036854775807) (h3 : 0 ≤ l) (h4 : l ≤ 18446744073709551615) :
    ∃ x, h = whi x ∧ l = wlo x ∧ -170141183460469231731687303715884105728 ≤ x ∧ x < 170141183460469231731687303715884105728 := by
  refine ⟨h * 18446744073709551616 + l, ?_, ?_, ?_, ?_⟩ <;> (try unfold whi) <;> (try unfold wlo) <;> omega
theorem wide_inj {x y : Int} (h : whi x = whi y) (l : wlo x = wlo y) : x % 340282366920938463463374607431768211456 = y % 340282366920938463463374607431768211456 := by
  unfold whi at h; unfold wlo at l; omega
theorem wide_eq {x y : Int} (h : x % 340282366920938463463374607431768211456 = y % 340282366920938463463374607431768211456) : whi x = whi y ∧ wlo x = wlo y := by
  unfold whi wlo; omega

def shi (x : Int) : Int := x / 18446744073709551616 % 18446744073709551616
theorem shi_lo (x : Int) : 0 ≤ shi x := by unfold shi; omega
theorem shi_up (x : Int) : shi x ≤ 18446744073709551615 := by unfold shi; omega
theorem pw (a b : Nat) : (2 : Int) ^ a * 2 ^ b = 2 ^ (a + b) := (Int.pow_add ..).symm
theorem pw_pos (a : Nat) : 0 < (2 : Int) ^ a := Int.pow_pos (by omega)
theorem pw64 (n : Int) (h0 : 0 ≤ n) (h1 : n ≤ 64) : (2 : Int) ^ n.toNat * 2 ^ (64 - n).toNat = 18446744073709551616 := by
  rw [pw, show n.toNat + (64 - n).toNat = 64 from by omega]; decide
theorem pw_hi (n : Int) (h0 : 64 ≤ n) : (2 : Int) ^ n.toNat = 18446744073709551616 * 2 ^ (n - 64).toNat := by
  rw [show n.toNat = 64 + (n - 64).toNat from by omega, ← pw, show (2 : Int) ^ 64 = 18446744073709551616 from by decide]
/-- 'a = k·q + r' with '0 ≤ r < q' tells the quotient and the rest. -/
theorem div_of {a q k r : Int} (h : a = k * q + r) (h0 : 0 ≤ r) (h1 : r < q) : a / q = k ∧ a % q = r := by
  have hq : 0 < q := by omega
  have : a / q = k := by
    rw [h, Int.add_comm, Int.add_mul_ediv_right _ _ (by omega), Int.ediv_eq_zero_of_lt h0 h1]; omega
  refine ⟨this, ?_⟩
  have := Int.emod_def a q
  rw [this, ‹a / q = k›, h, Int.mul_comm q k]; omega
theorem ediv_parts (a q : Int) (hq : 0 < q) : a = a / q * q + a % q ∧ 0 ≤ a % q ∧ a % q < q := by
  refine ⟨?_, Int.emod_nonneg _ (by omega), Int.emod_lt_of_pos _ hq⟩
  have := Int.emod_def a q
  have := Int.mul_comm q (a / q)
  omega
theorem down_hi (x p : Int) (hp : 0 < p) (h0 : 0 ≤ x) (h1 : x < 340282366920938463463374607431768211456) : shi (x / (18446744073709551616 * p)) = 0 ∧ shi x / p = wlo (x / (18446744073709551616 * p)) := by
  have e : x / (18446744073709551616 * p) = x / 18446744073709551616 / p := by rw [Int.ediv_ediv_of_nonneg (by omega)]
  rw [e]
  have hb : 0 ≤ x / 18446744073709551616 := by omega
  have hc : x / 18446744073709551616 < 18446744073709551616 := by omega
  have := Int.ediv_le_self p hb
  have := Int.ediv_nonneg hb (Int.le_of_lt hp)
  have hs : shi x = x / 18446744073709551616 := by unfold shi; omega
  rw [hs]; unfold shi wlo; omega
theorem down_lo (x p q : Int) (hp : 0 < p) (hq : 0 < q) (e : p * q = 18446744073709551616) (h0 : 0 ≤ x) (h1 : x < 340282366920938463463374607431768211456) :
    shi x / p = shi (x / p) ∧ wlo x / p + shi x * q % 18446744073709551616 = wlo (x / p) ∧ wlo x / p < q ∧ 0 ≤ wlo x / p ∧ shi x * q % 18446744073709551616 = shi x % p * q := by
  have hL := wlo_lo x
  have hL1 := wlo_up x
  have hH := shi_lo x
  have ex : x = shi x * 18446744073709551616 + wlo x := by unfold shi wlo; omega
  generalize shi x = H at *
  generalize wlo x = L at *
  obtain ⟨e1, a1, a2⟩ := ediv_parts H p hp
  obtain ⟨e2, b1, b2⟩ := ediv_parts L p hp
  have hlq : L / p < q := by
    apply Int.ediv_lt_of_lt_mul hp; rw [Int.mul_comm]; omega
  have hl0 : 0 ≤ L / p := Int.ediv_nonneg hL (by omega)
  generalize H / p = A at *
  generalize H % p = R at *
  generalize L / p = C at *
  generalize L % p = S at *
  have t1 : H * q = A * 18446744073709551616 + R * q := by rw [e1, Int.add_mul, Int.mul_assoc, e]
  have t2 : R * q ≤ 18446744073709551616 - q := by
    have : (R + 1) * q ≤ p * q := Int.mul_le_mul_of_nonneg_right (by omega) (by omega)
    rw [Int.add_mul] at this; omega
  have t3 : 0 ≤ R * q := Int.mul_nonneg a1 (by omega)
  have t4 : H * q % 18446744073709551616 = R * q := by rw [t1]; omega
  have t5 : x / p = H * q + C := by
    refine (div_of (r := S) ?_ b1 b2).1
    rw [ex, Int.add_mul, Int.mul_assoc, Int.mul_comm q p, e]; omega
  rw [t5, t4, t1]
  have A0 : H * 18446744073709551616 + L < 340282366920938463463374607431768211456 := by omega
  have A1 : 0 ≤ A := by
    rcases Int.lt_or_le A 0 with h | h
    · have : A * p ≤ -1 * p := Int.mul_le_mul_of_nonneg_right (by omega) (by omega)
      omega
    · exact h
  have A2 : A < 18446744073709551616 := by
    rcases Int.lt_or_le A 18446744073709551616 with h | h
    · exact h
    · have : 18446744073709551616 * p ≤ A * p := Int.mul_le_mul_of_nonneg_right h (by omega)
      omega
  refine ⟨?_, ?_, hlq, hl0, rfl⟩
  · unfold shi; omega
  · unfold wlo; omega
theorem up_hi (x p : Int) : shi (x * (18446744073709551616 * p)) = wlo x * p % 18446744073709551616 ∧ wlo (x * (18446744073709551616 * p)) = 0 := by
  have e : x * (18446744073709551616 * p) = x * p * 18446744073709551616 := by rw [Int.mul_comm 18446744073709551616 p, Int.mul_assoc]
  have e2 : x * p = x / 18446744073709551616 * p * 18446744073709551616 + wlo x * p := by
    have : x = x / 18446744073709551616 * 18446744073709551616 + wlo x := by unfold wlo; omega
    rw [Int.mul_assoc, Int.mul_comm p, ← Int.mul_assoc, ← Int.add_mul, ← this]
  rw [e]; unfold shi
  generalize x / 18446744073709551616 * p = A at *
  generalize wlo x * p = B at *
  constructor
  · omega
  · unfold wlo; omega
theorem up_lo (x p q : Int) (hp : 0 < p) (hq : 0 < q) (e : p * q = 18446744073709551616) :
    (shi x * p % 18446744073709551616 + wlo x / q) = shi (x * p) ∧ wlo x * p % 18446744073709551616 = wlo (x * p) ∧ wlo x / q < p ∧ 0 ≤ wlo x / q ∧ shi x * p % 18446744073709551616 = shi x % q * p := by
  have hL := wlo_lo x
  have hL1 := wlo_up x
  have ex : ∃ k, x = k * 340282366920938463463374607431768211456 + shi x * 18446744073709551616 + wlo x := ⟨x / 340282366920938463463374607431768211456, by unfold shi wlo; omega⟩
  obtain ⟨k, ex⟩ := ex
  have hH := shi_lo x
  generalize shi x = H at *
  generalize wlo x = L at *
  obtain ⟨e1, a1, a2⟩ := ediv_parts H q hq
  obtain ⟨e2, b1, b2⟩ := ediv_parts L q hq
  have hlq : L / q < p := by apply Int.ediv_lt_of_lt_mul hq; omega
  have hl0 : 0 ≤ L / q := Int.ediv_nonneg hL (by omega)
  generalize H / q = A at *
  generalize H % q = R at *
  generalize L / q = C at *
  generalize L % q = S at *
  have t1 : H * p = A * 18446744073709551616 + R * p := by rw [e1, Int.add_mul, Int.mul_assoc, Int.mul_comm q p, e]
  have t2 : R * p ≤ 18446744073709551616 - p := by
    have : (R + 1) * p ≤ q * p := Int.mul_le_mul_of_nonneg_right (by omega) (by omega)
    rw [Int.add_mul, Int.mul_comm q p] at this; omega
  have t3 : 0 ≤ R * p := Int.mul_nonneg a1 (by omega)
  have t6 : L * p = C * 18446744073709551616 + S * p := by rw [e2, Int.add_mul, Int.mul_assoc, Int.mul_comm q p, e]
  have t7 : 0 ≤ S * p := Int.mul_nonneg b1 (by omega)
  have t8 : S * p < 18446744073709551616 := by
    have : (S + 1) * p ≤ q * p := Int.mul_le_mul_of_nonneg_right (by omega) (by omega)
    rw [Int.add_mul, Int.mul_comm q p] at this; omega
  have t9 : x * p = k * p * 340282366920938463463374607431768211456 + (A * 18446744073709551616 + R * p) * 18446744073709551616 + (C * 18446744073709551616 + S * p) := by
    rw [← t1, ← t6, ex]; simp only [Int.add_mul]
    rw [Int.mul_assoc k, Int.mul_comm 340282366920938463463374607431768211456 p, ← Int.mul_assoc, Int.mul_assoc H, Int.mul_comm 18446744073709551616 p, ← Int.mul_assoc]
  have t4 : H * p % 18446744073709551616 = R * p := by rw [t1]; omega
  refine ⟨?_, ?_, hlq, hl0, t4⟩
  · rw [t4]; unfold shi; rw [t9]; generalize k * p = K; omega
  · unfold wlo; rw [t9, t6]; generalize k * p = K; omega
theorem whi_0 : whi 0 = 0 := by decide
theorem wlo_0 : wlo 0 = 0 := by decide
theorem shi_1 : shi 1 = 0 := by decide
theorem wlo_1 : wlo 1 = 1 := by decide
theorem or_join (a b q : Int) (k : Nat) (hq : q = 2 ^ k) (ha0 : 0 ≤ a) (ha : a < q) (c : Int) (hc : 0 ≤ c) (hb : b = c * q) : ((a.toNat ||| b.toNat : Nat) : Int) = a + b := by
  obtain ⟨a, rfl⟩ := Int.eq_ofNat_of_zero_le ha0
  obtain ⟨c, rfl⟩ := Int.eq_ofNat_of_zero_le hc
  subst hq
  have hb' : b = ((c * 2 ^ k : Nat) : Int) := by rw [hb]; push_cast; rfl
  subst hb'
  have ha' : a < 2 ^ k := by exact_mod_cast ha
  simp only [Int.toNat_natCast]
  rw [Nat.or_comm, Nat.mul_comm, ← Nat.two_pow_add_eq_or_of_lt ha']
  push_cast; omega
attribute [irreducible] whi wlo shi
end Go.Proofs.Ytlhadociaekkhaa
/- Wide -/
namespace Go.Proofs.Ytlhadociaekkhaa
set_option linter.unusedVariables false
open Go.RowKit
abbrev WV (x : Int) : Value := .agg #[.int .i64 (whi x), .int .u64 (wlo x)]
attribute [go_sem] WV
theorem u64w (x : Int) : IntKind.u64.wrap x = x % 18446744073709551616 := by simp [IntKind.wrap, IntKind.bits, IntKind.signed]
theorem u64w_lo (x : Int) : 0 ≤ IntKind.u64.wrap x := by rw [u64w]; omega
theorem u64w_up (x : Int) : IntKind.u64.wrap x ≤ 18446744073709551615 := by rw [u64w]; omega
theorem b3 (B : Nat) (w : World) (a b c : Obj) (h : B ≤ w.heap.size) : Below B w (((w.alloc a).alloc b).alloc c) :=
  (((Below.refl _ _).alloc h a).alloc (by simp; omega) b).alloc (by simp; omega) c

theorem wadd_hi (x y : Int) : wrap64 ((IntKind.u64.wrap (whi x) + IntKind.u64.wrap (whi y) + (wlo x + wlo y) / 18446744073709551616) % 18446744073709551616) = whi (x + y) := by
  rw [u64w, u64w]; unfold wrap64 whi wlo; omega
theorem wadd_lo (x y : Int) : (wlo x + wlo y) % 18446744073709551616 = wlo (x + y) := by unfold wlo; omega
set_option maxHeartbeats 400000 in
theorem wAdd (x y : Int) (w : World) :
    Calls Try.prog 92 #[WV x, WV y] w fun e w' => e = .returned (WV (x + y)) ∧ Below w.heap.size w w' := by
  have ha := call_Add64
  have g1 := wlo_lo x
  have g2 := wlo_lo y
  have g3 := wlo_up x
  have g4 := wlo_up y
  have f1 : 0 ≤ (wlo x + wlo y) / 18446744073709551616 := by omega
  have f2 : (wlo x + wlo y) / 18446744073709551616 ≤ 1 := by omega
  have f3 := u64w_lo (whi x)
  have f4 := u64w_lo (whi y)
  go_enter Try.func92, Try.ntmps92
  go_wp2
  exact bodyPost_ret (v := WV (x + y)) (by simp [results, Try.results92, go_sem]; exact ⟨wadd_hi x y, wadd_lo x y⟩) rfl ⟨rfl, b3 _ _ _ _ _ (Nat.le_refl _)⟩

theorem wof_hi (n : Int) (h1 : -9223372036854775808 ≤ n) (h2 : n ≤ 9223372036854775807) : n / 9223372036854775808 = whi n := by unfold whi; omega
theorem wof_lo (n : Int) : IntKind.u64.wrap n = wlo n := by rw [u64w]; unfold wlo; rfl
set_option maxHeartbeats 400000 in
theorem wOf (n : Int) (w : World) (h1 : -9223372036854775808 ≤ n) (h2 : n ≤ 9223372036854775807) :
    Calls Try.prog 93 #[.int .i64 n] w fun e w' => e = .returned (WV n) ∧ Below w.heap.size w w' := by
  go_enter Try.func93, Try.ntmps93
  go_wp2
  exact bodyPost_ret (v := WV n) (by simp [results, Try.results93, go_sem]; exact ⟨wof_hi n h1 h2, wof_lo n⟩) rfl ⟨rfl, (Below.refl _ _).alloc (Nat.le_refl _) _⟩
theorem wneg_hi (x : Int) : wrap64 ((-IntKind.u64.wrap (whi x) - brw 0 (wlo x) 0) % 18446744073709551616) = whi (-x) := by
  rw [u64w]; unfold wrap64 whi wlo brw; split <;> omega
theorem wneg_lo (x : Int) : -wlo x % 18446744073709551616 = wlo (-x) := by unfold wlo; omega
set_option maxHeartbeats 400000 in
theorem wNeg (x : Int) (w : World) :
    Calls Try.prog 116 #[WV x] w fun e w' => e = .returned (WV (-x)) ∧ Below w.heap.size w w' := by
  have ha := call_Sub64
  have g1 := wlo_lo x
  have g3 := wlo_up x
  have f1 := brw_lo 0 (wlo x) 0
  have f2 := brw_up 0 (wlo x) 0
  have f3 := u64w_lo (whi x)
  have f4 := u64w_up (whi x)
  go_enter Try.func116, Try.ntmps116
  go_wp2
  exact bodyPost_ret (v := WV (-x)) (by simp [results, Try.results116, go_sem]; exact ⟨wneg_hi x, wneg_lo x⟩) rfl ⟨rfl, ((Below.refl _ _).alloc (Nat.le_refl _) _).alloc (by simp) _⟩
end Go.Proofs.Ytlhadociaekkhaa
/- Wide2 -/
namespace Go.Proofs.Ytlhadociaekkhaa
set_option linter.unusedVariables false
open Go.RowKit
abbrev SV (x : Int) : Value := .agg #[.int .u64 (shi x), .int .u64 (wlo x)]
attribute [go_sem] SV
theorem ret_i {k : IntKind} {a b : Int} (h : a = b) : Ending.returned (.int k a) = .returned (.int k b) := by rw [h]
theorem ret_b {a b : Bool} (h : a = b) : Ending.returned (.bool a) = .returned (.bool b) := by rw [h]
theorem bcell {W w1 : World} (hb : Below W.heap.size W w1) : (∀ b o, b < W.heap.size → w1.cell? ⟨b, o, none⟩ = W.cell? ⟨b, o, none⟩) ∧ (∀ b o, b < W.heap.size → w1.frozen? ⟨b, o, none⟩ = W.frozen? ⟨b, o, none⟩) :=
  ⟨fun b o h => hb.cell (p := ⟨b, o, none⟩) h, fun b o h => hb.frozen (p := ⟨b, o, none⟩) h⟩
/-- far, sizes -/
def iabs (n : Int) : Int := if n < 0 then -n else n
theorem far_neg (n : Int) (h1 : -9223372036854775808 ≤ n) (h : n < 0) : IntKind.u64.wrap (-IntKind.u64.wrap n) = iabs n := by rw [u64w, u64w]; unfold iabs; rw [if_pos h]; omega
set_option maxHeartbeats 400000 in
theorem wFar (n : Int) (w : World) (h1 : -9223372036854775808 ≤ n) (h2 : n ≤ 9223372036854775807) :
    Calls Try.prog 119 #[.int .i64 n] w fun e w' => e = .returned (.int .u64 (iabs n)) ∧ w = w' := by
  go_enter Try.func119, Try.ntmps119
  go_wp2
  · go_ret; exact ⟨ret_i (far_neg n h1 ‹_›), rfl⟩
  · go_ret; exact ⟨ret_i (by unfold iabs; rw [if_neg (by omega)]), rfl⟩
set_option maxHeartbeats 400000 in
theorem wSizes (a b : Int) (w : World) (h1 : -9223372036854775808 ≤ a) (h2 : a ≤ 9223372036854775807) (h3 : -9223372036854775808 ≤ b) (h4 : b ≤ 9223372036854775807) :
    Calls Try.prog 110 #[.int .i64 a, .int .i64 b] w fun e w' => e = .returned (.tuple #[.int .u64 (iabs a), .int .u64 (iabs b)]) ∧ w = w' := by
  go_enter Try.func110, Try.ntmps110
  go_wp2_with (go_at_call 119; refine (wFar _ _ (by assumption) (by assumption)).mono ?_; rintro e w' ⟨rfl, rfl⟩)
  go_ret2
  exact ⟨rfl, rfl⟩
/-- signed -/
def sgn (b : Bool) (x : Int) : Int := if b = true then -x else x
theorem sg_hi (x : Int) (h0 : 0 ≤ x) (h1 : x < 340282366920938463463374607431768211456) : wrap64 (shi x) = whi x := by unfold wrap64 shi whi; omega
set_option maxHeartbeats 400000 in
theorem wSigned (x : Int) (b : Bool) (w : World) (h0 : 0 ≤ x) (h1 : x < 340282366920938463463374607431768211456) :
    Calls Try.prog 104 #[SV x, .bool b] w fun e w' => e = .returned (WV (sgn b x)) ∧ Below w.heap.size w w' := by
  have hz := sg_hi x h0 h1
  have Hz := Lib.hid hz; clear hz
  cases b with
  | true =>
    go_enter Try.func104, Try.ntmps104
    go_wp2_with fail
    rw [Hz.out]
    refine (wNeg _ _).mono ?_
    rintro e w' ⟨rfl, hb⟩
    obtain ⟨hc, hf⟩ := bcell hb
    go_wp2
    exact bodyPost_ret (v := WV (-x)) (by simp [results, Try.results104, go_sem, hc]) rfl ⟨rfl, (((b3 _ _ _ _ _ (Nat.le_refl _)).trans (hb.mono (by simp; omega))).setCell (by simp) _).setCell (by simp) _⟩
  | false =>
    go_enter Try.func104, Try.ntmps104
    go_wp2
    exact bodyPost_ret (v := WV x) (by simp [results, Try.results104, go_sem]; exact Hz.out) rfl ⟨rfl, b3 _ _ _ _ _ (Nat.le_refl _)⟩
end Go.Proofs.Ytlhadociaekkhaa
/- Wide3 -/
namespace Go.Proofs.Ytlhadociaekkhaa
set_option linter.unusedVariables false
open Go.RowKit
theorem b2 (w : World) (a b : Obj) : Below w.heap.size w ((w.alloc a).alloc b) := ((Below.refl _ _).alloc (Nat.le_refl _) a).alloc (by simp) b
theorem b2d (w : World) (a b : Obj) (n : Nat) : Below w.heap.size w (((w.alloc a).alloc b).drewN n) := by
  have h := b2 w a b
  exact ⟨h.os, h.tape, h.output, h.size, h.block⟩
-- next
def incr (b : Bool) (x : Int) : Int := if b = true then x + 1 else x
theorem nx_hi (x : Int) (h1 : x < 340282366920938463463374607431768211455) : IntKind.u64.wrap (shi x + (wlo x + 1) / 18446744073709551616) = shi (x + 1) := by
  rw [u64w]; unfold shi wlo; omega
theorem nx_lo (x : Int) : (wlo x + 1) % 18446744073709551616 = wlo (x + 1) := by unfold wlo; omega
set_option maxHeartbeats 400000 in
theorem wNext (x : Int) (b : Bool) (w : World) (h1 : x < 340282366920938463463374607431768211455) :
    Calls Try.prog 105 #[SV x, .bool b] w fun e w' => e = .returned (SV (incr b x)) ∧ Below w.heap.size w w' := by
  have ha := call_Add64
  have g1 := wlo_lo x
  cases b with
  | true =>
    go_enter Try.func105, Try.ntmps105
    go_wp2
    exact bodyPost_ret (v := SV (x + 1)) (by simp [results, Try.results105, go_sem]; exact ⟨nx_hi x h1, nx_lo x⟩) rfl ⟨rfl, b2 _ _ _⟩
  | false =>
    go_enter Try.func105, Try.ntmps105
    go_wp2
    exact bodyPost_ret (v := SV x) (by simp [results, Try.results105, go_sem]) rfl ⟨rfl, b2 _ _ _⟩
-- less
theorem less_iff (x y : Int) (hx0 : 0 ≤ x) (hx : x < 340282366920938463463374607431768211456) (hy0 : 0 ≤ y) (hy : y < 340282366920938463463374607431768211456) :
    x < y ↔ (shi x < shi y ∨ (shi x = shi y ∧ wlo x < wlo y)) := by unfold shi wlo; omega
set_option maxHeartbeats 400000 in
theorem wLess (x y : Int) (w : World) (hx0 : 0 ≤ x) (hx : x < 340282366920938463463374607431768211456) (hy0 : 0 ≤ y) (hy : y < 340282366920938463463374607431768211456) :
    Calls Try.prog 117 #[SV x, SV y] w fun e w' => e = .returned (.bool (decide (x < y))) ∧ Below w.heap.size w w' := by
  have hl := less_iff x y hx0 hx hy0 hy
  have Hl := Lib.hid hl; clear hl hx0 hx hy0 hy
  go_enter Try.func117, Try.ntmps117
  go_wp2
  all_goals (go_ret; refine ⟨ret_b ?_, b2 _ _ _⟩)
  all_goals (have hl := Hl.out; clear Hl; first | (rw [decide_eq_decide, hl]; omega) | (symm; rw [decide_eq_true_iff, hl]; omega))
-- without
theorem wo_hi (x y : Int) : (shi x - shi y - brw (wlo x) (wlo y) 0) % 18446744073709551616 = shi (x - y) := by
  unfold shi wlo brw; split <;> omega
theorem wo_lo (x y : Int) : (wlo x - wlo y) % 18446744073709551616 = wlo (x - y) := by unfold wlo; omega
set_option maxHeartbeats 400000 in
theorem wWithout (x y : Int) (w : World) :
    Calls Try.prog 107 #[SV x, SV y] w fun e w' => e = .returned (SV (x - y)) ∧ Below w.heap.size w w' := by
  have ha := call_Sub64
  have g1 := wlo_lo x
  have g2 := wlo_lo y
  have g3 := wlo_up x
  have g4 := wlo_up y
  have f1 := brw_lo (wlo x) (wlo y) 0
  have f2 := brw_up (wlo x) (wlo y) 0
  have g5 := shi_lo x
  have g6 := shi_lo y
  have g7 := shi_up x
  have g8 := shi_up y
  go_enter Try.func107, Try.ntmps107
  go_wp2
  exact bodyPost_ret (v := SV (x - y)) (by simp [results, Try.results107, go_sem]; exact ⟨wo_hi x y, wo_lo x y⟩) rfl ⟨rfl, b3 _ _ _ _ _ (Nat.le_refl _)⟩
-- down
theorem down_or (x n : Int) (hx0 : 0 ≤ x) (hx : x < 340282366920938463463374607431768211456) (h0 : 0 ≤ n) (hn : n < 64) :
    bits .or .u64 (wlo x / 2 ^ n.toNat) (IntKind.u64.wrap (shi x * 2 ^ (64 - n).toNat)) = wlo (x / 2 ^ n.toNat) := by
  obtain ⟨-, h1, h2, h3, h4⟩ := down_lo x (2 ^ n.toNat) (2 ^ (64 - n).toNat) (pw_pos _) (pw_pos _) (pw64 n h0 (by omega)) hx0 hx
  have a1 : wlo x / 2 ^ n.toNat ≤ wlo x := Int.ediv_le_self _ (wlo_lo x)
  have a2 := wlo_up x
  have a3 : 0 ≤ shi x % 2 ^ n.toNat := Int.emod_nonneg _ (by have := pw_pos n.toNat; omega)
  rw [u64w, u64_or _ _ h3 (by omega) (by omega) (by omega), or_join _ _ (2 ^ (64 - n).toNat) _ rfl h3 h2 _ a3 h4, h1]
set_option maxHeartbeats 400000 in
set_option maxRecDepth 100000 in
theorem wDown (x n : Int) (w : World) (hx0 : 0 ≤ x) (hx : x < 340282366920938463463374607431768211456) (h0 : 0 ≤ n) (h1 : n ≤ 127) :
    Calls Try.prog 103 #[SV x, .int .i64 n] w fun e w' => e = .returned (SV (x / 2 ^ n.toNat)) ∧ Below w.heap.size w w' := by
  have g1 := wlo_lo x
  have g3 := wlo_up x
  have g5 := shi_lo x
  have g7 := shi_up x
  by_cases hn : 64 ≤ n
  · have hd := down_hi x (2 ^ (n - 64).toNat) (pw_pos _) hx0 hx
    rw [← pw_hi n hn] at hd
    have Hd := Lib.hid hd; clear hd
    go_enter Try.func103, Try.ntmps103
    go_wp2
    exact bodyPost_ret (v := SV (x / 2 ^ n.toNat)) (by simp [results, Try.results103, go_sem]; exact ⟨Hd.out.1.symm, Hd.out.2⟩) rfl ⟨rfl, b2 _ _ _⟩
  · have hn' : n < 64 := by omega
    have h64 : n ≤ 64 := by omega
    have h64a : 0 ≤ 64 - n := by omega
    have e64 : IntKind.i64.wrap (64 - n) = 64 - n := IntWalk.i64_in _ (by omega)
    have hd := down_lo x (2 ^ n.toNat) (2 ^ (64 - n).toNat) (pw_pos _) (pw_pos _) (pw64 n h0 (by omega)) hx0 hx
    have Hd := Lib.hid hd; clear hd
    go_enter Try.func103, Try.ntmps103
    go_wp2
    obtain ⟨W, hW⟩ : ∃ W, W = (w.alloc (Obj.cells #[Value.int IntKind.u64 (shi x), Value.int IntKind.u64 (wlo x)] 107)).alloc (Obj.cells #[Value.int IntKind.u64 0, Value.int IntKind.u64 0] 107) := ⟨_, rfl⟩
    rw [← hW]
    have k1 : W.cell? ⟨w.heap.size, 0, none⟩ = some (.int .u64 (shi x)) := by rw [hW]; simp [go_sem]
    have k2 : W.cell? ⟨w.heap.size, 1, none⟩ = some (.int .u64 (wlo x)) := by rw [hW]; simp [go_sem]
    have HW := Lib.hid hW; clear hW
    go_still_tail 15, (by kernel_rfl)
    change wpList _ _ _ _ _ W.drew
    obtain rfl := HW.out
    clear k1 k2 HW
    go_wp2
    exact bodyPost_ret (v := SV (x / 2 ^ n.toNat)) (by simp [results, Try.results103, go_sem]; exact ⟨Hd.out.1, down_or x n hx0 hx h0 hn'⟩) rfl ⟨rfl, b2d _ _ _ 1⟩
-- up
theorem up_or (x n : Int) (h0 : 0 ≤ n) (hn : n < 64) :
    bits .or .u64 (IntKind.u64.wrap (shi x * 2 ^ n.toNat)) (wlo x / 2 ^ (64 - n).toNat) = shi (x * 2 ^ n.toNat) := by
  obtain ⟨h1, -, h2, h3, h4⟩ := up_lo x (2 ^ n.toNat) (2 ^ (64 - n).toNat) (pw_pos _) (pw_pos _) (pw64 n h0 (by omega))
  have a1 : wlo x / 2 ^ (64 - n).toNat ≤ wlo x := Int.ediv_le_self _ (wlo_lo x)
  have a2 := wlo_up x
  have a3 : 0 ≤ shi x % 2 ^ (64 - n).toNat := Int.emod_nonneg _ (by have := pw_pos (64 - n).toNat; omega)
  rw [u64w, u64_or _ _ (by omega) (by omega) h3 (by omega), Nat.or_comm, or_join _ _ (2 ^ n.toNat) _ rfl h3 h2 _ a3 h4, ← h1]; omega
set_option maxHeartbeats 400000 in
set_option maxRecDepth 100000 in
theorem wUp (x n : Int) (w : World) (h0 : 0 ≤ n) (h1 : n ≤ 127) :
    Calls Try.prog 108 #[SV x, .int .i64 n] w fun e w' => e = .returned (SV (x * 2 ^ n.toNat)) ∧ Below w.heap.size w w' := by
  have g1 := wlo_lo x
  have g3 := wlo_up x
  have g5 := shi_lo x
  have g7 := shi_up x
  by_cases hn : 64 ≤ n
  · have hd := up_hi x (2 ^ (n - 64).toNat)
    rw [← pw_hi n hn] at hd
    have Hd := Lib.hid hd; clear hd
    go_enter Try.func108, Try.ntmps108
    go_wp2
    exact bodyPost_ret (v := SV (x * 2 ^ n.toNat)) (by simp [results, Try.results108, go_sem]; exact ⟨(by rw [u64w]; exact Hd.out.1.symm), Hd.out.2.symm⟩) rfl ⟨rfl, b2 _ _ _⟩
  · have hn' : n < 64 := by omega
    have h64 : n ≤ 64 := by omega
    have h64a : 0 ≤ 64 - n := by omega
    have e64 : IntKind.i64.wrap (64 - n) = 64 - n := IntWalk.i64_in _ (by omega)
    have hd := up_lo x (2 ^ n.toNat) (2 ^ (64 - n).toNat) (pw_pos _) (pw_pos _) (pw64 n h0 (by omega))
    have Hd := Lib.hid hd; clear hd
    go_enter Try.func108, Try.ntmps108
    go_wp2
    obtain ⟨W, hW⟩ : ∃ W, W = (w.alloc (Obj.cells #[Value.int IntKind.u64 (shi x), Value.int IntKind.u64 (wlo x)] 107)).alloc (Obj.cells #[Value.int IntKind.u64 0, Value.int IntKind.u64 0] 107) := ⟨_, rfl⟩
    rw [← hW]
    have k1 : W.cell? ⟨w.heap.size, 0, none⟩ = some (.int .u64 (shi x)) := by rw [hW]; simp [go_sem]
    have k2 : W.cell? ⟨w.heap.size, 1, none⟩ = some (.int .u64 (wlo x)) := by rw [hW]; simp [go_sem]
    have HW := Lib.hid hW; clear hW
    go_still_tail 15, (by kernel_rfl)
    change wpList _ _ _ _ _ W.drew
    obtain rfl := HW.out
    clear k1 k2 HW
    go_wp2
    exact bodyPost_ret (v := SV (x * 2 ^ n.toNat)) (by simp [results, Try.results108, go_sem]; exact ⟨up_or x n h0 hn', (by rw [u64w]; exact Hd.out.2.1)⟩) rfl ⟨rfl, b2d _ _ _ 1⟩
-- Cmp
def cmpI (x y : Int) : Int := if x < y then -1 else if y < x then 1 else 0
theorem cmp_iff (x y : Int) (hx0 : -170141183460469231731687303715884105728 ≤ x) (hx : x < 170141183460469231731687303715884105728) (hy0 : -170141183460469231731687303715884105728 ≤ y) (hy : y < 170141183460469231731687303715884105728) :
    (x < y ↔ (whi x < whi y ∨ (whi x = whi y ∧ wlo x < wlo y))) ∧ (y < x ↔ (whi y < whi x ∨ (whi y = whi x ∧ wlo y < wlo x))) := by unfold whi wlo; omega
set_option maxHeartbeats 400000 in
theorem wCmp (x y : Int) (w : World) (hx0 : -170141183460469231731687303715884105728 ≤ x) (hx : x < 170141183460469231731687303715884105728) (hy0 : -170141183460469231731687303715884105728 ≤ y) (hy : y < 170141183460469231731687303715884105728) :
    Calls Try.prog 100 #[WV x, WV y] w fun e w' => e = .returned (.int .i64 (cmpI x y)) ∧ Below w.heap.size w w' := by
  have hl := cmp_iff x y hx0 hx hy0 hy
  have Hl := Lib.hid hl; clear hl hx0 hx hy0 hy
  go_enter Try.func100, Try.ntmps100
  go_wp2
  all_goals (go_ret; refine ⟨ret_i ?_, b2 _ _ _⟩; have hl := Hl.out; clear Hl; unfold cmpI; simp only [hl.1, hl.2]; repeat (first | omega | split))
end Go.Proofs.Ytlhadociaekkhaa
/- Wide4 -/
namespace Go.Proofs.Ytlhadociaekkhaa
set_option linter.unusedVariables false
open Go.RowKit
theorem ret_ii {k l : IntKind} {a b c d : Int} (h : a = c) (g : b = d) : Ending.returned (.tuple #[.int k a, .int l b]) = .returned (.tuple #[.int k c, .int l d]) := by rw [h, g]
-- math/bits.Mul64
set_option maxHeartbeats 400000 in
theorem bMul (x y : Int) (w : World) (hx0 : 0 ≤ x) (hx : x ≤ 18446744073709551615) (hy0 : 0 ≤ y) (hy : y ≤ 18446744073709551615) :
    Calls Try.prog 109 #[.int .u64 x, .int .u64 y] w fun e w' => e = .returned (.tuple #[.int .u64 (shi (x * y)), .int .u64 (wlo (x * y))]) ∧ w = w' := by
  go_enter Try.func109, Try.ntmps109
  go_wp2
  go_ret2
  refine ⟨ret_ii ?_ (by rw [u64w]; unfold wlo; rfl), rfl⟩
  have e1 := and_low32 x hx0 (by omega)
  have e2 := and_low32 y hy0 (by omega)
  have e3 := fun z : Int => and_low32 (z % 18446744073709551616) (by omega) (by omega)
  simp only [u64w, e1, e2, e3]
  rw [mul64_arith x y hx0 (by omega) hy0 (by omega)]
  have h : x * y ≤ 18446744073709551615 * 18446744073709551615 := Int.mul_le_mul hx hy hy0 (by omega)
  have h0 := Int.mul_nonneg hx0 hy0
  unfold shi; omega
-- nearer
theorem odd_lo (q : Int) : (bits .and .u64 (wlo q) 1 == 1) = decide (q % 2 = 1) := by
  have h : bits .and .u64 (wlo q) 1 = q % 2 := by
    have := wlo_lo q
    have := wlo_up q
    rw [and_one_u64 (wlo q) (by omega) (by omega)]; unfold wlo; omega
  rw [h]; rfl
def near (q r d : Int) : Bool := decide (d - r < r ∨ d - r = r ∧ q % 2 = 1)
theorem near_eq (r d : Int) (hr0 : 0 ≤ r) (hr : r < d) (hd : d ≤ 170141183460469231731687303715884105728) : d - r = r ↔ (shi (d - r) = shi r ∧ wlo (d - r) = wlo r) := by
  unfold shi wlo; omega
set_option maxHeartbeats 400000 in
theorem wNearer (q r d : Int) (w : World) (hr0 : 0 ≤ r) (hr : r < d) (hd : d ≤ 170141183460469231731687303715884105728) :
    Calls Try.prog 106 #[SV q, SV r, SV d] w fun e w' => e = .returned (.bool (near q r d)) ∧ Below w.heap.size w w' := by
  have HE : Hid _ := Lib.hid (near_eq r d hr0 hr hd)
  go_enter Try.func106, Try.ntmps106
  go_wp2_with fail
  refine (wWithout d r _).mono ?_
  rintro e w1 ⟨rfl, hb1⟩
  obtain ⟨hc, hf⟩ := bcell hb1
  have k1 : w1.cell? ⟨w.heap.size, 1, none⟩ = some (.int .u64 (wlo q)) := by rw [hc _ _ (by simp; omega)]; simp [go_sem]
  have k2 : w1.cell? ⟨w.heap.size + 1, 0, none⟩ = some (.int .u64 (shi r)) := by rw [hc _ _ (by simp)]; simp [go_sem]
  have k3 : w1.cell? ⟨w.heap.size + 1, 1, none⟩ = some (.int .u64 (wlo r)) := by rw [hc _ _ (by simp)]; simp [go_sem]
  have hb := (b3 _ _ _ _ _ (Nat.le_refl _)).trans (hb1.mono (by simp; omega))
  have hs := hb1.size
  simp at hs
  have z1 : w.heap.size < w1.heap.size := by omega
  have z2 : w.heap.size + 1 < w1.heap.size := by omega
  clear hc hf hb1
  go_wp2_with fail
  refine (wLess (d - r) r _ ?_ ?_ hr0 ?_).mono ?_
  any_goals omega
  rintro e w2 ⟨rfl, hb2⟩
  obtain ⟨hc, hf⟩ := bcell hb2
  have j1 : w2.cell? ⟨w.heap.size, 1, none⟩ = some (.int .u64 (wlo q)) := by rw [hc _ _ (by simp; omega)]; simp [go_sem, k1, z1]
  have j2 : w2.cell? ⟨w.heap.size + 1, 0, none⟩ = some (.int .u64 (shi r)) := by rw [hc _ _ (by simp; omega)]; simp [go_sem, k2, z2]
  have j3 : w2.cell? ⟨w.heap.size + 1, 1, none⟩ = some (.int .u64 (wlo r)) := by rw [hc _ _ (by simp; omega)]; simp [go_sem, k3, z2]
  have j4 : w2.cell? ⟨w1.heap.size, 0, none⟩ = some (.int .u64 (shi (d - r))) := by rw [hc _ _ (by simp)]; simp [go_sem]
  have j5 : w2.cell? ⟨w1.heap.size, 1, none⟩ = some (.int .u64 (wlo (d - r))) := by rw [hc _ _ (by simp)]; simp [go_sem]
  have hb3 := (hb.alloc (by omega) _).trans (hb2.mono (by simp; omega))
  clear hc hf hb2
  go_wp2_with fail
  all_goals (go_ret; refine ⟨ret_b ?_, hb3⟩; have E := HE.out; unfold near; first | rfl | (symm; rw [decide_eq_true_iff]; omega) | (rw [odd_lo, ← Bool.decide_or, decide_eq_decide]; omega) | (rw [decide_eq_decide]; omega))
-- of
theorem of_neg (x : Int) (hx0 : -170141183460469231731687303715884105728 ≤ x) (hx : x < 170141183460469231731687303715884105728) : (whi x < 0 ↔ x < 0) := by unfold whi; omega
theorem of_hi2 (x : Int) (h : -170141183460469231731687303715884105728 ≤ x) (h2 : x < 0) : IntKind.u64.wrap (whi (-x)) = shi (-x) := by rw [u64w]; unfold whi shi; omega
theorem of_hi (x : Int) (h : 0 ≤ x) : IntKind.u64.wrap (whi x) = shi x := by rw [u64w]; unfold whi shi; omega
set_option maxHeartbeats 400000 in
theorem wof (x : Int) (w : World) (hx0 : -170141183460469231731687303715884105728 ≤ x) (hx : x < 170141183460469231731687303715884105728) :
    Calls Try.prog 102 #[WV x] w fun e w' => e = .returned (.tuple #[SV (iabs x), .bool (decide (x < 0))]) ∧ Below w.heap.size w w' := by
  have hx0' := Lib.hid hx0
  have ho := of_neg x hx0 hx
  by_cases h : x < 0
  · have h2 : whi x < 0 := ho.2 h
    have H := Lib.hid h; clear h ho hx0 hx
    go_enter Try.func102, Try.ntmps102
    go_wp2_with fail
    refine (wNeg _ _).mono ?_
    rintro e w' ⟨rfl, hb⟩
    obtain ⟨hc, hf⟩ := bcell hb
    have k1 : w'.cell? ⟨w.heap.size, 0, none⟩ = some (.int .i64 (whi x)) := by rw [hc _ _ (by simp; omega)]; simp [go_sem]
    have k2 : w'.cell? ⟨w.heap.size, 1, none⟩ = some (.int .u64 (wlo x)) := by rw [hc _ _ (by simp; omega)]; simp [go_sem]
    have k3 : w'.cell? ⟨w.heap.size + 1, 0, none⟩ = some (.int .u64 0) := by rw [hc _ _ (by simp)]; simp [go_sem]
    have k4 : w'.cell? ⟨w.heap.size + 1, 1, none⟩ = some (.int .u64 0) := by rw [hc _ _ (by simp)]; simp [go_sem]
    go_wp2
    exact bodyPost_ret (v := .tuple #[SV (iabs x), .bool (decide (x < 0))]) (by have h := H.out; rw [show iabs x = -x from if_pos h, show decide (x < 0) = true from decide_eq_true h]; simp [results, Try.results102, go_sem, k3, k4, of_hi2 x hx0'.out h]) rfl ⟨rfl, ((((((b2 _ _ _).trans (hb.mono (by simp; omega))).setCell (by simp) _).setCell (by simp) _).setCell (by simp) _).setCell (by simp) _)⟩
  · have h2 : ¬ whi x < 0 := fun k => h (ho.1 k)
    have H := Lib.hid h; clear h ho hx0 hx
    go_enter Try.func102, Try.ntmps102
    go_wp2
    exact bodyPost_ret (v := .tuple #[SV (iabs x), .bool (decide (x < 0))]) (by have h := H.out; rw [show iabs x = x from if_neg (by omega), show decide (x < 0) = false from decide_eq_false (by omega)]; simp [results, Try.results102, go_sem, of_hi x (by omega)]) rfl ⟨rfl, b2 _ _ _⟩
-- Mul
theorem mul_sign (a b : Int) : sgn (!decide (a < 0) == decide (b < 0)) (iabs a * iabs b) = a * b := by
  unfold iabs sgn
  by_cases ha : a < 0 <;> by_cases hb : b < 0 <;> simp [ha, hb, Int.neg_mul, Int.mul_neg]
set_option maxHeartbeats 400000 in
theorem wMul (a b : Int) (w : World) (h1 : -9223372036854775808 ≤ a) (h2 : a ≤ 9223372036854775807) (h3 : -9223372036854775808 ≤ b) (h4 : b ≤ 9223372036854775807) :
    Calls Try.prog 95 #[.int .i64 a, .int .i64 b] w fun e w' => e = .returned (WV (a * b)) ∧ Below w.heap.size w w' := by
  go_enter Try.func95, Try.ntmps95
  go_wp2_with (go_at_call 110; refine (wSizes _ _ _ h1 h2 h3 h4).mono ?_; rintro e w' ⟨rfl, rfl⟩)
  refine (bMul _ _ _ ?_ ?_ ?_ ?_).mono ?_
  any_goals (unfold iabs; omega)
  rintro e w' ⟨rfl, rfl⟩
  go_wp2_with fail
  refine (wSigned _ _ _ ?_ ?_).mono ?_
  · exact Int.mul_nonneg (by unfold iabs; omega) (by unfold iabs; omega)
  · have : iabs a * iabs b ≤ 9223372036854775808 * 9223372036854775808 := Int.mul_le_mul (by unfold iabs; omega) (by unfold iabs; omega) (by unfold iabs; omega) (by omega)
    omega
  rintro e w1 ⟨rfl, hb1⟩
  obtain ⟨hc, hf⟩ := bcell hb1
  have k1 : w1.cell? ⟨w.heap.size, 0, none⟩ = some (.int .i64 0) := by rw [hc _ _ (by simp)]; simp [go_sem]
  have k2 : w1.cell? ⟨w.heap.size, 1, none⟩ = some (.int .u64 0) := by rw [hc _ _ (by simp)]; simp [go_sem]
  rw [mul_sign a b]
  go_wp2
  exact bodyPost_ret (v := WV (a * b)) (by simp [results, Try.results95, go_sem, k1, k2]) rfl ⟨rfl, (((((Below.refl _ _).alloc (Nat.le_refl _) _)).trans (hb1.mono (by simp))).setCell (by simp) _).setCell (by simp) _⟩
end Go.Proofs.Ytlhadociaekkhaa
/- Wide5 -/
namespace Go.Proofs.Ytlhadociaekkhaa
set_option linter.unusedVariables false
open Go.RowKit
/-- A cell that may be written. -/
structure Slot (b o : Nat) (w : World) : Prop where
  val : ∃ v, w.cell? ⟨b, o, none⟩ = some v
  fro : w.frozen? ⟨b, o, none⟩ = false
theorem cell_keep {b o : Nat} {v : Value} {w w' : World} (h : w.cell? ⟨b, o, none⟩ = some v) (hb : Below w.heap.size w w') : w'.cell? ⟨b, o, none⟩ = some v :=
  ((bcell hb).1 b o (World.block_lt_of_cell? w _ h)).trans h
theorem Slot.lt {b o : Nat} {w : World} (h : Slot b o w) : b < w.heap.size := World.block_lt_of_cell? w _ h.val.choose_spec
theorem nblk_set (w : World) (a : Addr) (v : Value) : (w.setCell a v).heap.size = w.heap.size := by simp [World.setCell]
theorem Slot.keep {b o : Nat} {w w' : World} (h : Slot b o w) (hb : Below w.heap.size w w') : Slot b o w' :=
  ⟨⟨h.val.choose, cell_keep h.val.choose_spec hb⟩, ((bcell hb).2 b o h.lt).trans h.fro⟩
theorem Slot.set {b o : Nat} {w : World} (h : Slot b o w) (p : Addr) (v : Value) : Slot b o (w.setCell p v) :=
  ⟨cell?_setCell_some h.val.choose_spec, by rw [World.frozen?_setCell]; exact h.fro⟩
theorem Below.one (w : World) (o : Obj) : Below w.heap.size w (w.alloc o) := (Below.refl _ _).alloc (Nat.le_refl _) o
theorem Below.draw (w : World) : Below w.heap.size w w.drew := (Below.refl _ _).drew
theorem Below.next {B : Nat} {w a b : World} (h : Below B w a) (k : Below a.heap.size a b) (hB : B ≤ a.heap.size) : Below B w b := h.trans (k.mono hB)
theorem nx_bd (q : Int) (b : Bool) (h : 0 ≤ q ∧ q ≤ 170141183460469231731687303715884105728) : 0 ≤ incr b q ∧ incr b q < 340282366920938463463374607431768211456 := by
  unfold incr; split <;> omega
theorem rest_bd (s n : Int) (h0 : 0 ≤ s) (h1 : s ≤ 170141183460469231731687303715884105728) (hn0 : 0 ≤ n) (hn : n ≤ 127) :
    0 ≤ s - s / 2 ^ n.toNat * 2 ^ n.toNat ∧ s - s / 2 ^ n.toNat * 2 ^ n.toNat < 2 ^ n.toNat ∧ (2 : Int) ^ n.toNat ≤ 170141183460469231731687303715884105728 ∧ s / 2 ^ n.toNat < 340282366920938463463374607431768211455
      ∧ 0 ≤ s / 2 ^ n.toNat ∧ s / 2 ^ n.toNat ≤ 170141183460469231731687303715884105728 := by
  have hp := pw_pos n.toNat
  have hle : (2 : Int) ^ n.toNat ≤ 2 ^ 127 := by
    have := pw n.toNat (127 - n.toNat)
    rw [show n.toNat + (127 - n.toNat) = 127 from by omega] at this
    have h2 := pw_pos (127 - n.toNat)
    have : (2 : Int) ^ n.toNat * 1 ≤ 2 ^ n.toNat * 2 ^ (127 - n.toNat) := Int.mul_le_mul_of_nonneg_left (by omega) (by omega)
    omega
  have e : (2 : Int) ^ 127 = 170141183460469231731687303715884105728 := by decide
  obtain ⟨p1, p2, p3⟩ := ediv_parts s (2 ^ n.toNat) hp
  have p4 := Int.ediv_le_self (2 ^ n.toNat) h0
  have p5 := Int.ediv_nonneg h0 (Int.le_of_lt hp)
  omega
theorem wUp1 (n : Int) (w : World) (h0 : 0 ≤ n) (h1 : n ≤ 127) :
    Calls Try.prog 108 #[.agg #[.int .u64 0, .int .u64 1], .int .i64 n] w fun e w' => e = .returned (SV (2 ^ n.toNat)) ∧ Below w.heap.size w w' := by
  have h := wUp 1 n w h0 h1
  simp only [SV, shi_1, wlo_1, Int.one_mul] at h
  exact h
/-- The whole number nearest to s / d, in the middle the even one. -/
def rh (s d : Int) : Int := incr (near (s / d) (s % d) d) (s / d)
def rnd (x d : Int) : Int := sgn (decide (x < 0)) (rh (iabs x) d)
theorem rnd_eq (x d : Int) : sgn (decide (x < 0)) (incr (near (iabs x / d) (iabs x - iabs x / d * d) d) (iabs x / d)) = rnd x d := by
  have := Int.emod_def (iabs x) d
  unfold rnd rh
  rw [this, Int.mul_comm d]
set_option maxHeartbeats 400000 in
theorem wRound (x n : Int) (w : World) (hx0 : -170141183460469231731687303715884105728 ≤ x) (hx : x < 170141183460469231731687303715884105728) (h0 : 0 ≤ n) (h1 : n ≤ 127) :
    Calls Try.prog 94 #[WV x, .int .i64 n] w fun e w' => e = .returned (.tuple #[WV (rnd x (2 ^ n.toNat)), .int .i64 0]) ∧ Below w.heap.size w w' := by
  go_enter Try.func94, Try.ntmps94
  go_wp2_with fail
  refine (wof x _ hx0 hx).mono ?_
  rintro e w1 ⟨rfl, hb1⟩
  have B1 := (b2 _ _ _).trans (hb1.mono (by simp; omega))
  have hs1 : w.heap.size + 1 < w1.heap.size := Nat.lt_of_lt_of_le (by simp) hb1.size
  have z1 : 0 ≤ iabs x := by unfold iabs; omega
  have z2 : iabs x ≤ 170141183460469231731687303715884105728 := by unfold iabs; omega
  go_wp2_with fail
  refine (wDown (iabs x) n _ z1 (by omega) h0 h1).mono ?_
  rintro e w2 ⟨rfl, hb2⟩
  have hc2 := (bcell hb2).1
  have k1 : w2.cell? ⟨w1.heap.size, 0, none⟩ = some (.int .u64 (shi (iabs x))) := (hc2 _ _ (by simp)).trans (by simp [go_sem])
  have k2 : w2.cell? ⟨w1.heap.size, 1, none⟩ = some (.int .u64 (wlo (iabs x))) := (hc2 _ _ (by simp)).trans (by simp [go_sem])
  have B2 := (B1.alloc (by omega) _).trans (hb2.mono (by simp; omega))
  have hs2 : w1.heap.size < w2.heap.size := Nat.lt_of_lt_of_le (by simp) hb2.size
  clear hc2
  go_wp2_with fail
  have HR : Hid _ := Lib.hid (rest_bd (iabs x) n z1 z2 h0 h1)
  have t1 : Slot (w.heap.size + 1) 0 w1 := Slot.keep ⟨⟨.int .i64 0, by simp [go_sem]⟩, by simp [go_sem]⟩ hb1
  have t2 : Slot (w.heap.size + 1) 1 w1 := Slot.keep ⟨⟨.int .u64 0, by simp [go_sem]⟩, by simp [go_sem]⟩ hb1
  have t3 := (t1.keep (Below.one _ _)).keep hb2
  have t4 := (t2.keep (Below.one _ _)).keep hb2
  go_region_held3 (fun w' => Below w.heap.size w w' ∧ w2.heap.size < w'.heap.size ∧ w'.cell? ⟨w1.heap.size, 0, none⟩ = some (.int .u64 (shi (iabs x))) ∧ w'.cell? ⟨w1.heap.size, 1, none⟩ = some (.int .u64 (wlo (iabs x)))
      ∧ w'.cell? ⟨w2.heap.size, 0, none⟩ = some (.int .u64 (shi (iabs x / 2 ^ n.toNat))) ∧ w'.cell? ⟨w2.heap.size, 1, none⟩ = some (.int .u64 (wlo (iabs x / 2 ^ n.toNat))) ∧ Slot (w.heap.size + 1) 0 w' ∧ Slot (w.heap.size + 1) 1 w')
    (first | exact ⟨(B2.alloc (by omega) _).drew, by simp, cell_keep (cell_keep k1 (Below.one _ _)) (Below.draw _), cell_keep (cell_keep k2 (Below.one _ _)) (Below.draw _), by simp [go_sem], by simp [go_sem], (t3.keep (Below.one _ _)).keep (Below.draw _), (t4.keep (Below.one _ _)).keep (Below.draw _)⟩ | (go_split_ands; refine ⟨?_, ?_, ?_, ?_, ?_, ?_, ?_, ?_⟩ <;> (first | exact Below.next (by assumption) hbz (by omega) | exact cell_keep (by assumption) hbz | exact Slot.keep (by assumption) hbz | exact Nat.lt_of_lt_of_le (by assumption) hbz.size)) | (go_split_ands; refine ⟨?_, ?_, ?_, ?_, ?_, ?_, ?_, ?_⟩ <;> (repeat (first | assumption | refine Below.setCell ?_ (by simp) _ | rw [World.cell?_setCell_far _ _ _ _ (by simp; omega)] | refine Slot.set ?_ _ _ | (rw [nblk_set])))))
    (first | (go_at_call 108; (first | (with_reducible refine (wUp _ _ _ h0 h1).mono ?_) | (with_reducible refine (wUp1 _ _ h0 h1).mono ?_)); rintro e w3 ⟨rfl, hbz⟩) | (go_at_call 107; refine (wWithout _ _ _).mono ?_; rintro e w3 ⟨rfl, hbz⟩) | (go_at_call 106; refine (wNearer _ _ _ _ HR.out.1 HR.out.2.1 HR.out.2.2.1).mono ?_; rintro e w3 ⟨rfl, hbz⟩) | (go_at_call 105; refine (wNext _ _ _ HR.out.2.2.2.1).mono ?_; rintro e w3 ⟨rfl, hbz⟩) | (go_at_call 104; refine (wSigned _ _ _ (nx_bd _ _ HR.out.2.2.2.2).1 (nx_bd _ _ HR.out.2.2.2.2).2).mono ?_; rintro e w3 ⟨rfl, hbz⟩; have hS := (by assumption : Below w.heap.size w _ ∧ _); obtain ⟨va, ea⟩ := (hS.2.2.2.2.2.2.1.keep hbz).val; obtain ⟨vb, eb⟩ := (hS.2.2.2.2.2.2.2.keep hbz).val; have fa := (hS.2.2.2.2.2.2.1.keep hbz).fro; have fb := (hS.2.2.2.2.2.2.2.keep hbz).fro; clear hS))
  have BS := (by assumption : Below w.heap.size w _ ∧ _).1
  rw [rnd_eq] at *
  go_wp2
  exact bodyPost_ret (v := .tuple #[WV (rnd x (2 ^ n.toNat)), .int .i64 0]) (by simp [results, Try.results94, go_sem, ea, eb]) rfl ⟨rfl, BS⟩
set_option maxHeartbeats 400000 in
theorem wRound_bad (x n : Int) (w : World) (h0 : n < 0 ∨ 127 < n) :
    Calls Try.prog 94 #[WV x, .int .i64 n] w fun e w' => e = .returned (.tuple #[WV 0, .int .i64 2]) ∧ Below w.heap.size w w' := by
  go_enter Try.func94, Try.ntmps94
  go_wp2_with fail
  all_goals exact bodyPost_ret (v := .tuple #[WV 0, .int .i64 2]) (by simp [results, Try.results94, go_sem, whi_0, wlo_0]) rfl ⟨rfl, b2 _ _ _⟩
end Go.Proofs.Ytlhadociaekkhaa
/- Len -/
namespace Go.Proofs.Ytlhadociaekkhaa
set_option linter.unusedVariables false
-- math/bits.Len64 (its closing arms: after the worked proof of the shelf)
end Go.Proofs.Ytlhadociaekkhaa
/- Div0 -/
namespace Go.Proofs.Ytlhadociaekkhaa
set_option linter.unusedVariables false
open Go.RowKit
def lz (x : Int) : Int := 64 - (Lib.bitLen x.toNat : Int)
end Go.Proofs.Ytlhadociaekkhaa
/- Plain arithmetic: a division of two digits by one, digit by digit. -/
namespace Go.Proofs.Ytlhadociaekkhaa
set_option linter.unusedVariables false
theorem le_quo {a Y k : Int} (hY : 0 < Y) : k ≤ a / Y ↔ k * Y ≤ a := Int.le_ediv_iff_mul_le hY
theorem quo_lt {a Y k : Int} (hY : 0 < Y) : a / Y < k ↔ a < k * Y := Int.ediv_lt_iff_lt_mul hY
/-- q is not above the quotient just if 'q·y0 ≤ 2^32·r + v'. -/
theorem dg_le {u v Y y1 y0 q r : Int} (hY : 0 < Y) (eY : Y = y1 * 4294967296 + y0) (eu : u = q * y1 + r) : q ≤ (u * 4294967296 + v) / Y ↔ q * y0 ≤ 4294967296 * r + v := by
  rw [le_quo hY, eY, eu, Int.mul_add, Int.add_mul, ← Int.mul_assoc]
  generalize q * y1 = A
  generalize q * y0 = B
  omega
theorem dg_lt_b {u v Y : Int} (hY : 0 < Y) (hu : u < Y) (hv : v < 4294967296) : (u * 4294967296 + v) / Y < 4294967296 := by
  rw [quo_lt hY]; omega
theorem dg_init {u v Y y1 y0 : Int} (hY : 0 < Y) (eY : Y = y1 * 4294967296 + y0) (h1 : 2147483648 ≤ y1) (h0 : 0 ≤ y0) (h0' : y0 < 4294967296) (hu0 : 0 ≤ u) (hu : u < Y) (hv : v < 4294967296) :
    u = u / y1 * y1 + u % y1 ∧ 0 ≤ u % y1 ∧ u % y1 < y1 ∧ (u * 4294967296 + v) / Y ≤ u / y1 ∧ u / y1 ≤ 4294967297 ∧ 0 ≤ u / y1 := by
  obtain ⟨e, r0, r1⟩ := ediv_parts u y1 (by omega)
  refine ⟨e, r0, r1, ?_, ?_, Int.ediv_nonneg hu0 (by omega)⟩
  · have : (u * 4294967296 + v) / Y < u / y1 + 1 := by
      rw [quo_lt hY, eY]
      generalize u / y1 = q at *
      generalize u % y1 = r at *
      have q0 : 0 ≤ q + 1 := by
        rcases Int.lt_or_le q (-1) with h | h
        · have : q * y1 ≤ -1 * y1 := Int.mul_le_mul_of_nonneg_right (by omega) (by omega)
          omega
        · omega
      have a1 : 0 ≤ (q + 1) * y0 := Int.mul_nonneg q0 h0
      have a2 : (q + 1) * (y1 * 4294967296 + y0) = (q * y1 + y1) * 4294967296 + (q + 1) * y0 := by
        rw [Int.mul_add, ← Int.mul_assoc, Int.add_mul q 1 y1, Int.one_mul]
      rw [a2]; omega
    omega
  · have : u / y1 < 4294967298 := by rw [quo_lt (by omega)]; omega
    omega
theorem pr_bd {q y : Int} (h0 : 0 ≤ q) (h1 : q ≤ 4294967295) (g0 : 0 ≤ y) (g1 : y ≤ 4294967295) : 0 ≤ q * y ∧ q * y ≤ 18446744065119617025 := by
  refine ⟨Int.mul_nonneg h0 g0, ?_⟩
  have : q * y ≤ 4294967295 * 4294967295 := Int.mul_le_mul h1 g1 g0 (by omega)
  omega
/-- Where the rest has passed 2^32 the digit is right. -/
theorem dg_break {u v Y y1 y0 a c : Int} (hY : 0 < Y) (eY : Y = y1 * 4294967296 + y0) (eu : u = a * y1 + c) (hu : u < Y) (ha : a ≤ 4294967297) (ha0 : 1 ≤ a) (hc : 0 ≤ c) (h0 : 0 ≤ y0) (h0' : y0 ≤ 4294967295)
    (hv : 0 ≤ v) (hq : (u * 4294967296 + v) / Y + 1 ≤ a) (hx : 4294967296 ≤ c + y1) : a = (u * 4294967296 + v) / Y + 1 := by
  have h1 : a ≤ 4294967296 := by
    rcases Int.lt_or_le a 4294967297 with h | h
    · omega
    · have : a = 4294967297 := by omega
      subst this; omega
  have h7 := pr_bd (q := a - 1) (y := y0) (by omega) (by omega) h0 h0'
  have h6 : u = (a - 1) * y1 + (c + y1) := by rw [eu, Int.sub_mul]; omega
  have := (dg_le (v := v) hY eY h6).2 (by omega)
  omega
/-- The remaining digits. -/
theorem dg_rest {u v Y : Int} (hY : 0 < Y) (h : Y ≤ 18446744073709551615) : (u * 4294967296 + v - (u * 4294967296 + v) / Y * Y) % 18446744073709551616 = (u * 4294967296 + v) % Y := by
  obtain ⟨e, r0, r1⟩ := ediv_parts (u * 4294967296 + v) Y hY
  generalize (u * 4294967296 + v) / Y * Y = A at *
  generalize (u * 4294967296 + v) % Y = R at *
  omega
/-- Both digits together. -/
theorem dg_both {u v w Y : Int} (hY : 0 < Y) :
    (u * 4294967296 + v) / Y * 4294967296 + ((u * 4294967296 + v) % Y * 4294967296 + w) / Y = ((u * 4294967296 + v) * 4294967296 + w) / Y
    ∧ ((u * 4294967296 + v) % Y * 4294967296 + w) % Y = ((u * 4294967296 + v) * 4294967296 + w) % Y := by
  obtain ⟨e, r0, r1⟩ := ediv_parts (u * 4294967296 + v) Y hY
  generalize u * 4294967296 + v = a at *
  obtain ⟨f, s0, s1⟩ := ediv_parts (a % Y * 4294967296 + w) Y hY
  generalize a / Y = q at *
  generalize a % Y = r at *
  generalize hp : (r * 4294967296 + w) / Y = p at *
  generalize hs : (r * 4294967296 + w) % Y = s at *
  have : a * 4294967296 + w = (q * 4294967296 + p) * Y + s := by
    rw [Int.add_mul, Int.mul_assoc, Int.mul_comm 4294967296 Y, ← Int.mul_assoc]; omega
  obtain ⟨g1, g2⟩ := div_of this s0 s1
  exact ⟨g1.symm, g2.symm⟩
theorem dv_shift {x y p : Int} (hy : 0 < y) (hp : 0 < p) : x * p / (y * p) = x / y ∧ x * p % (y * p) = x % y * p := by
  obtain ⟨e, r0, r1⟩ := ediv_parts x y hy
  generalize x / y = q at *
  generalize x % y = r at *
  have h1 : x * p = q * (y * p) + r * p := by rw [e, Int.add_mul, Int.mul_assoc]
  have h2 : 0 ≤ r * p := Int.mul_nonneg r0 (by omega)
  have h3 : r * p < y * p := Int.mul_lt_mul_of_pos_right r1 hp
  exact div_of h1 h2 h3
end Go.Proofs.Ytlhadociaekkhaa
/- Div -/
namespace Go.Proofs.Ytlhadociaekkhaa
set_option linter.unusedVariables false
open Go.RowKit
theorem lenAux : ∀ f x : Nat, x < 2 ^ f → x < 2 ^ Lib.bitLenAux f x ∧ (x ≠ 0 → 2 ^ Lib.bitLenAux f x ≤ 2 * x)
  | 0, x, h => by simp at h; subst h; simp [Lib.bitLenAux]
  | f + 1, x, h => by
    simp only [Lib.bitLenAux]
    by_cases hx : x = 0
    · simp [hx]
    · rw [if_neg hx]
      obtain ⟨h1, h2⟩ := lenAux f (x / 2) (by rw [Nat.pow_succ] at h; omega)
      rw [Nat.add_comm 1, Nat.pow_succ]
      refine ⟨by omega, fun _ => ?_⟩
      by_cases h3 : x / 2 = 0
      · have : x = 1 := by omega
        subst this
        simp only [show (1 : Nat) / 2 = 0 from rfl] at h2 ⊢
        have : ∀ f, Lib.bitLenAux f 0 = 0 := by intro f; cases f <;> simp [Lib.bitLenAux]
        rw [this]
        decide
      · have := h2 h3; omega
theorem lz_spec (y : Int) (h0 : 0 < y) (h1 : y ≤ 18446744073709551615) : 0 ≤ lz y ∧ lz y ≤ 63 ∧ 9223372036854775808 ≤ y * 2 ^ (lz y).toNat ∧ y * 2 ^ (lz y).toNat ≤ 18446744073709551615 := by
  obtain ⟨y, rfl⟩ := Int.eq_ofNat_of_zero_le (Int.le_of_lt h0)
  obtain ⟨a, b⟩ := lenAux 64 y (by omega)
  have c := b (by omega)
  have d := Lib.bitLen_le y 64 (by omega) (by omega)
  unfold lz Lib.bitLen at *
  simp only [Int.toNat_natCast] at *
  generalize Lib.bitLenAux 64 y = n at *
  have hn : n ≠ 0 := by rintro rfl; simp at a; omega
  refine ⟨by omega, by omega, ?_⟩
  rw [show ((64 : Int) - (n : Int)).toNat = 64 - n from by omega]
  have e : (2 : Nat) ^ n * 2 ^ (64 - n) = 18446744073709551616 := by rw [← Nat.pow_add, show n + (64 - n) = 64 from by omega]
  have p : 0 < 2 ^ (64 - n) := Nat.pow_pos (by omega)
  have c2 : 2 ^ n * 2 ^ (64 - n) ≤ 2 * y * 2 ^ (64 - n) := Nat.mul_le_mul_right _ c
  have a2 : (y + 1) * 2 ^ (64 - n) ≤ 2 ^ n * 2 ^ (64 - n) := Nat.mul_le_mul_right _ a
  rw [Nat.mul_assoc] at c2
  rw [Nat.add_mul] at a2
  have : ((y : Int) * 2 ^ (64 - n)) = ((y * 2 ^ (64 - n) : Nat) : Int) := by push_cast; rfl
  rw [this]
  generalize y * 2 ^ (64 - n) = z at *
  omega
theorem i64_in {z : Int} (h0 : 0 ≤ z) (h1 : z ≤ 18446744073709551615) : IntKind.u64.wrap z = z := by rw [u64w]; omega
end Go.Proofs.Ytlhadociaekkhaa
/- Div2 -/
namespace Go.Proofs.Ytlhadociaekkhaa
set_option linter.unusedVariables false
open Go.RowKit
theorem or_in (x n : Int) (hx0 : 0 ≤ x) (hx : x < 340282366920938463463374607431768211456) (h0 : 0 ≤ n) (hn : n < 64) :
    bits .or .u64 (IntKind.u64.wrap (shi x * 2 ^ n.toNat)) (wlo x / 2 ^ (64 - n).toNat) = shi (x * 2 ^ n.toNat) := up_or x n h0 hn
end Go.Proofs.Ytlhadociaekkhaa
/- Div3 -/
namespace Go.Proofs.Ytlhadociaekkhaa
set_option linter.unusedVariables false
open Go.RowKit
theorem Below.drawsN {B : Nat} {w a : World} (h : Below B w a) (n : Nat) : Below B w (a.drewN n) := ⟨h.os, h.tape, h.output, h.size, h.block⟩
theorem Below.draws (w : World) (n : Nat) : Below w.heap.size w (w.drewN n) := Below.drawsN (Below.refl _ _) n
theorem near_le (x d : Int) (h : iabs x / iabs d < 340282366920938463463374607431768211455 ∧ 0 ≤ iabs x / iabs d ∧ iabs x / iabs d ≤ 170141183460469231731687303715884105728) : 0 ≤ rh (iabs x) (iabs d) ∧ rh (iabs x) (iabs d) < 340282366920938463463374607431768211456 := by
  unfold rh incr; split <;> omega
def dvr (x d : Int) : Int := sgn (!(decide (x < 0) == decide (d < 0))) (rh (iabs x) (iabs d))
theorem dv_hi (s y : Int) (h0 : 0 ≤ s) (h1 : s < 340282366920938463463374607431768211456) (hy : 0 < y) (hy1 : y ≤ 18446744073709551615) :
    shi s / y = shi (s / y) ∧ (shi s % y * 18446744073709551616 + wlo s) / y = wlo (s / y) ∧ (shi s % y * 18446744073709551616 + wlo s) % y = s % y := by
  have e : s = shi s * 18446744073709551616 + wlo s := by unfold shi wlo; omega
  have g1 := shi_lo s
  have g2 := shi_up s
  have g3 := wlo_lo s
  have g4 := wlo_up s
  generalize shi s = H at *
  generalize wlo s = L at *
  obtain ⟨f, r0, r1⟩ := ediv_parts H y hy
  obtain ⟨k, s0, s1⟩ := ediv_parts (H % y * 18446744073709551616 + L) y hy
  have m1 := Int.ediv_nonneg g1 (Int.le_of_lt hy)
  have m2 := Int.ediv_le_self y g1
  have c0 : (H % y * 18446744073709551616 + L) / y < 18446744073709551616 := by rw [quo_lt hy]; omega
  have c1 : 0 ≤ (H % y * 18446744073709551616 + L) / y := Int.ediv_nonneg (by omega) (Int.le_of_lt hy)
  generalize H / y = q at *
  generalize H % y = r at *
  generalize (r * 18446744073709551616 + L) / y = p at *
  generalize (r * 18446744073709551616 + L) % y = t at *
  have : s = (q * 18446744073709551616 + p) * y + t := by
    rw [Int.add_mul, Int.mul_assoc, Int.mul_comm 18446744073709551616 y, ← Int.mul_assoc]; omega
  obtain ⟨a, b⟩ := div_of this s0 s1
  rw [a, b]
  refine ⟨?_, ?_, rfl⟩
  · unfold shi; omega
  · unfold wlo; omega
theorem small_sv (r : Int) (h0 : 0 ≤ r) (h1 : r ≤ 18446744073709551615) : shi r = 0 ∧ wlo r = r := by unfold shi wlo; omega
theorem wNearer1 (q r d : Int) (w : World) (hr0 : 0 ≤ r) (hr : r < d) (hd : d ≤ 18446744073709551615) :
    Calls Try.prog 106 #[SV q, .agg #[.int .u64 0, .int .u64 r], .agg #[.int .u64 0, .int .u64 d]] w fun e w' => e = .returned (.bool (near q r d)) ∧ Below w.heap.size w w' := by
  have h := wNearer q r d w hr0 hr (by omega)
  have h1 := small_sv r hr0 (by omega)
  have h2 := small_sv d (by omega) hd
  simp only [SV, h1.1, h1.2, h2.1, h2.2] at h
  exact h
end Go.Proofs.Ytlhadociaekkhaa
/- Plain laws of rounding. -/
namespace Go.Proofs.Ytlhadociaekkhaa
set_option linter.unusedVariables false
theorem rh_exact (m n : Int) (hm : 0 ≤ m) (hn : 0 < n) : rh (m * n) n = m := by
  unfold rh
  rw [Int.mul_ediv_cancel _ (by omega), Int.mul_emod_left]
  have : near m 0 n = false := by unfold near; rw [decide_eq_false_iff_not]; omega
  rw [this]; rfl
theorem iabs_mul (m n : Int) : iabs (m * n) = iabs m * iabs n := by
  unfold iabs
  rcases Int.lt_trichotomy m 0 with h | h | h <;> rcases Int.lt_trichotomy n 0 with g | g | g
  · have := Int.mul_pos_of_neg_of_neg h g
    rw [if_neg (by omega), if_pos h, if_pos g, Int.neg_mul_neg]
  · subst g; simp
  · have := Int.mul_neg_of_neg_of_pos h g
    rw [if_pos this, if_pos h, if_neg (by omega), Int.neg_mul]
  · subst h; simp
  · subst h; simp
  · subst h; simp
  · have := Int.mul_neg_of_pos_of_neg h g
    rw [if_pos this, if_neg (by omega), if_pos g, Int.mul_neg]
  · subst g; simp
  · have := Int.mul_pos h g
    rw [if_neg (by omega), if_neg (by omega), if_neg (by omega)]
theorem iabs_nn (x : Int) : 0 ≤ iabs x := by unfold iabs; split <;> omega
theorem iabs_pos (x : Int) (h : ¬ x = 0) : 0 < iabs x := by unfold iabs; split <;> omega
/-- A product, divided by one of its parts, is the other one. -/
theorem dvr_mul (m n : Int) (hn : ¬ n = 0) : dvr (m * n) n = m := by
  unfold dvr
  rw [iabs_mul, rh_exact _ _ (iabs_nn m) (iabs_pos n hn)]
  unfold sgn iabs
  rcases Int.lt_trichotomy m 0 with h | h | h <;> rcases Int.lt_trichotomy n 0 with g | g | g
  · have := Int.mul_pos_of_neg_of_neg h g
    rw [if_pos h, if_pos (by simp; omega)]; omega
  · omega
  · have := Int.mul_neg_of_neg_of_pos h g
    rw [if_pos h, if_pos (by simp; omega)]; omega
  · subst h; simp
  · omega
  · subst h; simp
  · have := Int.mul_neg_of_pos_of_neg h g
    rw [if_neg (show ¬ m < 0 by omega), if_neg (by simp; omega)]
  · omega
  · have := Int.mul_pos h g
    rw [if_neg (show ¬ m < 0 by omega), if_neg (by simp; omega)]
theorem rh_zero (d : Int) (hd : 0 < d) : rh 0 d = 0 := by
  have := rh_exact 0 d (by omega) hd
  rw [Int.zero_mul] at this; exact this
/-- Of the turned number all is turned. -/
theorem rnd_neg (a d : Int) (hd : 0 < d) : rnd (-a) d = -rnd a d := by
  unfold rnd
  have : iabs (-a) = iabs a := by unfold iabs; split <;> split <;> omega
  rw [this]
  rcases Int.lt_trichotomy a 0 with h | h | h
  · rw [show decide (-a < 0) = false from decide_eq_false (by omega), show decide (a < 0) = true from decide_eq_true h]; simp [sgn]
  · subst h
    have : iabs 0 = 0 := by decide
    rw [this, rh_zero d hd]; simp [sgn]
  · rw [show decide (-a < 0) = true from decide_eq_true (by omega), show decide (a < 0) = false from decide_eq_false (by omega)]; simp [sgn]
/-- The nearest is half a step away at most, and just so far only where it is even. -/
theorem rh_near (s d : Int) (hs : 0 ≤ s) (hd : 0 < d) : -d ≤ 2 * (s - rh s d * d) ∧ 2 * (s - rh s d * d) ≤ d ∧ (2 * (s - rh s d * d) = d ∨ 2 * (s - rh s d * d) = -d → rh s d % 2 = 0) ∧ 0 ≤ rh s d := by
  obtain ⟨e, r0, r1⟩ := ediv_parts s d hd
  have q0 := Int.ediv_nonneg hs (Int.le_of_lt hd)
  unfold rh incr near
  generalize s / d = q at *
  generalize s % d = r at *
  by_cases h : d - r < r ∨ d - r = r ∧ q % 2 = 1
  · rw [if_pos (by simpa using h), Int.add_mul]; omega
  · rw [if_neg (by simpa using h)]; omega
theorem rnd_near (x d : Int) (hd : 0 < d) : -d ≤ 2 * (x - rnd x d * d) ∧ 2 * (x - rnd x d * d) ≤ d ∧ (2 * (x - rnd x d * d) = d ∨ 2 * (x - rnd x d * d) = -d → rnd x d % 2 = 0) := by
  obtain ⟨a, b, c, e⟩ := rh_near (iabs x) d (iabs_nn x) hd
  unfold rnd sgn
  by_cases h : x < 0
  · have hx : iabs x = -x := if_pos h
    rw [if_pos (by simpa using h)]
    rw [hx] at a b c e ⊢
    rw [Int.neg_mul]
    generalize rh (-x) d * d = P at *
    omega
  · have hx : iabs x = x := if_neg h
    rw [if_neg (by simpa using h)]
    rw [hx] at a b c e ⊢
    omega
/-- A product of two of 64 bits has 127 at most. -/
theorem mul_rng (m n : Int) (h1 : -9223372036854775808 ≤ m) (h2 : m ≤ 9223372036854775807) (h3 : -9223372036854775808 ≤ n) (h4 : n ≤ 9223372036854775807) :
    -85070591730234615865843651857942052864 ≤ m * n ∧ m * n ≤ 85070591730234615865843651857942052864 := by
  have a : iabs m ≤ 9223372036854775808 := by unfold iabs; omega
  have b : iabs n ≤ 9223372036854775808 := by unfold iabs; omega
  have c : iabs m * iabs n ≤ 9223372036854775808 * 9223372036854775808 := Int.mul_le_mul a b (iabs_nn n) (by omega)
  rw [← iabs_mul] at c
  revert c
  unfold iabs
  generalize m * n = P
  intro c
  omega
def hd (a : Int) : Int := if a < -9223372036854775807 then -9223372036854775807 else a
theorem max_hd (a : Int) : max a (-9223372036854775807) = hd a := by unfold hd; split <;> omega
theorem hd_bd (a : Int) (h1 : -9223372036854775808 ≤ a) (h2 : a ≤ 9223372036854775807) : -9223372036854775807 ≤ hd a ∧ hd a ≤ 9223372036854775807 := by unfold hd; split <;> omega
end Go.Proofs.Ytlhadociaekkhaa
/- Fit -/
namespace Go.Proofs.Ytlhadociaekkhaa
set_option linter.unusedVariables false
open Go.RowKit
theorem fit_in (x : Int) (h0 : -9223372036854775808 ≤ x) (h : x ≤ 9223372036854775807) : wrap64 (wlo x) = x := by unfold wrap64 wlo; omega
set_option maxHeartbeats 1000000 in
theorem wFit_hi (x : Int) (w : World) (hx0 : -170141183460469231731687303715884105728 ≤ x) (hx : x < 170141183460469231731687303715884105728) (hx1 : 9223372036854775807 < x) :
    Calls Try.prog 91 #[WV x] w fun e w' => e = .returned (.tuple #[.int .i64 9223372036854775807, .bool true]) ∧ Below w.heap.size w w' := by
  have i0 : ∀ w, (Instr.index 101 (.agg #[.int .i64 9223372036854775807, .int .i64 (-9223372036854775807)]) (.int .i64 0)).run Try.prog w = .ok (.int .i64 9223372036854775807) w := fun _ => by kernel_rfl
  have i1 : ∀ w, (Instr.index 101 (.agg #[.int .i64 9223372036854775807, .int .i64 (-9223372036854775807)]) (.int .i64 1)).run Try.prog w = .ok (.int .i64 (-9223372036854775807)) w := fun _ => by kernel_rfl
  have c1 : cmpI x 9223372036854775807 = 1 := by unfold cmpI; repeat (first | omega | split)
  have c2 : cmpI x (-9223372036854775807) = 1 := by unfold cmpI; repeat (first | omega | split)
  have HX := Lib.hid hx1; clear hx1
  go_enter Try.func91, Try.ntmps91
  go_wp2_with fail
  refine wp_loop_rounds 3 ?_; rw [rounds_succ]
  go_wp2_with fail
  go_region_held3 (fun w' => Below w.heap.size w w' ∧ w.heap.size < w'.heap.size ∧ w'.cell? ⟨w.heap.size, 0, none⟩ = some (.int .i64 (whi x)) ∧ w'.cell? ⟨w.heap.size, 1, none⟩ = some (.int .u64 (wlo x)))
    (first | exact ⟨((Below.one _ _)).drew, by simp, by simp [go_sem], by simp [go_sem]⟩ | (go_split_ands; refine ⟨?_, ?_, ?_, ?_⟩ <;> (first | exact Below.next (by assumption) hbz (by omega) | exact cell_keep (by assumption) hbz | exact Slot.keep (by assumption) hbz | exact Nat.lt_of_lt_of_le (by assumption) hbz.size)))
    (first | (go_at_call 93; refine (wOf _ _ (by omega) (by omega)).mono ?_; rintro e wa ⟨rfl, hbz⟩) | (go_at_call 100; refine (wCmp _ _ _ hx0 hx (by omega) (by omega)).mono ?_; rintro e wb ⟨rfl, hbz⟩))
  have HS1 := (by assumption : Below w.heap.size w wb ∧ _)
  obtain ⟨HB1, HZ1, HC1, HC2⟩ := HS1
  go_wp2_with fail
  go_ret2; exact ⟨rfl, by assumption⟩
set_option maxHeartbeats 1000000 in
theorem wFit_eq (x : Int) (w : World) (hx0 : -170141183460469231731687303715884105728 ≤ x) (hx : x < 170141183460469231731687303715884105728) (hx1 : x = 9223372036854775807) :
    Calls Try.prog 91 #[WV x] w fun e w' => e = .returned (.tuple #[.int .i64 x, .bool false]) ∧ Below w.heap.size w w' := by
  have i0 : ∀ w, (Instr.index 101 (.agg #[.int .i64 9223372036854775807, .int .i64 (-9223372036854775807)]) (.int .i64 0)).run Try.prog w = .ok (.int .i64 9223372036854775807) w := fun _ => by kernel_rfl
  have i1 : ∀ w, (Instr.index 101 (.agg #[.int .i64 9223372036854775807, .int .i64 (-9223372036854775807)]) (.int .i64 1)).run Try.prog w = .ok (.int .i64 (-9223372036854775807)) w := fun _ => by kernel_rfl
  have c1 : cmpI x 9223372036854775807 = 0 := by unfold cmpI; repeat (first | omega | split)
  have c2 : cmpI x (-9223372036854775807) = 1 := by unfold cmpI; repeat (first | omega | split)
  have HX := Lib.hid hx1; clear hx1
  go_enter Try.func91, Try.ntmps91
  go_wp2_with fail
  refine wp_loop_rounds 3 ?_; rw [rounds_succ]
  go_wp2_with fail
  go_region_held3 (fun w' => Below w.heap.size w w' ∧ w.heap.size < w'.heap.size ∧ w'.cell? ⟨w.heap.size, 0, none⟩ = some (.int .i64 (whi x)) ∧ w'.cell? ⟨w.heap.size, 1, none⟩ = some (.int .u64 (wlo x)))
    (first | exact ⟨((Below.one _ _)).drew, by simp, by simp [go_sem], by simp [go_sem]⟩ | (go_split_ands; refine ⟨?_, ?_, ?_, ?_⟩ <;> (first | exact Below.next (by assumption) hbz (by omega) | exact cell_keep (by assumption) hbz | exact Slot.keep (by assumption) hbz | exact Nat.lt_of_lt_of_le (by assumption) hbz.size)))
    (first | (go_at_call 93; refine (wOf _ _ (by omega) (by omega)).mono ?_; rintro e wa ⟨rfl, hbz⟩) | (go_at_call 100; refine (wCmp _ _ _ hx0 hx (by omega) (by omega)).mono ?_; rintro e wb ⟨rfl, hbz⟩))
  have HS1 := (by assumption : Below w.heap.size w wb ∧ _)
  obtain ⟨HB1, HZ1, HC1, HC2⟩ := HS1
  go_wp2_with fail
  rw [rounds_succ]
  go_wp2_with fail
  go_region_held3 (fun w' => Below w.heap.size w w' ∧ w.heap.size < w'.heap.size ∧ w'.cell? ⟨w.heap.size, 0, none⟩ = some (.int .i64 (whi x)) ∧ w'.cell? ⟨w.heap.size, 1, none⟩ = some (.int .u64 (wlo x)))
    (first | exact ⟨HB1.drew, HZ1, HC1, HC2⟩ | (go_split_ands; refine ⟨?_, ?_, ?_, ?_⟩ <;> (first | exact Below.next (by assumption) hbz (by omega) | exact cell_keep (by assumption) hbz | exact Slot.keep (by assumption) hbz | exact Nat.lt_of_lt_of_le (by assumption) hbz.size)))
    (first | (go_at_call 93; refine (wOf _ _ (by omega) (by omega)).mono ?_; rintro e wc ⟨rfl, hbz⟩) | (go_at_call 100; refine (wCmp _ _ _ hx0 hx (by omega) (by omega)).mono ?_; rintro e wd ⟨rfl, hbz⟩))
  have HS2 := (by assumption : Below w.heap.size w wd ∧ _)
  obtain ⟨HB3, HZ3, HC3, HC4⟩ := HS2
  clear HB1 HZ1 HC1 HC2
  go_wp2_with fail
  rw [rounds_succ]
  go_wp2_with fail
  go_ret2; exact ⟨by rw [fit_in x (by have := HX.out; omega) (by have := HX.out; omega)]; rfl, by assumption⟩
set_option maxHeartbeats 1000000 in
theorem wFit_in (x : Int) (w : World) (hx0 : -170141183460469231731687303715884105728 ≤ x) (hx : x < 170141183460469231731687303715884105728) (hx1 : x < 9223372036854775807 ∧ -9223372036854775807 < x) :
    Calls Try.prog 91 #[WV x] w fun e w' => e = .returned (.tuple #[.int .i64 x, .bool false]) ∧ Below w.heap.size w w' := by
  have i0 : ∀ w, (Instr.index 101 (.agg #[.int .i64 9223372036854775807, .int .i64 (-9223372036854775807)]) (.int .i64 0)).run Try.prog w = .ok (.int .i64 9223372036854775807) w := fun _ => by kernel_rfl
  have i1 : ∀ w, (Instr.index 101 (.agg #[.int .i64 9223372036854775807, .int .i64 (-9223372036854775807)]) (.int .i64 1)).run Try.prog w = .ok (.int .i64 (-9223372036854775807)) w := fun _ => by kernel_rfl
  have c1 : cmpI x 9223372036854775807 = -1 := by unfold cmpI; repeat (first | omega | split)
  have c2 : cmpI x (-9223372036854775807) = 1 := by unfold cmpI; repeat (first | omega | split)
  have HX := Lib.hid hx1; clear hx1
  go_enter Try.func91, Try.ntmps91
  go_wp2_with fail
  refine wp_loop_rounds 3 ?_; rw [rounds_succ]
  go_wp2_with fail
  go_region_held3 (fun w' => Below w.heap.size w w' ∧ w.heap.size < w'.heap.size ∧ w'.cell? ⟨w.heap.size, 0, none⟩ = some (.int .i64 (whi x)) ∧ w'.cell? ⟨w.heap.size, 1, none⟩ = some (.int .u64 (wlo x)))
    (first | exact ⟨((Below.one _ _)).drew, by simp, by simp [go_sem], by simp [go_sem]⟩ | (go_split_ands; refine ⟨?_, ?_, ?_, ?_⟩ <;> (first | exact Below.next (by assumption) hbz (by omega) | exact cell_keep (by assumption) hbz | exact Slot.keep (by assumption) hbz | exact Nat.lt_of_lt_of_le (by assumption) hbz.size)))
    (first | (go_at_call 93; refine (wOf _ _ (by omega) (by omega)).mono ?_; rintro e wa ⟨rfl, hbz⟩) | (go_at_call 100; refine (wCmp _ _ _ hx0 hx (by omega) (by omega)).mono ?_; rintro e wb ⟨rfl, hbz⟩))
  have HS1 := (by assumption : Below w.heap.size w wb ∧ _)
  obtain ⟨HB1, HZ1, HC1, HC2⟩ := HS1
  go_wp2_with fail
  rw [rounds_succ]
  go_wp2_with fail
  go_region_held3 (fun w' => Below w.heap.size w w' ∧ w.heap.size < w'.heap.size ∧ w'.cell? ⟨w.heap.size, 0, none⟩ = some (.int .i64 (whi x)) ∧ w'.cell? ⟨w.heap.size, 1, none⟩ = some (.int .u64 (wlo x)))
    (first | exact ⟨HB1.drew, HZ1, HC1, HC2⟩ | (go_split_ands; refine ⟨?_, ?_, ?_, ?_⟩ <;> (first | exact Below.next (by assumption) hbz (by omega) | exact cell_keep (by assumption) hbz | exact Slot.keep (by assumption) hbz | exact Nat.lt_of_lt_of_le (by assumption) hbz.size)))
    (first | (go_at_call 93; refine (wOf _ _ (by omega) (by omega)).mono ?_; rintro e wc ⟨rfl, hbz⟩) | (go_at_call 100; refine (wCmp _ _ _ hx0 hx (by omega) (by omega)).mono ?_; rintro e wd ⟨rfl, hbz⟩))
  have HS2 := (by assumption : Below w.heap.size w wd ∧ _)
  obtain ⟨HB3, HZ3, HC3, HC4⟩ := HS2
  clear HB1 HZ1 HC1 HC2
  go_wp2_with fail
  rw [rounds_succ]
  go_wp2_with fail
  go_ret2; exact ⟨by rw [fit_in x (by have := HX.out; omega) (by have := HX.out; omega)]; rfl, by assumption⟩
set_option maxHeartbeats 1000000 in
theorem wFit_ql (x : Int) (w : World) (hx0 : -170141183460469231731687303715884105728 ≤ x) (hx : x < 170141183460469231731687303715884105728) (hx1 : x = -9223372036854775807) :
    Calls Try.prog 91 #[WV x] w fun e w' => e = .returned (.tuple #[.int .i64 x, .bool false]) ∧ Below w.heap.size w w' := by
  have i0 : ∀ w, (Instr.index 101 (.agg #[.int .i64 9223372036854775807, .int .i64 (-9223372036854775807)]) (.int .i64 0)).run Try.prog w = .ok (.int .i64 9223372036854775807) w := fun _ => by kernel_rfl
  have i1 : ∀ w, (Instr.index 101 (.agg #[.int .i64 9223372036854775807, .int .i64 (-9223372036854775807)]) (.int .i64 1)).run Try.prog w = .ok (.int .i64 (-9223372036854775807)) w := fun _ => by kernel_rfl
  have c1 : cmpI x 9223372036854775807 = -1 := by unfold cmpI; repeat (first | omega | split)
  have c2 : cmpI x (-9223372036854775807) = 0 := by unfold cmpI; repeat (first | omega | split)
  have HX := Lib.hid hx1; clear hx1
  go_enter Try.func91, Try.ntmps91
  go_wp2_with fail
  refine wp_loop_rounds 3 ?_; rw [rounds_succ]
  go_wp2_with fail
  go_region_held3 (fun w' => Below w.heap.size w w' ∧ w.heap.size < w'.heap.size ∧ w'.cell? ⟨w.heap.size, 0, none⟩ = some (.int .i64 (whi x)) ∧ w'.cell? ⟨w.heap.size, 1, none⟩ = some (.int .u64 (wlo x)))
    (first | exact ⟨((Below.one _ _)).drew, by simp, by simp [go_sem], by simp [go_sem]⟩ | (go_split_ands; refine ⟨?_, ?_, ?_, ?_⟩ <;> (first | exact Below.next (by assumption) hbz (by omega) | exact cell_keep (by assumption) hbz | exact Slot.keep (by assumption) hbz | exact Nat.lt_of_lt_of_le (by assumption) hbz.size)))
    (first | (go_at_call 93; refine (wOf _ _ (by omega) (by omega)).mono ?_; rintro e wa ⟨rfl, hbz⟩) | (go_at_call 100; refine (wCmp _ _ _ hx0 hx (by omega) (by omega)).mono ?_; rintro e wb ⟨rfl, hbz⟩))
  have HS1 := (by assumption : Below w.heap.size w wb ∧ _)
  obtain ⟨HB1, HZ1, HC1, HC2⟩ := HS1
  go_wp2_with fail
  rw [rounds_succ]
  go_wp2_with fail
  go_region_held3 (fun w' => Below w.heap.size w w' ∧ w.heap.size < w'.heap.size ∧ w'.cell? ⟨w.heap.size, 0, none⟩ = some (.int .i64 (whi x)) ∧ w'.cell? ⟨w.heap.size, 1, none⟩ = some (.int .u64 (wlo x)))
    (first | exact ⟨HB1.drew, HZ1, HC1, HC2⟩ | (go_split_ands; refine ⟨?_, ?_, ?_, ?_⟩ <;> (first | exact Below.next (by assumption) hbz (by omega) | exact cell_keep (by assumption) hbz | exact Slot.keep (by assumption) hbz | exact Nat.lt_of_lt_of_le (by assumption) hbz.size)))
    (first | (go_at_call 93; refine (wOf _ _ (by omega) (by omega)).mono ?_; rintro e wc ⟨rfl, hbz⟩) | (go_at_call 100; refine (wCmp _ _ _ hx0 hx (by omega) (by omega)).mono ?_; rintro e wd ⟨rfl, hbz⟩))
  have HS2 := (by assumption : Below w.heap.size w wd ∧ _)
  obtain ⟨HB3, HZ3, HC3, HC4⟩ := HS2
  clear HB1 HZ1 HC1 HC2
  go_wp2_with fail
  rw [rounds_succ]
  go_wp2_with fail
  go_ret2; exact ⟨by rw [fit_in x (by have := HX.out; omega) (by have := HX.out; omega)]; rfl, by assumption⟩
set_option maxHeartbeats 1000000 in
theorem wFit_lo (x : Int) (w : World) (hx0 : -170141183460469231731687303715884105728 ≤ x) (hx : x < 170141183460469231731687303715884105728) (hx1 : x < -9223372036854775807) :
    Calls Try.prog 91 #[WV x] w fun e w' => e = .returned (.tuple #[.int .i64 (-9223372036854775807), .bool true]) ∧ Below w.heap.size w w' := by
  have i0 : ∀ w, (Instr.index 101 (.agg #[.int .i64 9223372036854775807, .int .i64 (-9223372036854775807)]) (.int .i64 0)).run Try.prog w = .ok (.int .i64 9223372036854775807) w := fun _ => by kernel_rfl
  have i1 : ∀ w, (Instr.index 101 (.agg #[.int .i64 9223372036854775807, .int .i64 (-9223372036854775807)]) (.int .i64 1)).run Try.prog w = .ok (.int .i64 (-9223372036854775807)) w := fun _ => by kernel_rfl
  have c1 : cmpI x 9223372036854775807 = -1 := by unfold cmpI; repeat (first | omega | split)
  have c2 : cmpI x (-9223372036854775807) = -1 := by unfold cmpI; repeat (first | omega | split)
  have HX := Lib.hid hx1; clear hx1
  go_enter Try.func91, Try.ntmps91
  go_wp2_with fail
  refine wp_loop_rounds 3 ?_; rw [rounds_succ]
  go_wp2_with fail
  go_region_held3 (fun w' => Below w.heap.size w w' ∧ w.heap.size < w'.heap.size ∧ w'.cell? ⟨w.heap.size, 0, none⟩ = some (.int .i64 (whi x)) ∧ w'.cell? ⟨w.heap.size, 1, none⟩ = some (.int .u64 (wlo x)))
    (first | exact ⟨((Below.one _ _)).drew, by simp, by simp [go_sem], by simp [go_sem]⟩ | (go_split_ands; refine ⟨?_, ?_, ?_, ?_⟩ <;> (first | exact Below.next (by assumption) hbz (by omega) | exact cell_keep (by assumption) hbz | exact Slot.keep (by assumption) hbz | exact Nat.lt_of_lt_of_le (by assumption) hbz.size)))
    (first | (go_at_call 93; refine (wOf _ _ (by omega) (by omega)).mono ?_; rintro e wa ⟨rfl, hbz⟩) | (go_at_call 100; refine (wCmp _ _ _ hx0 hx (by omega) (by omega)).mono ?_; rintro e wb ⟨rfl, hbz⟩))
  have HS1 := (by assumption : Below w.heap.size w wb ∧ _)
  obtain ⟨HB1, HZ1, HC1, HC2⟩ := HS1
  go_wp2_with fail
  rw [rounds_succ]
  go_wp2_with fail
  go_region_held3 (fun w' => Below w.heap.size w w' ∧ w.heap.size < w'.heap.size ∧ w'.cell? ⟨w.heap.size, 0, none⟩ = some (.int .i64 (whi x)) ∧ w'.cell? ⟨w.heap.size, 1, none⟩ = some (.int .u64 (wlo x)))
    (first | exact ⟨HB1.drew, HZ1, HC1, HC2⟩ | (go_split_ands; refine ⟨?_, ?_, ?_, ?_⟩ <;> (first | exact Below.next (by assumption) hbz (by omega) | exact cell_keep (by assumption) hbz | exact Slot.keep (by assumption) hbz | exact Nat.lt_of_lt_of_le (by assumption) hbz.size)))
    (first | (go_at_call 93; refine (wOf _ _ (by omega) (by omega)).mono ?_; rintro e wc ⟨rfl, hbz⟩) | (go_at_call 100; refine (wCmp _ _ _ hx0 hx (by omega) (by omega)).mono ?_; rintro e wd ⟨rfl, hbz⟩))
  have HS2 := (by assumption : Below w.heap.size w wd ∧ _)
  obtain ⟨HB3, HZ3, HC3, HC4⟩ := HS2
  clear HB1 HZ1 HC1 HC2
  go_wp2_with fail
  go_ret2; exact ⟨rfl, by assumption⟩
def fitV (x : Int) : Int := if 9223372036854775807 < x then 9223372036854775807 else if x < -9223372036854775807 then -9223372036854775807 else x
def fitC (x : Int) : Bool := decide (9223372036854775807 < x ∨ x < -9223372036854775807)
theorem fit_way {x v : Int} {c : Bool} (h1 : fitV x = v) (h2 : fitC x = c) {w : World} {N : FuncId}
    (h : Calls Try.prog N #[WV x] w fun e w' => e = .returned (.tuple #[.int .i64 v, .bool c]) ∧ Below w.heap.size w w') :
    Calls Try.prog N #[WV x] w fun e w' => e = .returned (.tuple #[.int .i64 (fitV x), .bool (fitC x)]) ∧ Below w.heap.size w w' := by rw [h1, h2]; exact h
theorem wFit (x : Int) (w : World) (hx0 : -170141183460469231731687303715884105728 ≤ x) (hx : x < 170141183460469231731687303715884105728) :
    Calls Try.prog 91 #[WV x] w fun e w' => e = .returned (.tuple #[.int .i64 (fitV x), .bool (fitC x)]) ∧ Below w.heap.size w w' := by
  rcases Int.lt_trichotomy x 9223372036854775807 with h | h | h
  · rcases Int.lt_trichotomy x (-9223372036854775807) with g | g | g
    · exact fit_way (by unfold fitV; rw [if_neg (by omega), if_pos g]) (by unfold fitC; simp; omega) (wFit_lo x w hx0 hx g)
    · exact fit_way (by unfold fitV; rw [if_neg (by omega), if_neg (by omega)]) (by unfold fitC; simp; omega) (wFit_ql x w hx0 hx g)
    · exact fit_way (by unfold fitV; rw [if_neg (by omega), if_neg (by omega)]) (by unfold fitC; simp; omega) (wFit_in x w hx0 hx ⟨h, g⟩)
  · exact fit_way (by unfold fitV; rw [if_neg (by omega), if_neg (by omega)]) (by unfold fitC; simp; omega) (wFit_eq x w hx0 hx h)
  · exact fit_way (by unfold fitV; rw [if_pos h]) (by unfold fitC; simp; omega) (wFit_hi x w hx0 hx h)
end Go.Proofs.Ytlhadociaekkhaa
