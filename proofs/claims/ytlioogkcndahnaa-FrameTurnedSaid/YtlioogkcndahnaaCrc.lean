/- Going bits on, the table and the sum, in plain numbers; that this is linear, and that no burst of 32 bits is lost. -/
import Derived.Test.YtlioogkcndahnaaRows
namespace Go.Proofs.Ytlioogkcndahnaa
set_option linter.unusedVariables false
def poly : Nat := 3988292384
/-- One bit on. -/
def stp (x : Nat) : Nat := (x / 2) ^^^ (if x % 2 = 1 then poly else 0)
/-- So many bits on. -/
def stpN : Nat → Nat → Nat
  | 0, x => x
  | n + 1, x => stpN n (stp x)
def tab (i : Nat) : Nat := stpN 8 i
theorem xor_half (a b : Nat) : (a ^^^ b) / 2 = a / 2 ^^^ b / 2 := by
  apply Nat.eq_of_testBit_eq; intro i
  simp [Nat.testBit_div_two]
theorem xor_odd (a b : Nat) : (a ^^^ b) % 2 = (a % 2 + b % 2) % 2 := by
  have h : ((a ^^^ b) % 2 = 1) ↔ ¬ ((a % 2 = 1) ↔ (b % 2 = 1)) := by
    have h0 := Nat.testBit_xor a b 0
    simp only [Nat.testBit_zero] at h0
    by_cases ha : a % 2 = 1 <;> by_cases hb : b % 2 = 1 <;> simp_all
  by_cases hx : (a ^^^ b) % 2 = 1
  · have := h.1 hx; omega
  · have : (a % 2 = 1) ↔ (b % 2 = 1) := by
      refine Classical.byContradiction fun hn => hx (h.2 hn)
    omega
theorem stp_xor (a b : Nat) : stp (a ^^^ b) = stp a ^^^ stp b := by
  unfold stp
  rw [xor_half, xor_odd]
  have c : ∀ x y z u : Nat, (x ^^^ y) ^^^ (z ^^^ u) = (x ^^^ z) ^^^ (y ^^^ u) := by
    intro x y z u; rw [Nat.xor_assoc, Nat.xor_assoc, ← Nat.xor_assoc y z u, Nat.xor_comm y z, Nat.xor_assoc z y u]
  rcases Nat.mod_two_eq_zero_or_one a with ha | ha <;> rcases Nat.mod_two_eq_zero_or_one b with hb | hb <;> simp only [ha, hb]
  · simp
  · simp [Nat.xor_assoc]
  · have := c (a / 2) (b / 2) poly 0
    simp only [Nat.xor_zero] at this
    simpa using this
  · have := c (a / 2) poly (b / 2) poly
    simp only [Nat.xor_self, Nat.xor_zero] at this
    simp only [if_true]
    rw [this]; simp
theorem stpN_xor (n a b : Nat) : stpN n (a ^^^ b) = stpN n a ^^^ stpN n b := by
  induction n generalizing a b with
  | zero => rfl
  | succ n ih => unfold stpN; rw [stp_xor, ih]
theorem stpN_add (m n x : Nat) : stpN (m + n) x = stpN n (stpN m x) := by
  induction m generalizing x with
  | zero => rw [Nat.zero_add]; rfl
  | succ m ih => rw [Nat.add_right_comm]; exact ih (stp x)
theorem stp_two (x : Nat) : stp (2 * x) = x := by
  unfold stp
  have h1 : 2 * x / 2 = x := by omega
  have h2 : ¬ 2 * x % 2 = 1 := by omega
  rw [h1, if_neg h2, Nat.xor_zero]
theorem stpN_pow (n x : Nat) : stpN n (2 ^ n * x) = x := by
  induction n generalizing x with
  | zero => show 2 ^ 0 * x = x; simp
  | succ n ih =>
    unfold stpN
    have : 2 ^ (n + 1) * x = 2 * (2 ^ n * x) := by rw [Nat.pow_succ]; ac_rfl
    rw [this, stp_two, ih]
theorem stpN_0 (n : Nat) : stpN n 0 = 0 := by
  have := stpN_pow n 0
  simpa using this
theorem stp_lt {x : Nat} (h : x < 4294967296) : stp x < 4294967296 := by
  have h1 : x / 2 < 2 ^ 32 := by omega
  have h2 : (if x % 2 = 1 then poly else 0) < 2 ^ 32 := by unfold poly; split <;> omega
  have := Nat.xor_lt_two_pow h1 h2
  unfold stp; omega
theorem stpN_lt {x : Nat} (n : Nat) (h : x < 4294967296) : stpN n x < 4294967296 := by
  induction n generalizing x with
  | zero => exact h
  | succ n ih => exact ih (stp_lt h)
theorem tab_lt {i : Nat} (h : i < 256) : tab i < 4294967296 := stpN_lt 8 (by omega)
theorem xor_no {a b : Nat} (h : a ^^^ b = 0) : a = b := by
  have e : a ^^^ (a ^^^ b) = a := by rw [h, Nat.xor_zero]
  rw [← Nat.xor_assoc, Nat.xor_self, Nat.zero_xor] at e
  exact e.symm
theorem stp_no {x : Nat} (h : x < 4294967296) (h0 : stp x = 0) : x = 0 := by
  unfold stp at h0
  have := xor_no h0
  unfold poly at this
  split at this <;> omega
theorem stpN_no {x : Nat} (n : Nat) (h : x < 4294967296) (h0 : stpN n x = 0) : x = 0 := by
  induction n generalizing x with
  | zero => exact h0
  | succ n ih => exact stp_no h (ih (stp_lt h) h0)
/-- The sum's way through bytes, by a table. -/
def crc (f : Nat → Nat) (x : Nat) (L : List Nat) : Nat := L.foldl (fun x c => (x / 256) ^^^ f ((x % 256) ^^^ c)) x
def sumv (f : Nat → Nat) (L : List Nat) : Nat := 4294967295 ^^^ crc f 4294967295 L
theorem xor_lt8 {a b : Nat} (ha : a < 256) (hb : b < 256) : a ^^^ b < 256 := by
  have := Nat.xor_lt_two_pow (n := 8) (x := a) (y := b) (by omega) (by omega)
  omega
theorem xor_lt32 {a b : Nat} (ha : a < 4294967296) (hb : b < 4294967296) : a ^^^ b < 4294967296 := by
  have := Nat.xor_lt_two_pow (n := 32) (x := a) (y := b) (by omega) (by omega)
  omega
theorem crc_lt {f : Nat → Nat} (hf : ∀ i, i < 256 → f i < 4294967296) {x : Nat} (hx : x < 4294967296) {L : List Nat} (hL : ∀ c ∈ L, c < 256) : crc f x L < 4294967296 := by
  unfold crc
  induction L generalizing x with
  | nil => exact hx
  | cons c L ih =>
    refine ih (xor_lt32 (by omega) (hf _ (xor_lt8 (by omega) (hL c (by simp))))) fun d hd => hL d (by simp [hd])
theorem crc_snoc (f : Nat → Nat) (x : Nat) (L : List Nat) (c : Nat) : crc f x (L ++ [c]) = (crc f x L / 256) ^^^ f ((crc f x L % 256) ^^^ c) := by
  unfold crc; rw [List.foldl_append]; rfl
theorem crc_append (f : Nat → Nat) (x : Nat) (L K : List Nat) : crc f x (L ++ K) = crc f (crc f x L) K := by
  unfold crc; rw [List.foldl_append]
theorem split8 (x c : Nat) (hc : c < 256) : x ^^^ c = 2 ^ 8 * (x / 256) ^^^ ((x % 256) ^^^ c) := by
  have h : x = 2 ^ 8 * (x / 256) ^^^ (x % 256) := by
    have e : 2 ^ 8 * (x / 256) ^^^ (x % 256) = 2 ^ 8 * (x / 256) + x % 256 := by
      apply Nat.eq_of_testBit_eq; intro i
      rw [Nat.testBit_xor, Nat.testBit_two_pow_mul, Nat.testBit_two_pow_mul_add _ (by omega : x % 256 < 2 ^ 8)]
      have h8 : (x % 256).testBit i = (decide (i < 8) && x.testBit i) := by
        rw [show (256 : Nat) = 2 ^ 8 from rfl, Nat.testBit_mod_two_pow]
      by_cases hi : i < 8
      · simp [hi, show ¬ 8 ≤ i by omega]
      · simp [hi, h8, show 8 ≤ i by omega]
    rw [e]; omega
  conv => lhs; rw [h]
  rw [Nat.xor_assoc]
/-- By the table: eight bits on. -/
theorem step8 (x c : Nat) (hc : c < 256) : (x / 256) ^^^ tab ((x % 256) ^^^ c) = stpN 8 (x ^^^ c) := by
  rw [split8 x c hc, stpN_xor, stpN_pow]; rfl
/-- Going on by bytes, without a table. -/
def reg (x : Nat) (L : List Nat) : Nat := L.foldl (fun x c => stpN 8 (x ^^^ c)) x
theorem crc_reg (x : Nat) {L : List Nat} (hL : ∀ c ∈ L, c < 256) : crc tab x L = reg x L := by
  unfold crc reg
  induction L generalizing x with
  | nil => rfl
  | cons c L ih =>
    simp only [List.foldl_cons]
    rw [step8 x c (hL c (by simp))]
    exact ih _ fun d hd => hL d (by simp [hd])
theorem reg_append (x : Nat) (L K : List Nat) : reg x (L ++ K) = reg (reg x L) K := by unfold reg; rw [List.foldl_append]
theorem reg_cons (x c : Nat) (L : List Nat) : reg x (c :: L) = reg (stpN 8 (x ^^^ c)) L := rfl
/-- What is other in the beginning is other in the end, as many bits on. -/
theorem reg_xor (x d : Nat) (L : List Nat) : reg (x ^^^ d) L = reg x L ^^^ stpN (8 * L.length) d := by
  induction L generalizing x d with
  | nil => rfl
  | cons c L ih =>
    rw [reg_cons, reg_cons]
    have e : x ^^^ d ^^^ c = (x ^^^ c) ^^^ d := by rw [Nat.xor_assoc, Nat.xor_comm d c, Nat.xor_assoc]
    rw [e, stpN_xor, ih, ← stpN_add]
    congr 2
    simp only [List.length_cons]; omega
/-- One byte is other. -/
theorem reg_set (x : Nat) (L : List Nat) (k d : Nat) (hk : k < L.length) : reg x (L.set k (L.getD k 0 ^^^ d)) = reg x L ^^^ stpN (8 * (L.length - k)) d := by
  induction L generalizing x k with
  | nil => simp at hk
  | cons c L ih =>
    cases k with
    | zero =>
      simp only [List.set_cons_zero, List.getD_cons_zero]
      rw [reg_cons, reg_cons, ← Nat.xor_assoc, stpN_xor, reg_xor, ← stpN_add]
      congr 2
      simp only [List.length_cons]; omega
    | succ k =>
      simp only [List.set_cons_succ, List.getD_cons_succ]
      rw [reg_cons, reg_cons, ih _ k (by simpa using hk)]
      congr 2
      simp only [List.length_cons]; omega
/-- A bit is so many bits on. -/
theorem stpN_bit (n r m : Nat) (h : r ≤ n) : stpN (n + m) (2 ^ r) = stpN (n - r + m) 1 := by
  have e : n + m = r + (n - r + m) := by omega
  rw [e, stpN_add]
  have := stpN_pow r 1
  rw [Nat.mul_one] at this
  rw [this]
/-- The four bytes of a number, the lowest first. -/
def tailL (x : Nat) : List Nat := [x % 256, x / 256 % 256, x / 65536 % 256, x / 16777216 % 256]
theorem reg_tail (x s : Nat) (hs : s < 4294967296) : reg x (tailL s) = stpN 32 (x ^^^ s) := by
  unfold tailL
  simp only [reg, List.foldl_cons, List.foldl_nil]
  have e1 : stpN 8 (x ^^^ s % 256) = stpN 8 (x ^^^ s) ^^^ (s / 256) := by
    have := split8 s 0 (by omega)
    rw [Nat.xor_zero, Nat.xor_zero] at this
    have e : x ^^^ s = (x ^^^ s % 256) ^^^ 2 ^ 8 * (s / 256) := by
      conv => lhs; rw [this]
      rw [Nat.xor_comm (2 ^ 8 * (s / 256)), ← Nat.xor_assoc]
    rw [e, stpN_xor 8 (x ^^^ s % 256), stpN_pow, Nat.xor_assoc, Nat.xor_self, Nat.xor_zero]
  have e2 : ∀ y z : Nat, stpN 8 (y ^^^ z ^^^ z % 256) = stpN 8 y ^^^ (z / 256) := by
    intro y z
    have := split8 z 0 (by omega)
    rw [Nat.xor_zero, Nat.xor_zero] at this
    have e : y ^^^ z ^^^ z % 256 = y ^^^ 2 ^ 8 * (z / 256) := by
      rw [Nat.xor_assoc]
      congr 1
      conv => lhs; lhs; rw [this]
      rw [Nat.xor_assoc, Nat.xor_self, Nat.xor_zero]
    rw [e, stpN_xor, stpN_pow]
  have h2 : s / 65536 = s / 256 / 256 := by omega
  have h3 : s / 16777216 = s / 256 / 256 / 256 := by omega
  rw [e1, e2, h2, e2, h3, e2]
  have h4 : s / 256 / 256 / 256 / 256 = 0 := by omega
  rw [h4, Nat.xor_zero, ← stpN_add, ← stpN_add, ← stpN_add]
/-- A frame's bytes and its sum together. -/
theorem reg_sum (x : Nat) (L : List Nat) (s : Nat) (hs : s < 4294967296) : reg x (L ++ tailL s) = stpN 32 (reg x L ^^^ s) := by
  rw [reg_append, reg_tail _ _ hs]
theorem sumv_ok (L : List Nat) (hL : ∀ c ∈ L, c < 256) : reg 4294967295 (L ++ tailL (sumv tab L)) = stpN 32 4294967295 := by
  have hlt := crc_lt (f := tab) (fun i hi => tab_lt hi) (x := 4294967295) (by omega) hL
  rw [reg_sum _ _ _ (by unfold sumv; exact xor_lt32 (by omega) hlt)]
  unfold sumv
  rw [crc_reg _ hL, Nat.xor_comm 4294967295, ← Nat.xor_assoc, Nat.xor_self, Nat.zero_xor]
end Go.Proofs.Ytlioogkcndahnaa
