/- Plain laws of matrices of small whole numbers: a ring, exactly. -/
import Derived.Test.YtlhadociaekkhaaQMatL4
set_option linter.unusedSimpArgs false
set_option linter.unusedVariables false
namespace Go.Proofs.Ytlhadociaekkhaa
set_option linter.unusedVariables false
set_option linter.unusedSimpArgs false
set_option maxRecDepth 100000
open Go.RowKit Go.Shelf
theorem inF_wh {x : Int} (h : x.natAbs ≤ 2147483647) : InF (x * 4294967296) := ⟨by omega, by omega⟩
theorem opMul_wh {x y : Int} (hx : x.natAbs ≤ 2147483647) (hy : y.natAbs ≤ 2147483647) (hxy : (x * y).natAbs ≤ 2147483647) : opMul (x * 4294967296) (y * 4294967296) = (x * y * 4294967296, false) := by
  have e : x * 4294967296 * (y * 4294967296) = x * y * 4294967296 * 4294967296 := by
    rw [Int.mul_assoc x, Int.mul_comm 4294967296 (y * 4294967296), ← Int.mul_assoc x, ← Int.mul_assoc x]
  have hb := inF_wh hxy
  unfold opMul
  rw [mulW_in (inF_wh hx) (inF_wh hy), cut_in _ (inF_wh hx) (inF_wh hy), e, rnd_mul _ _ (by omega), (fitV_in hb).1, (fitV_in hb).2]
theorem opAdd_wh {x y : Int} (hx : x.natAbs ≤ 2147483647) (hy : y.natAbs ≤ 2147483647) (hxy : (x + y).natAbs ≤ 2147483647) : opAdd (x * 4294967296) (y * 4294967296) = ((x + y) * 4294967296, false) := by
  have hb := inF_wh hxy
  unfold opAdd
  rw [addW_in (inF_wh hx) (inF_wh hy), cut_in _ (inF_wh hx) (inF_wh hy), ← Int.add_mul, (fitV_in hb).1, (fitV_in hb).2]
def sumN (f : Nat → Int) : Nat → Int
  | 0 => 0
  | n + 1 => sumN f n + f n
theorem sumN_bd {f : Nat → Int} {M : Nat} (n : Nat) (h : ∀ k, k < n → (f k).natAbs ≤ M) : (sumN f n).natAbs ≤ n * M := by
  induction n with
  | zero => simp [sumN]
  | succ n ih =>
    have h1 := ih fun k hk => h k (by omega)
    have h2 := h n (by omega)
    have h3 := Int.natAbs_add_le (sumN f n) (f n)
    show (sumN f n + f n).natAbs ≤ _
    rw [Nat.succ_mul]
    omega
theorem sumN_congr {f g : Nat → Int} (n : Nat) (h : ∀ k, k < n → f k = g k) : sumN f n = sumN g n := by
  induction n with
  | zero => rfl
  | succ n ih =>
    show sumN f n + f n = sumN g n + g n
    rw [ih fun k hk => h k (by omega), h n (by omega)]
theorem sumN_add (f g : Nat → Int) (n : Nat) : sumN (fun k => f k + g k) n = sumN f n + sumN g n := by
  induction n with
  | zero => rfl
  | succ n ih =>
    show sumN (fun k => f k + g k) n + (f n + g n) = sumN f n + f n + (sumN g n + g n)
    rw [ih]; omega
theorem sumN_mulL (c : Int) (f : Nat → Int) (n : Nat) : c * sumN f n = sumN (fun k => c * f k) n := by
  induction n with
  | zero => simp [sumN]
  | succ n ih =>
    show c * (sumN f n + f n) = sumN (fun k => c * f k) n + c * f n
    rw [Int.mul_add, ih]
theorem sumN_mulR (c : Int) (f : Nat → Int) (n : Nat) : sumN f n * c = sumN (fun k => f k * c) n := by
  rw [Int.mul_comm, sumN_mulL]
  exact sumN_congr n fun k _ => Int.mul_comm _ _
theorem sumN_zero (n : Nat) : sumN (fun _ => 0) n = 0 := by
  induction n with
  | zero => rfl
  | succ n ih => show sumN (fun _ => 0) n + 0 = 0; rw [ih]; rfl
theorem sumN_swap (f : Nat → Nat → Int) (n m : Nat) : sumN (fun j => sumN (fun k => f k j) n) m = sumN (fun k => sumN (fun j => f k j) m) n := by
  induction m with
  | zero => show 0 = _; exact (sumN_zero n).symm
  | succ m ih =>
    show sumN (fun j => sumN (fun k => f k j) n) m + sumN (fun k => f k m) n = _
    rw [ih, ← sumN_add]
    rfl
/-- A list of whole numbers, not greater than M. -/
structure Wh (L : List Int) (n : Nat) (f : Nat → Int) (M : Nat) : Prop where
  len : L.length = n
  at_ : ∀ x, x < n → L.getD x 0 = f x * 4294967296
  bd : ∀ x, x < n → (f x).natAbs ≤ M
theorem Wh.mono {L : List Int} {n : Nat} {f : Nat → Int} {M M' : Nat} (h : Wh L n f M) (hM : M ≤ M') : Wh L n f M' := ⟨h.len, h.at_, fun x hx => Nat.le_trans (h.bd x hx) hM⟩
theorem Wh.eq {L K : List Int} {n : Nat} {f g : Nat → Int} {M M' : Nat} (h : Wh L n f M) (k : Wh K n g M') (e : ∀ x, x < n → f x = g x) : L = K :=
  list_ext (by rw [h.len, k.len]) fun x hx => by rw [h.len] at hx; rw [h.at_ x hx, k.at_ x hx, e x hx]
theorem Wh.all {L : List Int} {n : Nat} {f : Nat → Int} {M : Nat} (h : Wh L n f M) (hM : M ≤ 2147483647) : AllI L := fun x hx => by
  obtain ⟨i, hi, rfl⟩ := List.mem_iff_getElem.1 hx
  have e := h.at_ i (by rw [← h.len]; exact hi)
  have b := h.bd i (by rw [← h.len]; exact hi)
  simp only [List.getD, List.getElem?_eq_getElem hi, Option.getD_some] at e
  rw [e]
  exact ⟨by omega, by omega⟩
theorem Wh.of {n : Nat} {f : Nat → Int} {M : Nat} (h : ∀ x, x < n → (f x).natAbs ≤ M) : Wh ((List.range n).map fun x => f x * 4294967296) n f M :=
  ⟨by simp, fun x hx => range_get _ _ _ hx, h⟩
theorem abs_mul {x y : Int} {A B : Nat} (hx : x.natAbs ≤ A) (hy : y.natAbs ≤ B) : (x * y).natAbs ≤ A * B := by
  rw [Int.natAbs_mul]; exact Nat.mul_le_mul hx hy
theorem runD_wh {j : Bool} {a b : List Int} {α β : Nat → Int} {M : Nat} (n N : Nat) (hn : n ≤ N) (ha : ∀ k, k < n → a.getD k 0 = α k * 4294967296) (hb : ∀ k, k < n → b.getD k 0 = β k * 4294967296)
    (h1 : ∀ k, k < n → (α k).natAbs ≤ 2147483647) (h2 : ∀ k, k < n → (β k).natAbs ≤ 2147483647) (hM : ∀ k, k < n → (α k * β k).natAbs ≤ M) (hN : N * M ≤ 2147483647) :
    runD (0, j) a b n = (sumN (fun k => α k * β k) n * 4294967296, j) := by
  induction n with
  | zero => rfl
  | succ n ih =>
    show accD (runD (0, j) a b n) _ _ = _
    rw [ih (by omega) (fun k hk => ha k (by omega)) (fun k hk => hb k (by omega)) (fun k hk => h1 k (by omega)) (fun k hk => h2 k (by omega)) (fun k hk => hM k (by omega)), ha n (by omega), hb n (by omega)]
    have m1 := hM n (by omega)
    have m2 := sumN_bd (f := fun k => α k * β k) n fun k hk => hM k (by omega)
    have m3 := sumN_bd (f := fun k => α k * β k) (n + 1) fun k hk => hM k (by omega)
    have l1 : M ≤ N * M := by have := Nat.mul_le_mul_right M (show 1 ≤ N by omega); omega
    have l2 : n * M ≤ N * M := Nat.mul_le_mul_right M (by omega)
    have l3 : (n + 1) * M ≤ N * M := Nat.mul_le_mul_right M (by omega)
    unfold accD
    rw [opMul_wh (h1 n (by omega)) (h2 n (by omega)) (by omega)]
    simp only
    rw [opAdd_wh (by omega) (by omega) (by have : sumN (fun k => α k * β k) n + α n * β n = sumN (fun k => α k * β k) (n + 1) := rfl; rw [this]; omega)]
    simp only [Bool.or_false]
    rfl
/-- A product of matrices of whole numbers. -/
theorem mul_wh {R K C A B M : Nat} (hR : 1 ≤ R ∧ R ≤ 5) (hK : 1 ≤ K ∧ K ≤ 5) (hC : 1 ≤ C ∧ C ≤ 5) {a b : List Int} {α β : Nat → Int} (ha : Wh a (R * K) α A) (hb : Wh b (K * C) β B) (hA : A ≤ 2147483647) (hB : B ≤ 2147483647) (hM : 5 * (A * B) ≤ M) (hM2 : M ≤ 2147483647) (c : Int) :
    ∃ X d, mulM R K a K C b false c = (((R : Int), (C : Int), X, 0), false, d) ∧ Wh X (R * C) (fun x => sumN (fun k => α (x / C * K + k) * β (k * C + x % C)) K) M := by
  have hKM : K * (A * B) ≤ 2147483647 := by have := Nat.mul_le_mul_right (A * B) hK.2; omega
  have e := mapN_calm (g := gR a b K C) (f := fun x => sumN (fun k => α (x / C * K + k) * β (k * C + x % C)) K * 4294967296) false (R * C) (fun j x hx => by
    have h1 : x / C < R := Nat.div_lt_of_lt_mul (by rw [Nat.mul_comm]; exact hx)
    have h2 : x % C < C := Nat.mod_lt _ (by omega)
    unfold gR
    exact runD_wh (α := fun k => α (x / C * K + k)) (β := fun k => β (k * C + x % C)) (M := A * B) K K (Nat.le_refl _) (fun k hk => by rw [rowL_get hk]; exact ha.at_ _ (place_lt h1 hk)) (fun k hk => by rw [colL_get hk]; exact hb.at_ _ (place_lt hk h2))
      (fun k hk => Nat.le_trans (ha.bd _ (place_lt h1 hk)) hA) (fun k hk => Nat.le_trans (hb.bd _ (place_lt hk h2)) hB) (fun k hk => abs_mul (ha.bd _ (place_lt h1 hk)) (hb.bd _ (place_lt hk h2))) hKM)
  refine ⟨_, _, by unfold mulM; rw [if_pos ⟨rfl, chk_ok (by omega) (by omega) ha.len, chk_ok (by omega) (by omega) hb.len⟩]; simp only [Int.toNat_natCast]; rw [e], ?_⟩
  refine Wh.of fun x hx => ?_
  have h1 : x / C < R := Nat.div_lt_of_lt_mul (by rw [Nat.mul_comm]; exact hx)
  have h2 : x % C < C := Nat.mod_lt _ (by omega)
  have := sumN_bd (f := fun k => α (x / C * K + k) * β (k * C + x % C)) (M := A * B) K fun k hk => abs_mul (ha.bd _ (place_lt h1 hk)) (hb.bd _ (place_lt hk h2))
  have k5 := Nat.mul_le_mul_right (A * B) hK.2
  omega
theorem app_wh {R K A B M : Nat} (hR : 1 ≤ R ∧ R ≤ 5) (hK : 1 ≤ K ∧ K ≤ 5) {a b : List Int} {α β : Nat → Int} (ha : Wh a (R * K) α A) (hb : Wh b K β B) (hA : A ≤ 2147483647) (hB : B ≤ 2147483647) (hM : 5 * (A * B) ≤ M) (hM2 : M ≤ 2147483647) (c : Int) :
    ∃ X d, appM R K a b false c = ((X, 0), false, d) ∧ Wh X R (fun r => sumN (fun k => α (r * K + k) * β k) K) M := by
  have hKM : K * (A * B) ≤ 2147483647 := by have := Nat.mul_le_mul_right (A * B) hK.2; omega
  have e := mapN_calm (g := gA a b K) (f := fun r => sumN (fun k => α (r * K + k) * β k) K * 4294967296) false R (fun j r hr => by
    unfold gA
    exact runD_wh (α := fun k => α (r * K + k)) (β := β) (M := A * B) K K (Nat.le_refl _) (fun k hk => by rw [rowL_get hk]; exact ha.at_ _ (place_lt hr hk)) (fun k hk => hb.at_ _ hk)
      (fun k hk => Nat.le_trans (ha.bd _ (place_lt hr hk)) hA) (fun k hk => Nat.le_trans (hb.bd _ hk) hB) (fun k hk => abs_mul (ha.bd _ (place_lt hr hk)) (hb.bd _ hk)) hKM)
  refine ⟨_, _, by unfold appM; rw [if_pos ⟨by rw [hb.len], chk_ok (by omega) (by omega) ha.len⟩]; simp only [Int.toNat_natCast]; rw [e], ?_⟩
  refine Wh.of fun r hr => ?_
  have := sumN_bd (f := fun k => α (r * K + k) * β k) (M := A * B) K fun k hk => abs_mul (ha.bd _ (place_lt hr hk)) (hb.bd _ hk)
  have k5 := Nat.mul_le_mul_right (A * B) hK.2
  omega
theorem mapG_calm {g : Bool → Int → Int → Int × Bool} {a b : List Int} {f : Nat → Int} (i : Bool) (n : Nat) (h : ∀ j x, x < n → g j (a.getD x 0) (b.getD x 0) = (f x, j)) : mapG g i a b n = ((List.range n).map f, i) := by
  induction n with
  | zero => rfl
  | succ n ih =>
    have e : mapG g i a b (n + 1) = ((mapG g i a b n).1 ++ [(g (mapG g i a b n).2 (a.getD n 0) (b.getD n 0)).1], (g (mapG g i a b n).2 (a.getD n 0) (b.getD n 0)).2) := rfl
    rw [e, ih (fun j x hx => h j x (by omega)), h _ n (by omega), List.range_succ, List.map_append]
    rfl
theorem gSum_wh (j : Bool) {x y : Int} (hx : x.natAbs ≤ 1000000000) (hy : y.natAbs ≤ 1000000000) : gSum j (x * 4294967296) (y * 4294967296) = ((x + y) * 4294967296, j) := by
  unfold gSum
  show acc opAdd (acc opAdd (0, j) (x * 4294967296)) (y * 4294967296) = _
  unfold acc
  rw [opAdd_0' (inF_wh (by omega)), opAdd_wh (by omega) (by omega) (by omega)]
  simp only [Bool.or_false]
theorem sum_wh {R C A B M : Nat} (hR : 1 ≤ R ∧ R ≤ 5) (hC : 1 ≤ C ∧ C ≤ 5) {a b : List Int} {α β : Nat → Int} (ha : Wh a (R * C) α A) (hb : Wh b (R * C) β B) (hA : A ≤ 1000000000) (hB : B ≤ 1000000000) (hM : A + B ≤ M) (c : Int) :
    ∃ X d, pairM gSum 2 R C a R C b false c = (((R : Int), (C : Int), X, 0), false, d) ∧ Wh X (R * C) (fun x => α x + β x) M := by
  have e := mapG_calm (g := gSum) (a := a) (b := b) (f := fun x => (α x + β x) * 4294967296) false (R * C) (fun j x hx => by
    rw [ha.at_ x hx, hb.at_ x hx]
    have := ha.bd x hx
    have := hb.bd x hx
    exact gSum_wh j (by omega) (by omega))
  refine ⟨_, _, by unfold pairM; rw [if_pos ⟨rfl, rfl, chk_ok (by omega) (by omega) ha.len, chk_ok (by omega) (by omega) hb.len⟩, ha.len, e], ?_⟩
  refine Wh.of fun x hx => ?_
  have := ha.bd x hx
  have := hb.bd x hx
  omega
/-- A product of three, in either order. -/
theorem assoc_N (α β γ : Nat → Int) (K J S r s : Nat) (hs : s < S) :
    sumN (fun j => sumN (fun k => α ((r * J + j) / J * K + k) * β (k * J + (r * J + j) % J)) K * γ (j * S + s)) J = sumN (fun k => α (r * K + k) * sumN (fun j => β ((k * S + s) / S * J + j) * γ (j * S + (k * S + s) % S)) J) K := by
  have e1 : sumN (fun j => sumN (fun k => α ((r * J + j) / J * K + k) * β (k * J + (r * J + j) % J)) K * γ (j * S + s)) J = sumN (fun j => sumN (fun k => α (r * K + k) * β (k * J + j) * γ (j * S + s)) K) J :=
    sumN_congr J fun j hj => by rw [place_div hj, place_mod hj, sumN_mulR]
  have e2 : sumN (fun k => α (r * K + k) * sumN (fun j => β ((k * S + s) / S * J + j) * γ (j * S + (k * S + s) % S)) J) K = sumN (fun k => sumN (fun j => α (r * K + k) * β (k * J + j) * γ (j * S + s)) J) K :=
    sumN_congr K fun k hk => by
      rw [place_div hs, place_mod hs, sumN_mulL]
      exact sumN_congr J fun j _ => (Int.mul_assoc _ _ _).symm
  rw [e1, e2, sumN_swap]
theorem assoc_V (α β ξ : Nat → Int) (K J r : Nat) :
    sumN (fun k => α (r * K + k) * sumN (fun j => β (k * J + j) * ξ j) J) K = sumN (fun j => sumN (fun k => α ((r * J + j) / J * K + k) * β (k * J + (r * J + j) % J)) K * ξ j) J := by
  have e1 : sumN (fun j => sumN (fun k => α ((r * J + j) / J * K + k) * β (k * J + (r * J + j) % J)) K * ξ j) J = sumN (fun j => sumN (fun k => α (r * K + k) * β (k * J + j) * ξ j) K) J :=
    sumN_congr J fun j hj => by rw [place_div hj, place_mod hj, sumN_mulR]
  have e2 : sumN (fun k => α (r * K + k) * sumN (fun j => β (k * J + j) * ξ j) J) K = sumN (fun k => sumN (fun j => α (r * K + k) * β (k * J + j) * ξ j) J) K :=
    sumN_congr K fun k hk => by
      rw [sumN_mulL]
      exact sumN_congr J fun j _ => (Int.mul_assoc _ _ _).symm
  rw [e1, e2, sumN_swap]
theorem rowR_1 {J : Nat} (hJ : 1 ≤ J ∧ J ≤ 5) {x : List Int} (hx : x.length = 1 * J) : rowR 1 J x 0 = (x, 0) := by
  have hc : chk ((1 : Nat) : Int) J x.length = 0 := chk_ok (by omega) (by omega) hx
  unfold rowR
  rw [if_pos ⟨hc, by omega, by omega⟩]
  have : rowL x J 0 = x := by unfold rowL; rw [Nat.zero_mul, List.drop_zero]; exact List.take_of_length_le (by omega)
  simp only [Int.toNat_natCast, Int.toNat_zero]
  rw [this]
/-- All that MatWhole reckons. -/
theorem whole_law {R K J S : Nat} (hR : 1 ≤ R ∧ R ≤ 5) (hK : 1 ≤ K ∧ K ≤ 5) (hJ : 1 ≤ J ∧ J ≤ 5) (hS : 1 ≤ S ∧ S ≤ 5) {a b c d x : List Int} {α β γ δ ξ : Nat → Int}
    (ha : Wh a (R * K) α 20) (hb : Wh b (K * J) β 20) (hc : Wh c (J * S) γ 20) (hd : Wh d (K * J) δ 20) (hx : Wh x (1 * J) ξ 20) :
    ∃ AB LR BC SM WP AD BX Y d1 d2 d3 d4 d5 d6 d7 d8 d9 d10 d11,
      (mulM R K a K J b false 0 = (((R : Int), (J : Int), AB, 0), false, d1) ∧ mulM R J AB J S c false d1 = (((R : Int), (S : Int), LR, 0), false, d2) ∧ mulM K J b J S c false d2 = (((K : Int), (S : Int), BC, 0), false, d3) ∧ mulM R K a K S BC false d3 = (((R : Int), (S : Int), LR, 0), false, d4)) ∧
      (pairM gSum 2 K J b K J d false d4 = (((K : Int), (J : Int), SM, 0), false, d5) ∧ mulM R K a K J SM false d5 = (((R : Int), (J : Int), WP, 0), false, d6) ∧ mulM R K a K J d false d6 = (((R : Int), (J : Int), AD, 0), false, d7) ∧ pairM gSum 2 R J AB R J AD false d7 = (((R : Int), (J : Int), WP, 0), false, d8)) ∧
      (rowR 1 J x 0 = (x, 0) ∧ appM K J b x false d8 = ((BX, 0), false, d9) ∧ appM R K a BX false d9 = ((Y, 0), false, d10) ∧ appM R J AB x false d10 = ((Y, 0), false, d11)) ∧
      (AllI AB ∧ AllI BC ∧ AllI SM ∧ AllI AD ∧ AllI BX ∧ AllI a ∧ AllI b ∧ AllI c ∧ AllI d ∧ AllI x) := by
  obtain ⟨AB, d1, e1, wAB⟩ := mul_wh (M := 2000) hR hK hJ ha hb (by omega) (by omega) (by omega) (by omega) 0
  obtain ⟨L, d2, e2, wL⟩ := mul_wh (M := 200000) hR hJ hS wAB hc (by omega) (by omega) (by omega) (by omega) d1
  obtain ⟨BC, d3, e3, wBC⟩ := mul_wh (M := 2000) hK hJ hS hb hc (by omega) (by omega) (by omega) (by omega) d2
  obtain ⟨R', d4, e4, wR⟩ := mul_wh (M := 200000) hR hK hS ha wBC (by omega) (by omega) (by omega) (by omega) d3
  obtain rfl : L = R' := wL.eq wR fun y hy => assoc_N α β γ K J S (y / S) (y % S) (Nat.mod_lt _ (by omega))
  obtain ⟨SM, d5, e5, wSM⟩ := sum_wh (M := 40) hK hJ hb hd (by omega) (by omega) (by omega) d4
  obtain ⟨WP, d6, e6, wWP⟩ := mul_wh (M := 4000) hR hK hJ ha wSM (by omega) (by omega) (by omega) (by omega) d5
  obtain ⟨AD, d7, e7, wAD⟩ := mul_wh (M := 2000) hR hK hJ ha hd (by omega) (by omega) (by omega) (by omega) d6
  obtain ⟨PT, d8, e8, wPT⟩ := sum_wh (M := 4000) hR hJ wAB wAD (by omega) (by omega) (by omega) d7
  obtain rfl : WP = PT := wWP.eq wPT fun y hy => by
    show sumN _ K = sumN _ K + sumN _ K
    rw [← sumN_add]
    exact sumN_congr K fun k _ => Int.mul_add _ _ _
  have wx : Wh x J ξ 20 := by rw [Nat.one_mul] at hx; exact hx
  obtain ⟨BX, d9, e9, wBX⟩ := app_wh (M := 2000) hK hJ hb wx (by omega) (by omega) (by omega) (by omega) d8
  obtain ⟨Y, d10, e10, wY⟩ := app_wh (M := 200000) hR hK ha wBX (by omega) (by omega) (by omega) (by omega) d9
  obtain ⟨Y', d11, e11, wY'⟩ := app_wh (M := 200000) hR hJ wAB wx (by omega) (by omega) (by omega) (by omega) d10
  obtain rfl : Y = Y' := wY.eq wY' fun r hr => assoc_V α β ξ K J r
  exact ⟨AB, L, BC, SM, WP, AD, BX, Y, d1, d2, d3, d4, d5, d6, d7, d8, d9, d10, d11, ⟨e1, e2, e3, e4⟩, ⟨e5, e6, e7, e8⟩, ⟨rowR_1 hJ hx.len, e9, e10, e11⟩,
    wAB.all (by omega), wBC.all (by omega), wSM.all (by omega), wAD.all (by omega), wBX.all (by omega), ha.all (by omega), hb.all (by omega), hc.all (by omega), hd.all (by omega), hx.all (by omega)⟩
theorem mulM_len {R J : Nat} (hR : 1 ≤ R ∧ R ≤ 5) (hJ : 1 ≤ J ∧ J ≤ 5) {R1 C1 R2 C2 : Int} {L1 L2 X : List Int} {i f : Bool} {c d : Int} (h : mulM R1 C1 L1 R2 C2 L2 i c = (((R : Int), (J : Int), X, 0), f, d)) : X.length ≤ 160 := by
  unfold mulM at h
  split at h
  · have e1 := congrArg (fun p => p.1.1) h
    have e2 := congrArg (fun p => p.1.2.1) h
    have e3 := congrArg (fun p => p.1.2.2.1) h
    simp only at e1 e2 e3
    rw [← e3, mapN_len, e1, e2, Int.toNat_natCast, Int.toNat_natCast]
    have := Nat.mul_le_mul hR.2 hJ.2
    omega
  · have e3 := congrArg (fun p => p.1.2.2.1) h
    simp only at e3
    rw [← e3]; simp
theorem appM_cnt {R1 C1 : Int} {L1 x : List Int} {i : Bool} {c : Int} {P : (List Int × Int) × Bool × Int} (hP : appM R1 C1 L1 x i c = P) : c ≤ P.2.2 ∧ P.2.2 ≤ c + 288 := by
  subst hP
  unfold appM
  split
  · rename_i h
    obtain ⟨-, k1⟩ := h
    obtain ⟨R', K', rfl, rfl, hR, hK, _⟩ := chk_yes k1
    have e : 2 * (K' : Int) * ((R' : Int).toNat : Nat) = ((2 * (K' * R') : Nat) : Int) := by
      rw [Int.toNat_natCast]; simp [Int.mul_assoc]
    have := Nat.mul_le_mul hK.2 hR.2
    simp only [e]
    omega
  · simp only []
    omega
end Go.Proofs.Ytlhadociaekkhaa
