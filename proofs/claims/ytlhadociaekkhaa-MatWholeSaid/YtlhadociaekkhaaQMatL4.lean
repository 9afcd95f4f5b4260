/- Plain laws: what is turned twice, what Eye leaves, what a product turned is. -/
import Derived.Test.YtlhadociaekkhaaQMatL2
set_option linter.unusedSimpArgs false
set_option linter.unusedVariables false
namespace Go.Proofs.Ytlhadociaekkhaa
set_option linter.unusedVariables false
set_option linter.unusedSimpArgs false
set_option maxRecDepth 100000
open Go.RowKit Go.Shelf
theorem range_get (f : Nat → Int) (n x : Nat) (h : x < n) : ((List.range n).map f).getD x 0 = f x := by simp [List.getD, h]
theorem getD_out {a : List Int} {x : Nat} (h : a.length ≤ x) : a.getD x 0 = 0 := by simp [List.getD, List.getElem?_eq_none h]
theorem list_ext {a b : List Int} (hl : a.length = b.length) (h : ∀ x, x < a.length → a.getD x 0 = b.getD x 0) : a = b := by
  apply List.ext_getElem hl
  intro x h1 h2
  have := h x h1
  simpa [List.getD, h1, h2] using this
theorem turnL_get {R C : Nat} {zs : List Int} {x : Nat} (h : x < C * R) : (turnL R C zs).getD x 0 = zs.getD ((x % R) * C + x / R) 0 := by
  unfold turnL
  exact range_get _ _ _ h
theorem place_lt {i k n m : Nat} (hi : i < n) (hk : k < m) : i * m + k < n * m := by
  have : (i + 1) * m ≤ n * m := Nat.mul_le_mul_right _ hi
  rw [Nat.succ_mul] at this
  omega
theorem place_div {i k m : Nat} (hk : k < m) : (i * m + k) / m = i := by
  rw [Nat.mul_comm, Nat.mul_add_div (by omega), Nat.div_eq_of_lt hk, Nat.add_zero]
theorem place_mod {i k m : Nat} (hk : k < m) : (i * m + k) % m = k := by
  rw [Nat.mul_comm, Nat.mul_add_mod, Nat.mod_eq_of_lt hk]
theorem turn_at {R C : Nat} {zs : List Int} {i k : Nat} (hi : i < C) (hk : k < R) : (turnL R C zs).getD (i * R + k) 0 = zs.getD (k * C + i) 0 := by
  rw [turnL_get (place_lt hi hk), place_mod hk, place_div hk]
theorem turn_turn {R C : Nat} (hR : 0 < R) (hC : 0 < C) {zs : List Int} (hl : zs.length = R * C) : turnL C R (turnL R C zs) = zs := by
  apply list_ext (by rw [turnL_len, hl])
  intro x hx
  rw [turnL_len] at hx
  have h1 : x / C < R := Nat.div_lt_of_lt_mul (by rw [Nat.mul_comm]; exact hx)
  have h2 : x % C < C := Nat.mod_lt _ hC
  rw [turnL_get hx, turn_at h2 h1, Nat.div_add_mod']
theorem rowL_get {zs : List Int} {C i k : Nat} (hk : k < C) : (rowL zs C i).getD k 0 = zs.getD (i * C + k) 0 := by
  unfold rowL
  simp [List.getD, List.getElem?_take, hk]
theorem colL_get {R C k : Nat} {zs : List Int} {r : Nat} (hr : r < R) : (colL R C k zs).getD r 0 = zs.getD (r * C + k) 0 := by
  unfold colL
  exact range_get _ _ _ hr
theorem runD_congr {p : Int × Bool} {a b a' b' : List Int} (n : Nat) (ha : ∀ k, k < n → a.getD k 0 = a'.getD k 0) (hb : ∀ k, k < n → b.getD k 0 = b'.getD k 0) : runD p a b n = runD p a' b' n := by
  induction n with
  | zero => rfl
  | succ n ih =>
    show accD (runD p a b n) _ _ = accD (runD p a' b' n) _ _
    rw [ih (fun k hk => ha k (by omega)) (fun k hk => hb k (by omega)), ha n (by omega), hb n (by omega)]
theorem opMul_comm2 (x y : Int) : opMul x y = opMul y x := by
  unfold opMul cutW
  rw [same_mul, Bool.or_comm (bad x)]
theorem runD_comm2 (p : Int × Bool) (a b : List Int) (n : Nat) : runD p a b n = runD p b a n := by
  induction n with
  | zero => rfl
  | succ n ih =>
    show accD (runD p a b n) _ _ = accD (runD p b a n) _ _
    rw [ih]
    unfold accD
    rw [opMul_comm2]
theorem opMul_1 {x : Int} (h : InF x) : opMul x 4294967296 = (x, false) := by
  unfold opMul
  rw [(mul_1 h).1, (mul_1 h).2]
theorem opMul_0 {x : Int} (h : InF x) : opMul x 0 = (0, false) := by
  unfold opMul
  rw [(mul_0 h).1, (mul_0 h).2]
theorem opAdd_0 {x : Int} (h : InF x) : opAdd x 0 = (x, false) := by
  unfold opAdd
  rw [(add_0 h).1, (add_0 h).2]
theorem inF0 : InF 0 := ⟨by omega, by omega⟩
theorem opAdd_0' {x : Int} (h : InF x) : opAdd 0 x = (x, false) := by
  unfold opAdd
  rw [addW_in inF0 h, cut_in _ inF0 h, Int.zero_add, (fitV_in h).1, (fitV_in h).2]
/-- A list by a row of Eye. -/
theorem runD_eye {j : Bool} {a e : List Int} {i n : Nat} (ha : ∀ k, k < n → InF (a.getD k 0)) (he : ∀ k, k < n → e.getD k 0 = if k = i then 4294967296 else 0) :
    runD (0, j) a e n = (if i < n then a.getD i 0 else 0, j) := by
  induction n with
  | zero => rfl
  | succ n ih =>
    show accD (runD (0, j) a e n) _ _ = _
    rw [ih (fun k hk => ha k (by omega)) (fun k hk => he k (by omega)), he n (by omega)]
    have hx := ha n (by omega)
    unfold accD
    by_cases h : n = i
    · subst h
      rw [if_pos rfl, if_neg (by omega), if_pos (by omega), opMul_1 hx, opAdd_0' hx]
      simp
    · rw [if_neg h, opMul_0 hx]
      by_cases h2 : i < n
      · rw [if_pos h2, if_pos (by omega), opAdd_0 (ha i (by omega))]
        simp
      · rw [if_neg h2, if_neg (by omega), opAdd_0 inF0]
        simp
theorem eye_at {n i k : Nat} (hi : i < n) (hk : k < n) : (diagL (oneL n)).getD (i * n + k) 0 = if i = k then 4294967296 else 0 := by
  have hl : (oneL n).length = n := by simp [oneL]
  unfold diagL
  rw [hl, range_get _ _ _ (place_lt hi hk), place_div hk, place_mod hk]
  by_cases h : i = k
  · rw [if_pos h, if_pos h]
    unfold oneL
    simp [List.getD, hi]
  · rw [if_neg h, if_neg h]
theorem eye_len (n : Nat) : (diagL (oneL n)).length = n * n := by simp [diagL, oneL]
theorem mapN_get (g : Bool → Nat → Int × Bool) (i : Bool) (n x : Nat) (h : x < n) : ∃ j, (mapN g i n).1.getD x 0 = (g j x).1 := by
  induction n with
  | zero => omega
  | succ n ih =>
    have hl := mapN_len g i n
    have e : mapN g i (n + 1) = ((mapN g i n).1 ++ [(g (mapN g i n).2 n).1], (g (mapN g i n).2 n).2) := rfl
    rw [e]
    by_cases hx : x = n
    · subst hx
      exact ⟨(mapN g i x).2, by simp [List.getD, hl]⟩
    · obtain ⟨j, hj⟩ := ih (by omega)
      have hxl : x < (mapN g i n).1.length := by omega
      exact ⟨j, by rw [← hj]; simp [List.getD, List.getElem?_append_left hxl]⟩
/-- What leaves the flag as it was, with values that hang on nothing. -/
theorem mapN_calm {g : Bool → Nat → Int × Bool} {f : Nat → Int} (i : Bool) (n : Nat) (h : ∀ j x, x < n → g j x = (f x, j)) : mapN g i n = ((List.range n).map f, i) := by
  induction n with
  | zero => rfl
  | succ n ih =>
    have e : mapN g i (n + 1) = ((mapN g i n).1 ++ [(g (mapN g i n).2 n).1], (g (mapN g i n).2 n).2) := rfl
    rw [e, ih (fun j x hx => h j x (by omega)), h _ n (by omega), List.range_succ, List.map_append]
    rfl
theorem map_self {L : List Int} {n : Nat} (h : L.length = n) : (List.range n).map (fun x => L.getD x 0) = L := by
  apply list_ext (by simp [h])
  intro x hx
  rw [range_get _ _ _ (by simpa using hx)]
theorem chk_ok {R C n : Nat} (hR : 1 ≤ R ∧ R ≤ 12) (hC : 1 ≤ C ∧ C ≤ 12) (hn : n = R * C) : chk R C n = 0 := by
  unfold chk
  rw [if_pos ⟨by omega, by omega, by rw [hn]; simp⟩]
def AllF (L : List Int) : Prop := ∀ x, x < L.length → InF (L.getD x 0)
theorem mul_eyeL {R C : Nat} (hR : 1 ≤ R ∧ R ≤ 12) (hC : 1 ≤ C ∧ C ≤ 12) {L : List Int} (hl : L.length = R * C) (i : Bool) (c : Int) :
    ∃ X f d, mulM R R (diagL (oneL R)) R C L i c = (((R : Int), (C : Int), X, 0), f, d) ∧ (AllF L → X = L ∧ f = i) := by
  refine ⟨_, _, _, by unfold mulM; rw [if_pos ⟨rfl, chk_ok hR hR (eye_len R), chk_ok hR hC hl⟩], fun hF => ?_⟩
  simp only [Int.toNat_natCast]
  have e := mapN_calm (g := gR (diagL (oneL R)) L R C) (f := fun x => L.getD x 0) i (R * C) (fun j x hx => by
    have h1 : x / C < R := Nat.div_lt_of_lt_mul (by rw [Nat.mul_comm]; exact hx)
    have h2 : x % C < C := Nat.mod_lt _ (by omega)
    unfold gR
    rw [runD_comm2, runD_eye (i := x / C) (fun k hk => by rw [colL_get hk]; exact hF _ (by rw [hl]; exact place_lt hk h2)) (fun k hk => by
      rw [rowL_get hk, eye_at h1 hk]
      by_cases h : x / C = k
      · rw [if_pos h, if_pos h.symm]
      · rw [if_neg h, if_neg (fun h' => h h'.symm)]), if_pos h1, colL_get h1, Nat.div_add_mod'])
  rw [e]
  exact ⟨map_self hl, rfl⟩
theorem mul_eyeR {R C : Nat} (hR : 1 ≤ R ∧ R ≤ 12) (hC : 1 ≤ C ∧ C ≤ 12) {L : List Int} (hl : L.length = R * C) (i : Bool) (c : Int) :
    ∃ X f d, mulM R C L C C (diagL (oneL C)) i c = (((R : Int), (C : Int), X, 0), f, d) ∧ (AllF L → X = L ∧ f = i) := by
  refine ⟨_, _, _, by unfold mulM; rw [if_pos ⟨rfl, chk_ok hR hC hl, chk_ok hC hC (eye_len C)⟩], fun hF => ?_⟩
  simp only [Int.toNat_natCast]
  have e := mapN_calm (g := gR L (diagL (oneL C)) C C) (f := fun x => L.getD x 0) i (R * C) (fun j x hx => by
    have h1 : x / C < R := Nat.div_lt_of_lt_mul (by rw [Nat.mul_comm]; exact hx)
    have h2 : x % C < C := Nat.mod_lt _ (by omega)
    unfold gR
    rw [runD_eye (i := x % C) (fun k hk => by rw [rowL_get hk]; exact hF _ (by rw [hl]; exact place_lt h1 hk)) (fun k hk => by rw [colL_get hk, eye_at hk h2]), if_pos h2, rowL_get h2, Nat.div_add_mod'])
  rw [e]
  exact ⟨map_self hl, rfl⟩
/-- A product turned is the product of both turned, exchanged. -/
theorem mul_turned {R K C : Nat} (hR : 1 ≤ R ∧ R ≤ 12) (hK : 1 ≤ K ∧ K ≤ 12) (hC : 1 ≤ C ∧ C ≤ 12) {a b : List Int} (ha : a.length = R * K) (hb : b.length = K * C) (i j : Bool) (c d : Int) :
    ∃ X f x Y g y, mulM R K a K C b i c = (((R : Int), (C : Int), X, 0), f, x) ∧ mulM C K (turnL K C b) K R (turnL R K a) j d = (((C : Int), (R : Int), Y, 0), g, y) ∧ X.length = R * C ∧ turnL R C X = Y := by
  refine ⟨_, _, _, _, _, _, by unfold mulM; rw [if_pos ⟨rfl, chk_ok hR hK ha, chk_ok hK hC hb⟩], by unfold mulM; rw [if_pos ⟨rfl, chk_ok hC hK (turnL_len _ _ _), chk_ok hK hR (turnL_len _ _ _)⟩], ?_, ?_⟩
  · simp only [Int.toNat_natCast]
    exact mapN_len _ _ _
  · simp only [Int.toNat_natCast]
    apply list_ext (by rw [turnL_len, mapN_len])
    intro x hx
    rw [turnL_len] at hx
    have h1 : x / R < C := Nat.div_lt_of_lt_mul (by rw [Nat.mul_comm]; exact hx)
    have h2 : x % R < R := Nat.mod_lt _ (by omega)
    rw [turnL_get hx]
    obtain ⟨j1, e1⟩ := mapN_get (gR a b K C) i (R * C) (x % R * C + x / R) (place_lt h2 h1)
    obtain ⟨j2, e2⟩ := mapN_get (gR (turnL K C b) (turnL R K a) K R) j (C * R) x hx
    rw [e1, e2]
    unfold gR
    rw [place_div h1, place_mod h1, runD_comm j1 j2]
    refine congrArg Prod.fst (runD_congr K (fun k hk => ?_) (fun k hk => ?_))
    · rw [colL_get hk, rowL_get hk, turn_at h1 hk]
    · rw [rowL_get hk, colL_get hk, turn_at hk h2]
theorem turnR_ok {R C : Nat} (hR : 1 ≤ R ∧ R ≤ 12) (hC : 1 ≤ C ∧ C ≤ 12) {L : List Int} (hl : L.length = R * C) : turnR R C L = ((C : Int), (R : Int), turnL R C L, 0) := by
  unfold turnR
  rw [if_pos (chk_ok hR hC hl)]
  simp only [Int.toNat_natCast]
theorem eyeR_ok {n : Nat} (h : 1 ≤ n ∧ n ≤ 12) : eyeR n = ((n : Int), (n : Int), diagL (oneL n), 0) := by
  unfold eyeR
  rw [if_pos ⟨by omega, by omega⟩]
  simp only [Int.toNat_natCast]
theorem turnR_no {R C : Int} {L : List Int} (h : ¬ chk R C L.length = 0) : turnR R C L = (0, 0, [], 3) := by unfold turnR; rw [if_neg h]
theorem turnL_all {R C : Nat} {zs : List Int} (h : AllI zs) : AllI (turnL R C zs) := fun n hn => by
  unfold turnL at hn
  obtain ⟨x, hx, rfl⟩ := List.mem_map.1 hn
  by_cases hl : x % R * C + x / R < zs.length
  · exact h.get hl
  · rw [getD_out (by omega)]; exact ⟨by omega, by omega⟩
theorem eye_all (n : Nat) : AllI (diagL (oneL n)) := fun m hm => by
  unfold diagL at hm
  obtain ⟨x, hx, rfl⟩ := List.mem_map.1 hm
  have hl : (oneL n).length = n := by simp [oneL]
  split
  · unfold oneL
    by_cases h : x / (List.replicate n (4294967296 : Int)).length < n
    · simp [List.getD, h]
      simp at h
      rw [List.getElem?_replicate, if_pos h]
      exact ⟨by simp, by simp⟩
    · rw [getD_out (by simp at h ⊢; exact h)]; exact ⟨by omega, by omega⟩
  · exact ⟨by omega, by omega⟩
theorem mulM_no {R1 C1 R2 C2 : Int} {L1 L2 : List Int} {i : Bool} {c : Int} (h : ¬(C1 = R2 ∧ chk R1 C1 L1.length = 0 ∧ chk R2 C2 L2.length = 0)) : mulM R1 C1 L1 R2 C2 L2 i c = ((0, 0, [], 3), i, c) := by unfold mulM; rw [if_neg h]
/-- Are the first k numbers above the least? -/
def fixB (L : List Int) : Nat → Bool
  | 0 => true
  | k + 1 => fixB L k && decide (-9223372036854775807 ≤ L.getD k 0)
theorem fixB_all {L : List Int} (hi : AllI L) (h : fixB L L.length = true) : AllF L := by
  have key : ∀ k, k ≤ L.length → fixB L k = true → ∀ x, x < k → -9223372036854775807 ≤ L.getD x 0 := by
    intro k
    induction k with
    | zero => intro _ _ x hx; omega
    | succ k ih =>
      intro hk h x hx
      unfold fixB at h
      rw [Bool.and_eq_true] at h
      by_cases e : x = k
      · subst e; simpa using h.2
      · exact ih (by omega) h.1 x (by omega)
  intro x hx
  have h1 := key L.length (Nat.le_refl _) h x hx
  have h2 := hi.get (k := x) hx
  exact ⟨h1, by have := h2.2; omega⟩
abbrev TurnedA (aR aC : Int) (a T E G : List Int) : Prop :=
  turnR aR aC a = (aC, aR, T, 0) ∧ turnR aC aR T = (aR, aC, a, 0) ∧ eyeR aR = (aR, aR, E, 0) ∧ eyeR aC = (aC, aC, G, 0) ∧
    (∀ i c, ∃ X f d, mulM aR aR E aR aC a i c = ((aR, aC, X, 0), f, d) ∧ (AllF a → X = a ∧ f = i)) ∧ (∀ i c, ∃ X f d, mulM aR aC a aC aC G i c = ((aR, aC, X, 0), f, d) ∧ (AllF a → X = a ∧ f = i))
theorem turned_a {aR aC : Int} {a : List Int} (h : chk aR aC a.length = 0) (hi : AllI a) : ∃ T E G, TurnedA aR aC a T E G ∧ AllI T ∧ AllI E ∧ AllI G := by
  obtain ⟨R, C, rfl, rfl, hR, hC, hz⟩ := chk_yes h
  refine ⟨turnL R C a, diagL (oneL R), diagL (oneL C), ⟨turnR_ok hR hC hz, ?_, eyeR_ok hR, eyeR_ok hC, fun i c => mul_eyeL hR hC hz i c, fun i c => mul_eyeR hR hC hz i c⟩, turnL_all hi, eye_all R, eye_all C⟩
  rw [turnR_ok hC hR (turnL_len _ _ _), turn_turn (by omega) (by omega) hz]
theorem turned_no {aR aC bR bC : Int} {a b T : List Int} (hb : ¬ chk bR bC b.length = 0) (i j : Bool) (c d : Int) :
    turnR bR bC b = (0, 0, [], 3) ∧ mulM aR aC a bR bC b i c = ((0, 0, [], 3), i, c) ∧ mulM 0 0 [] aC aR T j d = ((0, 0, [], 3), j, d) :=
  ⟨turnR_no hb, mulM_no (fun h => hb h.2.2), mulM_no (fun h => by have := h.2.1; revert this; decide)⟩
theorem turned_ne {aR aC bR bC : Int} {a b T : List Int} (hb : chk bR bC b.length = 0) (hn : ¬ aC = bR) (hi : AllI b) (i j : Bool) (c d : Int) :
    ∃ U, AllI U ∧ turnR bR bC b = (bC, bR, U, 0) ∧ mulM aR aC a bR bC b i c = ((0, 0, [], 3), i, c) ∧ mulM bC bR U aC aR T j d = ((0, 0, [], 3), j, d) := by
  obtain ⟨R, C, rfl, rfl, hR, hC, hz⟩ := chk_yes hb
  exact ⟨turnL R C b, turnL_all hi, turnR_ok hR hC hz, mulM_no (fun h => hn h.1), mulM_no (fun h => hn h.1.symm)⟩
theorem turned_ab {aR aC bR bC : Int} {a b T : List Int} (ha : chk aR aC a.length = 0) (hT : turnR aR aC a = (aC, aR, T, 0)) (hb : chk bR bC b.length = 0) (hn : aC = bR) (hi : AllI b) (i j : Bool) (c d : Int) :
    ∃ U P f x Q g y, AllI U ∧ turnR bR bC b = (bC, bR, U, 0) ∧ mulM aR aC a bR bC b i c = ((aR, bC, P, 0), f, x) ∧ mulM bC bR U aC aR T j d = ((bC, aR, Q, 0), g, y) ∧ turnR aR bC P = (bC, aR, Q, 0) := by
  subst hn
  obtain ⟨R, K, rfl, rfl, hR, hK, hz⟩ := chk_yes ha
  obtain ⟨K', C, hK', rfl, -, hC, hz2⟩ := chk_yes hb
  obtain rfl : K = K' := by omega
  rw [turnR_ok hR hK hz] at hT
  obtain rfl : turnL R K a = T := by injection hT with _ h; injection h with _ h; injection h
  obtain ⟨X, f, x, Y, g, y, e1, e2, e3, e4⟩ := mul_turned hR hK hC hz hz2 i j c d
  exact ⟨turnL K C b, X, f, x, Y, g, y, turnL_all hi, turnR_ok hK hC hz2, e1, e2, by rw [turnR_ok hR hC e3, e4]⟩
end Go.Proofs.Ytlhadociaekkhaa
