/- Lists of ints side by side. -/
import Derived.Test.YtlhadociaekkhaaQVec2
namespace Go.Proofs.Ytlhadociaekkhaa
set_option linter.unusedVariables false
set_option maxRecDepth 100000
open Go.RowKit
theorem OwnK.sl {V w : World} {A : Option Addr} {n c : Nat} {zs : List Int} (h : OwnI V w (.slice A n c) zs) {B : Nat} (hB : B < V.heap.size) (hl : zs.length ≤ 4611686018427387904) : SL w B (.slice A n c) zs := by
  have hr := h.rs
  obtain rfl := hr.len
  refine ⟨A, c, rfl, hl, fun h0 => ?_⟩
  obtain ⟨b, o, e, hb, hrow⟩ := hr.at_ h0
  have := (h.far (b := 0) (o := 0) (s := none) b o e).1
  exact ⟨b, o, e, by omega, hb, hrow⟩
theorem SL.rs {w : World} {B : Nat} {A : Option Addr} {n c : Nat} {zs : List Int} (h : SL w B (.slice A n c) zs) (hc : n ≤ c) (ht : c ≤ 9223372036854775807) (hn : A = none → c = 0) : RS .i64 w A n c zs := by
  obtain ⟨A', c', e, hl, hr⟩ := h
  obtain ⟨rfl, rfl, rfl⟩ : A = A' ∧ n = zs.length ∧ c = c' := by simpa using e
  refine ⟨rfl, hc, ht, hn, fun h0 => ?_⟩
  obtain ⟨b, o, e, -, hb, hrow⟩ := hr h0
  exact ⟨b, o, e, hb, hrow⟩
theorem RS.sl {w : World} {B : Nat} {A : Option Addr} {n c : Nat} {zs : List Int} (h : RS .i64 w A n c zs) (hB : ∀ b o, A = some ⟨b, o, none⟩ → b ≠ B) (hl : n ≤ 4611686018427387904) : SL w B (.slice A n c) zs := by
  obtain rfl := h.len
  refine ⟨A, c, rfl, hl, fun h0 => ?_⟩
  obtain ⟨b, o, e, hb, hrow⟩ := h.at_ h0
  exact ⟨b, o, e, hB b o e, hb, hrow⟩
theorem ownI_empty (w : World) (B : Nat) (h : B = w.heap.size) : OwnI w (w.alloc (.cells #[] 3)) (.slice (some ⟨B, 0, none⟩) 0 0) [] := OwnK.lit w w .i64 [] #[] _ rfl (Nat.le_refl _) 0 rfl (by omega) 0 rfl _ h
theorem iCopy {A : Option Addr} {n c : Nat} {L : List Int} {w : World} (hr : RS .i64 w A n c L) (hn : L.length ≤ 8796093022208) :
    Calls Try.prog 15 #[.slice A n c] w fun e w' => ∃ A' c', e = .returned (.slice A' L.length c') ∧ OwnI w w' (.slice A' L.length c') L ∧ Below w.heap.size w w' := by
  have HR := Lib.hid hr
  obtain rfl := hr.len
  clear hr
  go_enter Try.func15, Try.ntmps15
  go_wp2_with ((at_builtin; refine append_i (by rfl) _ _ (by rfl) w (by rfl) (by rfl) ?_ (ownI_empty w _ ?_) (HR.out.keep ?_) ?_ ?_; (focus ((first | ((repeat (first | assumption | exact Below.refl _ _ | with_reducible refine past_t _ ?_ | with_reducible refine below_a _ ?_ | with_reducible refine Below.drew ?_ | with_reducible refine below_d _ ?_ | (with_reducible refine Below.setCell ?_ (by (show _ ≤ _; repeat (first | exact Nat.le_refl _ | assumption | (omega; done) | with_reducible exact le_past (Nat.le_refl _) | with_reducible refine le_past ?_ | with_reducible refine le_al ?_ | with_reducible refine le_set ?_ | with_reducible refine le_p1 ?_))) _))); done) | (with_reducible rfl; done) | omega | (rfl; done) | (simp; done) | (simp [go_sem]; done) | (simp; omega) | (simp [go_sem]; omega)); done)); (focus ((first | ((repeat (first | assumption | exact Below.refl _ _ | with_reducible refine past_t _ ?_ | with_reducible refine below_a _ ?_ | with_reducible refine Below.drew ?_ | with_reducible refine below_d _ ?_ | (with_reducible refine Below.setCell ?_ (by (show _ ≤ _; repeat (first | exact Nat.le_refl _ | assumption | (omega; done) | with_reducible exact le_past (Nat.le_refl _) | with_reducible refine le_past ?_ | with_reducible refine le_al ?_ | with_reducible refine le_set ?_ | with_reducible refine le_p1 ?_))) _))); done) | (with_reducible rfl; done) | omega | (rfl; done) | (simp; done) | (simp [go_sem]; done) | (simp; omega) | (simp [go_sem]; omega)); done)); (focus ((first | ((repeat (first | assumption | exact Below.refl _ _ | with_reducible refine past_t _ ?_ | with_reducible refine below_a _ ?_ | with_reducible refine Below.drew ?_ | with_reducible refine below_d _ ?_ | (with_reducible refine Below.setCell ?_ (by (show _ ≤ _; repeat (first | exact Nat.le_refl _ | assumption | (omega; done) | with_reducible exact le_past (Nat.le_refl _) | with_reducible refine le_past ?_ | with_reducible refine le_al ?_ | with_reducible refine le_set ?_ | with_reducible refine le_p1 ?_))) _))); done) | (with_reducible rfl; done) | omega | (rfl; done) | (simp; done) | (simp [go_sem]; done) | (simp; omega) | (simp [go_sem]; omega)); done)); (focus ((first | ((repeat (first | assumption | exact Below.refl _ _ | with_reducible refine past_t _ ?_ | with_reducible refine below_a _ ?_ | with_reducible refine Below.drew ?_ | with_reducible refine below_d _ ?_ | (with_reducible refine Below.setCell ?_ (by (show _ ≤ _; repeat (first | exact Nat.le_refl _ | assumption | (omega; done) | with_reducible exact le_past (Nat.le_refl _) | with_reducible refine le_past ?_ | with_reducible refine le_al ?_ | with_reducible refine le_set ?_ | with_reducible refine le_p1 ?_))) _))); done) | (with_reducible rfl; done) | omega | (rfl; done) | (simp; done) | (simp [go_sem]; done) | (simp; omega) | (simp [go_sem]; omega)); done)); intro A1 c1 z1 ho1; (try simp only [List.nil_append, List.length_nil, Nat.zero_add] at ho1 ⊢)))
  go_ret
  exact ⟨A1, c1, by simp, by simpa using ho1, past_below _ _⟩
theorem iSameLen (A B : Option Addr) (n c m d : Nat) (h : n ≠ m) (hn : n ≤ 9223372036854775807) (hm : m ≤ 9223372036854775807) (w : World) :
    Calls Try.prog 21 #[.slice A n c, .slice B m d] w fun e w' => e = .returned (.bool false) ∧ Below w.heap.size w w' := by
  have d1 : (((n : Nat) : Int) != ((m : Nat) : Int)) = true := by simp; omega
  go_enter Try.func21, Try.ntmps21
  go_wp2_with fail
  go_ret
  exact ⟨rfl, Below.refl _ _⟩
theorem iSame0 (A B : Option Addr) (c d : Nat) (w : World) :
    Calls Try.prog 21 #[.slice A 0 c, .slice B 0 d] w fun e w' => e = .returned (.bool true) ∧ Below w.heap.size w w' := by
  go_enter Try.func21, Try.ntmps21
  go_wp2_with fail
  go_loop [5] (fun s5 => s5 = .int .i64 0) (fun _ => 0)
  case atStart => rfl
  case round =>
    obtain rfl := hrel
    go_wp2_with fail
    go_ret
    exact ⟨rfl, Below.refl _ _⟩
theorem iSameN {A B : Option Addr} {n c d : Nat} {L K : List Int} {w : World} (hr : RS .i64 w A n c L) (hs : RS .i64 w B n d K) (h0 : 0 < n) :
    Calls Try.prog 21 #[.slice A n c, .slice B n d] w fun e w' => e = .returned (.bool (decide (L = K))) ∧ Below w.heap.size w w' := by
  obtain ⟨b1, o1, rfl, hb1, hr1⟩ := hr.at_ h0
  obtain ⟨b2, o2, rfl, hb2, hr2⟩ := hs.at_ h0
  have hl1 := hr.len
  have hl2 := hs.len
  have hcap := hr.cap
  have htop := hr.top
  have hn : n ≤ 9223372036854775807 := by omega
  have d1 : (((n : Nat) : Int) != ((n : Nat) : Int)) = false := by simp
  have HR1 := Lib.hid hr1
  have HR2 := Lib.hid hr2
  have HL1 := Lib.hid hl1
  have HL2 := Lib.hid hl2
  clear hr hs hr1 hr2 hl1 hl2 hcap htop
  go_enter Try.func21, Try.ntmps21
  go_wp2_with fail
  go_loopg [5] n (fun g s13 wr => ∃ k : Nat, k ≤ n ∧ n ≤ g + k ∧ s13 = .int .i64 k ∧ (∀ j, j < k → L.getD j 0 = K.getD j 0) ∧ ∃ z, wr = past w z)
  case atStart => exact ⟨0, by omega, by omega, rfl, fun j hj => absurd hj (by omega), _, past_of (Below.refl _ _)⟩
  case round =>
    obtain ⟨k, hk, hg, rfl, hall, z, rfl⟩ := hrel
    have HA := Lib.hid hall
    clear hall
    by_cases hlt : k < n
    · have c1 := HR1.out k (by have := HL1.out; omega)
      have c2 := HR2.out k (by have := HL2.out; omega)
      obtain ⟨x, hx⟩ : ∃ x, L.getD k 0 = x := ⟨_, rfl⟩
      obtain ⟨y, hy⟩ : ∃ y, K.getD k 0 = y := ⟨_, rfl⟩
      rw [hx] at c1
      rw [hy] at c2
      have HX := Lib.hid hx
      have HY := Lib.hid hy
      clear hx hy
      by_cases hxy : x = y
      · subst hxy
        have d2 : (x != x) = false := by simp
        go_wp2_with fail
        (first | refine region_past2 (by kernel_rfl) (by kernel_rfl) ?_ | refine region_past (by kernel_rfl) (by kernel_rfl) ?_)
        repeat (go_big_quiet_step (fail))
        refine wpQuiet_nil ?_; rintro _ ⟨y, rfl⟩
        go_wp2_with fail
        go_roundg (n - (k + 1))
        case measure => omega
        case rel =>
          refine ⟨k + 1, by omega, by omega, by go_num, fun j hj => ?_, _, rfl⟩
          by_cases hj2 : j = k
          · subst hj2; rw [HX.out, HY.out]
          · exact HA.out j (by omega)
      · have d2 : (x != y) = true := by simpa using hxy
        have hne : decide (L = K) = false := by
          simp only [decide_eq_false_iff_not]
          intro e
          apply hxy
          rw [← HX.out, ← HY.out, e]
        have HNE := Lib.hid hne
        clear hxy hne
        go_wp2_with fail
        (first | refine region_past2 (by kernel_rfl) (by kernel_rfl) ?_ | refine region_past (by kernel_rfl) (by kernel_rfl) ?_)
        repeat (go_big_quiet_step (fail))
        refine wpQuiet_nil ?_; rintro _ ⟨y, rfl⟩
        go_wp2_with fail
        go_ret
        exact ⟨by rw [HNE.out]; rfl, past_below _ _⟩
    · obtain rfl : k = n := by omega
      have he : decide (L = K) = true := by
        simp only [decide_eq_true_eq]
        apply List.ext_getElem (by rw [← HL1.out, ← HL2.out])
        intro j h1 h2
        have := HA.out j (by have := HL1.out; omega)
        simpa [List.getD, h1, h2] using this
      have HE := Lib.hid he
      clear he
      go_wp2_with fail
      go_ret
      exact ⟨by rw [HE.out]; rfl, past_below _ _⟩
theorem iSame {A B : Option Addr} {n c m d : Nat} {L K : List Int} {w : World} (hr : RS .i64 w A n c L) (hs : RS .i64 w B m d K) :
    Calls Try.prog 21 #[.slice A n c, .slice B m d] w fun e w' => e = .returned (.bool (decide (L = K))) ∧ Below w.heap.size w w' := by
  have h1 := hr.len
  have h2 := hs.len
  by_cases hnm : n = m
  · subst hnm
    by_cases h0 : 0 < n
    · exact iSameN hr hs h0
    · obtain rfl : L = [] := List.length_eq_zero_iff.1 (by omega)
      obtain rfl : K = [] := List.length_eq_zero_iff.1 (by omega)
      obtain rfl : n = 0 := by omega
      exact iSame0 _ _ _ _ w
  · have hne : decide (L = K) = false := by
      simp only [decide_eq_false_iff_not]
      intro e; subst e; omega
    rw [hne]
    have t1 := hr.top
    have t2 := hs.top
    have t3 := hr.cap
    have t4 := hs.cap
    exact iSameLen A B n c m d hnm (by omega) (by omega) w
end Go.Proofs.Ytlhadociaekkhaa
