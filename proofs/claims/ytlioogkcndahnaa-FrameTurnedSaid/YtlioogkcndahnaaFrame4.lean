/- Lists of bytes side by side. -/
import Derived.Test.YtlioogkcndahnaaFrame3
import Derived.Lib.SliceRun
namespace Go.Proofs.Ytlioogkcndahnaa
set_option linter.unusedVariables false
set_option maxRecDepth 100000
open Go.RowKit
theorem ex_past {w w' : World} (h : Below w.heap.size w w') : ∃ z, w' = past w z := ⟨_, past_of h⟩
theorem infoU8 : (Try.prog.info? 5).map (fun i => (i.zero, i.size, i.bytes)) = some (some (.int .u8 0), 1, 1) := by kernel_rfl
abbrev OwnB (V w : World) (v : Value) (zs : List Int) : Prop := OwnK V w 5 .u8 v zs
theorem append_b {ops : Array Oper} {rest : List Oper} {o : Oper} {a : Act} {Q : Exit → Act → World → Prop} (hgd : o.guard = none) (s x : Operand)
    (ho : o.op = .call { callee := .builtin .append, args := #[s, x], argTypes := #[22, 22] })
    (V : World) {W : World} {v : Value} {zs news : List Int} {A : Option Addr} {n c : Nat} (hs : a.eval s = v) (hx : a.eval x = .slice A n c) (hV : Below V.heap.size V W) (hown : OwnB V W v zs) (hr : RS .u8 W A n c news) (hn : zs.length + news.length ≤ 17592186044416)
    (h : ∀ A' c' z, OwnB V (past V z) (.slice A' (zs.length + news.length) c') (zs ++ news) → wpList Try.prog ops Q rest (a.put o.dst (.slice A' (zs.length + news.length) c')) (past V z)) : wpList Try.prog ops Q (o :: rest) a W :=
  append_rs hgd s x ho Try.underlying22 infoU8 (by omega) V hs hx hV hown hr hn h
theorem conv_b {ops : Array Oper} {rest : List Oper} {o : Oper} {a : Act} {W : World} {Q : Exit → Act → World → Prop} (hgd : o.guard = none) (x : Operand) (ho : o.op = .convert 22 9 x)
    {A : Option Addr} {n c : Nat} {zs : List Int} (hx : a.eval x = .slice A n c) (hr : RS .u8 W A n c zs)
    (h : wpList Try.prog ops Q rest (a.put o.dst (.string (strOfNums zs))) W) : wpList Try.prog ops Q (o :: rest) a W :=
  conv_rs hgd x ho Try.underlying22 Try.underlying5 Try.underlying9 hx hr h
/-- '[]byte{}'. -/
theorem ownB_empty (w : World) : OwnB w (w.alloc (.cells #[] 5)) (.slice (some ⟨w.heap.size, 0, none⟩) 0 0) [] := OwnK.lit w w .u8 [] #[] _ rfl (Nat.le_refl _) 0 rfl (by omega) 0 rfl _ rfl
theorem kCopy {A : Option Addr} {n c : Nat} {L : List Int} {w : World} (hr : RS .u8 w A n c L) (hn : L.length ≤ 8796093022208) :
    Calls Try.prog 29 #[.slice A n c] w fun e w' => ∃ A' c', e = .returned (.slice A' L.length c') ∧ OwnB w w' (.slice A' L.length c') L ∧ Below w.heap.size w w' := by
  have HR := Lib.hid hr
  obtain rfl := hr.len
  clear hr
  go_enter Try.func29, Try.ntmps29
  go_wp2_with ((at_builtin; refine append_b (by rfl) _ _ (by rfl) w (by rfl) (by rfl) ?_ (ownB_empty w) (HR.out.keep ?_) ?_ ?_; (focus ((first | ((repeat (first | assumption | exact Below.refl _ _ | with_reducible refine past_t _ ?_ | with_reducible refine below_a _ ?_ | with_reducible refine Below.drew ?_ | with_reducible refine below_d _ ?_ | (with_reducible refine Below.setCell ?_ (by (show _ ≤ _; repeat (first | exact Nat.le_refl _ | assumption | (omega; done) | with_reducible exact le_past (Nat.le_refl _) | with_reducible refine le_past ?_ | with_reducible refine le_al ?_ | with_reducible refine le_set ?_ | with_reducible refine le_p1 ?_))) _))); done) | (with_reducible rfl; done) | omega | (rfl; done) | (simp; done) | (simp [go_sem]; done) | (simp; omega) | (simp [go_sem]; omega)); done)); (focus ((first | ((repeat (first | assumption | exact Below.refl _ _ | with_reducible refine past_t _ ?_ | with_reducible refine below_a _ ?_ | with_reducible refine Below.drew ?_ | with_reducible refine below_d _ ?_ | (with_reducible refine Below.setCell ?_ (by (show _ ≤ _; repeat (first | exact Nat.le_refl _ | assumption | (omega; done) | with_reducible exact le_past (Nat.le_refl _) | with_reducible refine le_past ?_ | with_reducible refine le_al ?_ | with_reducible refine le_set ?_ | with_reducible refine le_p1 ?_))) _))); done) | (with_reducible rfl; done) | omega | (rfl; done) | (simp; done) | (simp [go_sem]; done) | (simp; omega) | (simp [go_sem]; omega)); done)); (focus ((first | ((repeat (first | assumption | exact Below.refl _ _ | with_reducible refine past_t _ ?_ | with_reducible refine below_a _ ?_ | with_reducible refine Below.drew ?_ | with_reducible refine below_d _ ?_ | (with_reducible refine Below.setCell ?_ (by (show _ ≤ _; repeat (first | exact Nat.le_refl _ | assumption | (omega; done) | with_reducible exact le_past (Nat.le_refl _) | with_reducible refine le_past ?_ | with_reducible refine le_al ?_ | with_reducible refine le_set ?_ | with_reducible refine le_p1 ?_))) _))); done) | (with_reducible rfl; done) | omega | (rfl; done) | (simp; done) | (simp [go_sem]; done) | (simp; omega) | (simp [go_sem]; omega)); done)); intro A1 c1 z1 ho1; (try simp only [List.nil_append, List.length_nil, Nat.zero_add] at ho1 ⊢)))
  go_ret
  exact ⟨A1, c1, by simp, by simpa using ho1, past_below _ _⟩
theorem OwnK.some {V w : World} {E : TypeId} {k : IntKind} {A : Option Addr} {n c : Nat} {zs : List Int} (h : OwnK V w E k (.slice A n c) zs) (h0 : 0 < zs.length) :
    ∃ g, A = Option.some ⟨g, 0, none⟩ ∧ V.heap.size ≤ g ∧ g < w.heap.size ∧ n = zs.length ∧ zs.length ≤ c ∧ c ≤ 9223372036854775807 := by
  have hr := h.rs
  rcases h.2 with ⟨h1, h2⟩ | ⟨g, cap, cur, h1, hg, hh, h3, h4, h5, h6⟩
  · omega
  · obtain ⟨rfl, rfl, rfl⟩ : A = Option.some ⟨g, 0, none⟩ ∧ n = zs.length ∧ c = cap := by simpa using h1
    exact ⟨g, rfl, hg, (Array.getElem?_eq_some_iff.1 hh).1, rfl, h3, hr.top⟩
theorem kLent {A : Option Addr} {n c : Nat} {L : List Int} {w : World} (hr : RS .u8 w A n c L) (hn : L.length ≤ 8796093022208) :
    Calls Try.prog 19 #[.slice A n c] w fun e w' => ∃ A' c', e = .returned (.slice A' L.length c') ∧ OwnB w w' (.slice A' (L.length + 4) c') (L ++ [201, 202, 203, 204]) ∧ Below w.heap.size w w' := by
  have HR := Lib.hid hr
  obtain rfl := hr.len
  clear hr
  go_enter Try.func19, Try.ntmps19
  go_wp2_with (first | ((at_builtin; refine append_b (by rfl) _ _ (by rfl) w (by rfl) (by rfl) ?_ (ownB_empty w) (HR.out.keep ?_) ?_ ?_; (focus ((first | ((repeat (first | assumption | exact Below.refl _ _ | with_reducible refine past_t _ ?_ | with_reducible refine below_a _ ?_ | with_reducible refine Below.drew ?_ | with_reducible refine below_d _ ?_ | (with_reducible refine Below.setCell ?_ (by (show _ ≤ _; repeat (first | exact Nat.le_refl _ | assumption | (omega; done) | with_reducible exact le_past (Nat.le_refl _) | with_reducible refine le_past ?_ | with_reducible refine le_al ?_ | with_reducible refine le_set ?_ | with_reducible refine le_p1 ?_))) _))); done) | (with_reducible rfl; done) | omega | (rfl; done) | (simp; done) | (simp [go_sem]; done) | (simp; omega) | (simp [go_sem]; omega)); done)); (focus ((first | ((repeat (first | assumption | exact Below.refl _ _ | with_reducible refine past_t _ ?_ | with_reducible refine below_a _ ?_ | with_reducible refine Below.drew ?_ | with_reducible refine below_d _ ?_ | (with_reducible refine Below.setCell ?_ (by (show _ ≤ _; repeat (first | exact Nat.le_refl _ | assumption | (omega; done) | with_reducible exact le_past (Nat.le_refl _) | with_reducible refine le_past ?_ | with_reducible refine le_al ?_ | with_reducible refine le_set ?_ | with_reducible refine le_p1 ?_))) _))); done) | (with_reducible rfl; done) | omega | (rfl; done) | (simp; done) | (simp [go_sem]; done) | (simp; omega) | (simp [go_sem]; omega)); done)); (focus ((first | ((repeat (first | assumption | exact Below.refl _ _ | with_reducible refine past_t _ ?_ | with_reducible refine below_a _ ?_ | with_reducible refine Below.drew ?_ | with_reducible refine below_d _ ?_ | (with_reducible refine Below.setCell ?_ (by (show _ ≤ _; repeat (first | exact Nat.le_refl _ | assumption | (omega; done) | with_reducible exact le_past (Nat.le_refl _) | with_reducible refine le_past ?_ | with_reducible refine le_al ?_ | with_reducible refine le_set ?_ | with_reducible refine le_p1 ?_))) _))); done) | (with_reducible rfl; done) | omega | (rfl; done) | (simp; done) | (simp [go_sem]; done) | (simp; omega) | (simp [go_sem]; omega)); done)); intro A1 c1 z1 ho1; (try simp only [List.nil_append, List.length_nil, Nat.zero_add] at ho1 ⊢))) | ((at_builtin; refine append_b (by rfl) _ _ (by rfl) w (by rfl) (by rfl) ?_ (ho1.keep ?_) (RS.lit .u8 _ [201, 202, 203, 204] _ _ rfl 4 rfl (by omega) 4 rfl _ ?_) ?_ ?_; (focus ((first | ((repeat (first | assumption | exact Below.refl _ _ | with_reducible refine past_t _ ?_ | with_reducible refine below_a _ ?_ | with_reducible refine Below.drew ?_ | with_reducible refine below_d _ ?_ | (with_reducible refine Below.setCell ?_ (by (show _ ≤ _; repeat (first | exact Nat.le_refl _ | assumption | (omega; done) | with_reducible exact le_past (Nat.le_refl _) | with_reducible refine le_past ?_ | with_reducible refine le_al ?_ | with_reducible refine le_set ?_ | with_reducible refine le_p1 ?_))) _))); done) | (with_reducible rfl; done) | omega | (rfl; done) | (simp; done) | (simp [go_sem]; done) | (simp; omega) | (simp [go_sem]; omega)); done)); (focus ((first | ((repeat (first | assumption | exact Below.refl _ _ | with_reducible refine past_t _ ?_ | with_reducible refine below_a _ ?_ | with_reducible refine Below.drew ?_ | with_reducible refine below_d _ ?_ | (with_reducible refine Below.setCell ?_ (by (show _ ≤ _; repeat (first | exact Nat.le_refl _ | assumption | (omega; done) | with_reducible exact le_past (Nat.le_refl _) | with_reducible refine le_past ?_ | with_reducible refine le_al ?_ | with_reducible refine le_set ?_ | with_reducible refine le_p1 ?_))) _))); done) | (with_reducible rfl; done) | omega | (rfl; done) | (simp; done) | (simp [go_sem]; done) | (simp; omega) | (simp [go_sem]; omega)); done)); (focus ((first | ((repeat (first | assumption | exact Below.refl _ _ | with_reducible refine past_t _ ?_ | with_reducible refine below_a _ ?_ | with_reducible refine Below.drew ?_ | with_reducible refine below_d _ ?_ | (with_reducible refine Below.setCell ?_ (by (show _ ≤ _; repeat (first | exact Nat.le_refl _ | assumption | (omega; done) | with_reducible exact le_past (Nat.le_refl _) | with_reducible refine le_past ?_ | with_reducible refine le_al ?_ | with_reducible refine le_set ?_ | with_reducible refine le_p1 ?_))) _))); done) | (with_reducible rfl; done) | omega | (rfl; done) | (simp; done) | (simp [go_sem]; done) | (simp; omega) | (simp [go_sem]; omega)); done)); (focus ((first | ((repeat (first | assumption | exact Below.refl _ _ | with_reducible refine past_t _ ?_ | with_reducible refine below_a _ ?_ | with_reducible refine Below.drew ?_ | with_reducible refine below_d _ ?_ | (with_reducible refine Below.setCell ?_ (by (show _ ≤ _; repeat (first | exact Nat.le_refl _ | assumption | (omega; done) | with_reducible exact le_past (Nat.le_refl _) | with_reducible refine le_past ?_ | with_reducible refine le_al ?_ | with_reducible refine le_set ?_ | with_reducible refine le_p1 ?_))) _))); done) | (with_reducible rfl; done) | omega | (rfl; done) | (simp; done) | (simp [go_sem]; done) | (simp; omega) | (simp [go_sem]; omega)); done)); intro A2 c2 z2 ho2; (try simp only [List.length_nil, List.length_cons, Nat.zero_add, Nat.reduceAdd] at ho2 ⊢);  obtain ⟨g2, rfl, hg2, hgl2, -, hc2, ht2⟩ := ho2.some (by simp);  simp only [List.length_append] at hc2)))
  go_ret
  exact ⟨_, _, rfl, by simpa using ho2, past_below _ _⟩
theorem kSame {A B : Option Addr} {n c m d : Nat} {L K : List Int} {w : World} (hr : RS .u8 w A n c L) (hs : RS .u8 w B m d K) (hL : AllB L) (hK : AllB K) :
    Calls Try.prog 24 #[.slice A n c, .slice B m d] w fun e w' => e = .returned (.bool (decide (L = K))) ∧ Below w.heap.size w w' := by
  have HR := Lib.hid hr
  have HS := Lib.hid hs
  clear hr hs
  rw [← strOfNums_eq hL hK]
  go_enter Try.func24, Try.ntmps24
  go_wp2_with (first | (refine conv_b (by rfl) _ (by rfl) (by rfl) (HR.out) ?_) | (refine conv_b (by rfl) _ (by rfl) (by rfl) (HS.out) ?_))
  go_ret
  exact ⟨rfl, Below.refl _ _⟩
theorem kEqualLen (A B : Option Addr) (n c m d : Nat) (h : n ≠ m) (hn : n ≤ 9223372036854775807) (hm : m ≤ 9223372036854775807) (w : World) :
    Calls Try.prog 49 #[.slice A n c, .slice B m d] w fun e w' => e = .returned (.bool false) ∧ Below w.heap.size w w' := by
  have d1 : (((n : Nat) : Int) != ((m : Nat) : Int)) = true := by simp; omega
  go_enter Try.func49, Try.ntmps49
  go_wp2_with fail
  go_ret
  exact ⟨rfl, Below.refl _ _⟩
theorem kClone {A : Option Addr} {n c : Nat} {L : List Int} {w : World} (hr : RS .u8 w A n c L) (h0 : 0 < n) (hn : L.length ≤ 8796093022208) :
    Calls Try.prog 50 #[.slice A n c] w fun e w' => ∃ A' c', e = .returned (.slice A' L.length c') ∧ OwnB w w' (.slice A' L.length c') L ∧ Below w.heap.size w w' := by
  obtain ⟨b, o, rfl, hbw, hrow⟩ := hr.at_ h0
  have HR := Lib.hid hr
  obtain rfl := hr.len
  have he : ∀ W : World, (binOp .eql 22 (.slice (some ⟨b, o, none⟩) L.length c) (.slice none 0 0)).run Try.prog W = .ok (.bool false) W := fun W => by simpa using Lib.run_eql_slice_nil (P := Try.prog) W 22 5 (some ⟨b, o, none⟩) L.length c 0 0 Try.underlying22
  clear hr
  go_enter Try.func50, Try.ntmps50
  go_wp2_with ((at_builtin; refine append_b (by rfl) _ _ (by rfl) w (by rfl) (by rfl) ?_ (ownB_empty w) (HR.out.keep ?_) ?_ ?_; (focus ((first | ((repeat (first | assumption | exact Below.refl _ _ | with_reducible refine past_t _ ?_ | with_reducible refine below_a _ ?_ | with_reducible refine Below.drew ?_ | with_reducible refine below_d _ ?_ | (with_reducible refine Below.setCell ?_ (by (show _ ≤ _; repeat (first | exact Nat.le_refl _ | assumption | (omega; done) | with_reducible exact le_past (Nat.le_refl _) | with_reducible refine le_past ?_ | with_reducible refine le_al ?_ | with_reducible refine le_set ?_ | with_reducible refine le_p1 ?_))) _))); done) | (with_reducible rfl; done) | omega | (rfl; done) | (simp; done) | (simp [go_sem]; done) | (simp; omega) | (simp [go_sem]; omega)); done)); (focus ((first | ((repeat (first | assumption | exact Below.refl _ _ | with_reducible refine past_t _ ?_ | with_reducible refine below_a _ ?_ | with_reducible refine Below.drew ?_ | with_reducible refine below_d _ ?_ | (with_reducible refine Below.setCell ?_ (by (show _ ≤ _; repeat (first | exact Nat.le_refl _ | assumption | (omega; done) | with_reducible exact le_past (Nat.le_refl _) | with_reducible refine le_past ?_ | with_reducible refine le_al ?_ | with_reducible refine le_set ?_ | with_reducible refine le_p1 ?_))) _))); done) | (with_reducible rfl; done) | omega | (rfl; done) | (simp; done) | (simp [go_sem]; done) | (simp; omega) | (simp [go_sem]; omega)); done)); (focus ((first | ((repeat (first | assumption | exact Below.refl _ _ | with_reducible refine past_t _ ?_ | with_reducible refine below_a _ ?_ | with_reducible refine Below.drew ?_ | with_reducible refine below_d _ ?_ | (with_reducible refine Below.setCell ?_ (by (show _ ≤ _; repeat (first | exact Nat.le_refl _ | assumption | (omega; done) | with_reducible exact le_past (Nat.le_refl _) | with_reducible refine le_past ?_ | with_reducible refine le_al ?_ | with_reducible refine le_set ?_ | with_reducible refine le_p1 ?_))) _))); done) | (with_reducible rfl; done) | omega | (rfl; done) | (simp; done) | (simp [go_sem]; done) | (simp; omega) | (simp [go_sem]; omega)); done)); intro A1 c1 z1 ho1; (try simp only [List.nil_append, List.length_nil, Nat.zero_add] at ho1 ⊢)))
  go_ret
  exact ⟨A1, c1, by simp, by simpa using ho1, past_below _ _⟩
theorem kPick (x n : Int) (w : World) (h1 : -9223372036854775808 ≤ x) (h2 : x ≤ 9223372036854775807) (h3 : 0 < n) (h4 : n ≤ 9223372036854775807) :
    Calls Try.prog 18 #[.int .i64 x, .int .i64 n] w fun e w' => e = .returned (.int .i64 (x % n)) ∧ Below w.heap.size w w' := by
  have t1 := Int.tmod_lt_of_pos x h3
  have t2 : -n < x.tmod n := by have := Int.tmod_lt_of_pos (-x) h3; rw [Int.neg_tmod] at this; omega
  have t3 : x % n = if x.tmod n < 0 then x.tmod n + n else x.tmod n := by
    have := Int.tmod_eq_emod (a := x) (b := n)
    have e1 := Int.emod_nonneg x (show n ≠ 0 by omega)
    have e2 := Int.emod_lt_of_pos x h3
    split at this <;> split <;> omega
  go_enter Try.func18, Try.ntmps18
  go_wp2_with fail
  all_goals (go_ret; exact ⟨by rw [t3]; split <;> first | rfl | omega, Below.refl _ _⟩)
theorem kEqual {A B : Option Addr} {n c d : Nat} {L K : List Int} {w : World} (hr : RS .u8 w A n c L) (hs : RS .u8 w B n d K) (h0 : 0 < n) :
    Calls Try.prog 49 #[.slice A n c, .slice B n d] w fun e w' => e = .returned (.bool (decide (L = K))) ∧ Below w.heap.size w w' := by
  obtain ⟨b1, o1, rfl, hb1, hr1⟩ := hr.at_ h0
  obtain ⟨b2, o2, rfl, hb2, hr2⟩ := hs.at_ h0
  have hl1 := hr.len
  have hl2 := hs.len
  have hcap := hr.cap
  have htop := hr.top
  have hn : n ≤ 9223372036854775807 := by omega
  have d1 : (((n : Nat) : Int) != ((n : Nat) : Int)) = false := by simp
  have HR1 := Lib.hid hr1
  have HR2 := Lib.hid hr2
  have HL1 := Lib.hid hl1
  have HL2 := Lib.hid hl2
  clear hr hs hr1 hr2 hl1 hl2 hcap htop
  go_enter Try.func49, Try.ntmps49
  go_wp2_with fail
  go_loopg [13] n (fun g s13 wr => ∃ k : Nat, k ≤ n ∧ n ≤ g + k ∧ s13 = .int .i64 k ∧ (∀ j, j < k → L.getD j 0 = K.getD j 0) ∧ ∃ z, wr = past w z)
  case atStart => exact ⟨0, by omega, by omega, rfl, fun j hj => absurd hj (by omega), _, past_of (Below.refl _ _)⟩
  case round =>
    obtain ⟨k, hk, hg, rfl, hall, z, rfl⟩ := hrel
    have HA := Lib.hid hall
    clear hall
    by_cases hlt : k < n
    · have c1 := HR1.out k (by have := HL1.out; omega)
      have c2 := HR2.out k (by have := HL2.out; omega)
      obtain ⟨x, hx⟩ : ∃ x, L.getD k 0 = x := ⟨_, rfl⟩
      obtain ⟨y, hy⟩ : ∃ y, K.getD k 0 = y := ⟨_, rfl⟩
      rw [hx] at c1
      rw [hy] at c2
      have HX := Lib.hid hx
      have HY := Lib.hid hy
      clear hx hy
      by_cases hxy : x = y
      · subst hxy
        have d2 : (x != x) = false := by simp
        go_wp2_with fail
        (first | refine region_past2 (by kernel_rfl) (by kernel_rfl) ?_ | refine region_past (by kernel_rfl) (by kernel_rfl) ?_)
        repeat (go_big_quiet_step (fail))
        refine wpQuiet_nil ?_; rintro _ ⟨y, rfl⟩
        go_wp2_with fail
        go_roundg (n - (k + 1))
        case measure => omega
        case rel =>
          refine ⟨k + 1, by omega, by omega, by go_num, fun j hj => ?_, _, rfl⟩
          by_cases hj2 : j = k
          · subst hj2; rw [HX.out, HY.out]
          · exact HA.out j (by omega)
      · have d2 : (x != y) = true := by simpa using hxy
        have hne : decide (L = K) = false := by
          simp only [decide_eq_false_iff_not]
          intro e
          apply hxy
          rw [← HX.out, ← HY.out, e]
        have HNE := Lib.hid hne
        clear hxy hne
        go_wp2_with fail
        (first | refine region_past2 (by kernel_rfl) (by kernel_rfl) ?_ | refine region_past (by kernel_rfl) (by kernel_rfl) ?_)
        repeat (go_big_quiet_step (fail))
        refine wpQuiet_nil ?_; rintro _ ⟨y, rfl⟩
        go_wp2_with fail
        go_ret
        exact ⟨by rw [HNE.out]; rfl, past_below _ _⟩
    · obtain rfl : k = n := by omega
      have he : decide (L = K) = true := by
        simp only [decide_eq_true_eq]
        apply List.ext_getElem (by rw [← HL1.out, ← HL2.out])
        intro j h1 h2
        have := HA.out j (by have := HL1.out; omega)
        simpa [List.getD, h1, h2] using this
      have HE := Lib.hid he
      clear he
      go_wp2_with fail
      go_ret
      exact ⟨by rw [HE.out]; rfl, past_below _ _⟩
end Go.Proofs.Ytlioogkcndahnaa
