/- Bytes that are lent and kept; bytes written over. -/
import Derived.Test.YtlioogkcndahnaaFrame4
import Derived.Deep.RegionHeld3
namespace Go.Proofs.Ytlioogkcndahnaa
set_option linter.unusedVariables false
set_option maxRecDepth 100000
open Go.RowKit
theorem kOverNil (A : Option Addr) (c : Nat) (w : World) : Calls Try.prog 25 #[.slice A 0 c] w fun e w' => e = .returned (.tuple #[]) ∧ Below w.heap.size w w' := by
  go_enter Try.func25, Try.ntmps25
  go_wp2_with fail
  go_loop [2] (fun s2 => s2 = .int .i64 0) (fun _ => 0)
  case atStart => rfl
  case round =>
    obtain rfl := hrel
    go_wp2_with fail
    go_end0
    exact ⟨rfl, Below.refl _ _⟩
theorem kOver {V w : World} {A : Option Addr} {n c : Nat} {L : List Int} (hV : Below V.heap.size V w) (ho : OwnB V w (.slice A n c) L) (hL : AllB L) :
    Calls Try.prog 25 #[.slice A n c] w fun e w' => e = .returned (.tuple #[]) ∧ Below V.heap.size V w' := by
  by_cases h0 : 0 < L.length
  · have hr := ho.rs
    obtain ⟨g, rfl, hg, hgl, rfl, hc, ht⟩ := ho.some h0
    obtain ⟨cs, hb, hcs⟩ : ∃ cs, Blk w g 5 cs ∧ ∀ j, j < L.length → cs[j]? = some (.int .u8 (L.getD j 0)) := by
      rcases ho.2 with ⟨h1, _⟩ | ⟨g', cap, cur, h1, hg', hh, h3⟩
      · cases h1
      · obtain ⟨rfl, rfl⟩ : g = g' ∧ c = cap := by simpa using h1
        refine ⟨cur, hh, fun j hj => ?_⟩
        obtain ⟨b, o, e, hb, hrow⟩ := hr.at_ h0
        obtain ⟨rfl, rfl⟩ : g = b ∧ 0 = o := by simpa using e
        rw [← hrow j hj, Nat.zero_add]
        exact (Blk.cell (t := 5) hh j).symm
    have hll : L.length ≤ 9223372036854775807 := by omega
    have HB := Lib.hid hb
    have HC := Lib.hid hcs
    have HV := Lib.hid hV
    clear hr ho hb hcs hV
    go_enter Try.func25, Try.ntmps25
    go_wp2_with fail
    go_loopg [2] L.length (fun gg s2 wr => ∃ (k : Nat) (ds : Array Value), k ≤ L.length ∧ L.length ≤ gg + k ∧ s2 = .int .i64 k ∧ Below V.heap.size V wr ∧ Blk wr g 5 ds ∧ ∀ j, k ≤ j → j < L.length → ds[j]? = some (.int .u8 (L.getD j 0)))
    case atStart => exact ⟨0, cs, by omega, by omega, rfl, HV.out, HB.out, fun j _ hj => HC.out j hj⟩
    case round =>
      obtain ⟨k, ds, hk, hgg, rfl, hV, hb, hcs⟩ := hrel
      by_cases hlt : k < L.length
      · have hcell := hb.cell k
        rw [hcs k (Nat.le_refl _) hlt] at hcell
        have hmark := hb.mark k
        obtain ⟨x, hx⟩ : ∃ x, L.getD k 0 = x := ⟨_, rfl⟩
        have hxb := hL.get k hlt
        rw [hx] at hcell hxb
        have HB2 := Lib.hid hb
        have HC2 := Lib.hid hcs
        have HV2 := Lib.hid hV
        clear hb hcs hV hx
        go_wp2_with fail
        go_roundg (L.length - (k + 1))
        case measure => omega
        case rel =>
          refine ⟨k + 1, _, by omega, by omega, by go_num, HV2.out.setCell (by exact hg) _, HB2.out.set k _, fun j h1 h2 => ?_⟩
          rw [Array.getElem?_setIfInBounds, if_neg (by omega)]
          exact HC2.out j (by omega) h2
      · obtain rfl : k = L.length := by omega
        clear hcs
        have HV2 := Lib.hid hV
        clear hV
        go_wp2_with fail
        go_end0
        exact ⟨rfl, HV2.out⟩
  · obtain rfl : L = [] := List.length_eq_zero_iff.1 (by omega)
    have hr := ho.rs
    obtain rfl := hr.len
    exact (kOverNil A c w).mono fun e w' ⟨h1, h2⟩ => ⟨h1, hV.trans (h2.mono hV.size)⟩
theorem kKept {V w : World} {g n n' c m d : Nat} {B : Option Addr} {L : List Int} (ho : OwnB V w (.slice (some ⟨g, 0, none⟩) n' c) (L ++ [201, 202, 203, 204])) (hn : n = L.length) (hs : RS .u8 w B m d L) (hL : AllB L) :
    Calls Try.prog 21 #[.slice (some ⟨g, 0, none⟩) n c, .slice B m d] w fun e w' => e = .returned (.bool true) ∧ Below w.heap.size w w' := by
  obtain rfl := hs.len
  subst hn
  have hr := ho.rs
  obtain rfl := hr.len
  have hcap := hr.cap
  have htop := hr.top
  simp only [List.length_append, List.length_cons, List.length_nil, Nat.zero_add, Nat.reduceAdd] at hr hcap
  have hr1 := hr.upto L.length (by omega)
  rw [List.take_left' rfl] at hr1
  have hr2 := hr.cut L.length (L.length + 4) (by omega) (Nat.le_refl _)
  rw [List.drop_left' rfl, show L.length + 4 - L.length = 4 by omega] at hr2
  have hr2 : RS .u8 w (some ⟨g, L.length, none⟩) 4 (c - L.length) [201, 202, 203, 204] := by simpa using hr2
  have k1 : ∀ w', Below w.heap.size w w' → (convert 22 9 (.slice (some ⟨g, 0, none⟩) L.length c)).run Try.prog w' = .ok (.string (strOfNums L)) w' := fun w' k => run_conv_rs Try.prog Try.underlying22 Try.underlying5 Try.underlying9 (hr1.keep k)
  have k2 : ∀ w', Below w.heap.size w w' → (convert 22 9 (.slice B L.length d)).run Try.prog w' = .ok (.string (strOfNums L)) w' := fun w' k => run_conv_rs Try.prog Try.underlying22 Try.underlying5 Try.underlying9 (hs.keep k)
  have k3 : ∀ w', Below w.heap.size w w' → (convert 22 9 (.slice (some ⟨g, L.length, none⟩) 4 (c - L.length))).run Try.prog w' = .ok (.string (strOfNums [201, 202, 203, 204])) w' := fun w' k => run_conv_rs Try.prog Try.underlying22 Try.underlying5 Try.underlying9 (hr2.keep k)
  have d1 : (((L.length : Nat) : Int) == ((L.length : Nat) : Int)) = true := by simp
  have d2 : ((strOfNums L).toList == (strOfNums L).toList) = true := by simp
  have d3 : decide (((L.length : Nat) : Int) + 4 ≤ (c : Int)) = true := by simp; omega
  have e3 : L.length + 4 - L.length = 4 := by omega
  have nc : ¬ c = L.length := by omega
  have K1 := Lib.hid k1
  have K2 := Lib.hid k2
  have K3 := Lib.hid k3
  have hw4 : IntKind.i64.wrap ((L.length : Int) + 4) = (L.length : Int) + 4 := IntWalk.i64_in _ (by omega)
  have hp4 : (0 : Int) ≤ (L.length : Int) + 4 := by omega
  have ht4 : ((L.length : Int) + 4).toNat = L.length + 4 := by omega
  have hle4 : (L.length : Int) ≤ (L.length : Int) + 4 := by omega
  have hc4 : (L.length : Int) + 4 ≤ (c : Int) := by omega
  have hnew : ∀ W : World, (convert 22 9 (.slice (some ⟨W.heap.size, 0, none⟩) 4 4)).run Try.prog (W.alloc (.cells #[.int .u8 201, .int .u8 202, .int .u8 203, .int .u8 204] 5)) = .ok (.string (strOfNums [201, 202, 203, 204])) (W.alloc (.cells #[.int .u8 201, .int .u8 202, .int .u8 203, .int .u8 204] 5)) :=
    fun W => run_conv_rs Try.prog Try.underlying22 Try.underlying5 Try.underlying9 (RS.lit .u8 W [201, 202, 203, 204] _ _ rfl 4 rfl (by omega) 4 rfl _ rfl)
  have hnew2 : ∀ W : World, (convert 22 9 (.slice (some ⟨W.heap.size, 0, none⟩) 4 4)).run Try.prog ((W.alloc (.cells #[.int .u8 201, .int .u8 202, .int .u8 203, .int .u8 204] 5)).drew) = .ok (.string (strOfNums [201, 202, 203, 204])) ((W.alloc (.cells #[.int .u8 201, .int .u8 202, .int .u8 203, .int .u8 204] 5)).drew) :=
    fun W => run_conv_rs Try.prog Try.underlying22 Try.underlying5 Try.underlying9 ((RS.lit .u8 W [201, 202, 203, 204] _ _ rfl 4 rfl (by omega) 4 rfl _ rfl).keep (Below.refl _ _).drew)
  have b1 : Below w.heap.size w w.drew := (Below.refl _ _).drew
  have b2 : Below w.heap.size w (w.alloc (.cells #[.int .u8 201, .int .u8 202, .int .u8 203, .int .u8 204] 5)).drew := ((Below.refl _ _).alloc (Nat.le_refl _) _).drew
  have k11 := k1 _ b1
  have k12 := k1 _ b2
  have k21 := k2 _ b1
  have k22 := k2 _ b2
  have k31 := k3 _ b1
  have k32 := k3 _ b2
  have hnew2 := hnew2 w
  clear k1 k2 k3 hr hs hr1 hr2 ho hcap htop b1 b2 hnew K1 K2 K3
  go_enter Try.func21, Try.ntmps21
  go_wp2_with fail
  go_region
  all_goals (go_wp2_with fail; go_ret; exact ⟨rfl, by (repeat (first | assumption | exact Below.refl _ _ | with_reducible refine past_t _ ?_ | with_reducible refine below_a _ ?_ | with_reducible refine Below.drew ?_ | with_reducible refine below_d _ ?_ | (with_reducible refine Below.setCell ?_ (by (show _ ≤ _; repeat (first | exact Nat.le_refl _ | assumption | (omega; done) | with_reducible exact le_past (Nat.le_refl _) | with_reducible refine le_past ?_ | with_reducible refine le_al ?_ | with_reducible refine le_set ?_ | with_reducible refine le_p1 ?_))) _)))⟩)
end Go.Proofs.Ytlioogkcndahnaa
