/- Lists of ints that are written over. -/
import Derived.Test.YtlhadociaekkhaaQVec3
namespace Go.Proofs.Ytlhadociaekkhaa
set_option linter.unusedVariables false
set_option maxRecDepth 100000
open Go.RowKit
/-- A block that is known whole. -/
def Blk (w : World) (g : Nat) (t : TypeId) (cs : Array Value) : Prop := w.heap[g]? = some (.cells cs t (0, 0))
theorem Blk.lt {w : World} {g : Nat} {t : TypeId} {cs : Array Value} (h : Blk w g t cs) : g < w.heap.size := (Array.getElem?_eq_some_iff.1 h).1
theorem Blk.cell {w : World} {g : Nat} {t : TypeId} {cs : Array Value} (h : Blk w g t cs) (i : Nat) : w.cell? ⟨g, i, none⟩ = cs[i]? := cell_of_row w g i cs t (0, 0) h
theorem Blk.mark {w : World} {g : Nat} {t : TypeId} {cs : Array Value} (h : Blk w g t cs) (i : Nat) : w.frozen? ⟨g, i, none⟩ = false := by unfold Blk at h; simp [World.frozen?, h]
theorem Blk.new (w : World) (t : TypeId) (cs : Array Value) : Blk (w.alloc (.cells cs t)) w.heap.size t cs := heap_alloc_new w _
theorem Blk.keep {w v : World} {g : Nat} {t : TypeId} {cs : Array Value} (h : Blk w g t cs) (k : Below w.heap.size w v) : Blk v g t cs := (k.block g h.lt).trans h
theorem Blk.set {w : World} {g : Nat} {t : TypeId} {cs : Array Value} (h : Blk w g t cs) (i : Nat) (u : Value) : Blk (w.setCell ⟨g, i, none⟩ u) g t (cs.setIfInBounds i u) := by
  unfold Blk at h ⊢
  simp [World.setCell, Array.getElem?_modify, h]
theorem Blk.far {w : World} {g : Nat} {t : TypeId} {cs : Array Value} (h : Blk w g t cs) {b i : Nat} (hb : g ≠ b) (u : Value) : Blk (w.setCell ⟨b, i, none⟩ u) g t cs := (Below.heap_setCell w ⟨b, i, none⟩ u g hb).trans h
theorem OwnK.some {V w : World} {E : TypeId} {k : IntKind} {A : Option Addr} {n c : Nat} {zs : List Int} (h : OwnK V w E k (.slice A n c) zs) (h0 : 0 < zs.length) :
    ∃ g, A = Option.some ⟨g, 0, none⟩ ∧ V.heap.size ≤ g ∧ g < w.heap.size ∧ n = zs.length ∧ zs.length ≤ c ∧ c ≤ 9223372036854775807 := by
  have hr := h.rs
  rcases h.2 with ⟨h1, h2⟩ | ⟨g, cap, cur, h1, hg, hh, h3, h4, h5, h6⟩
  · omega
  · obtain ⟨rfl, rfl, rfl⟩ : A = Option.some ⟨g, 0, none⟩ ∧ n = zs.length ∧ c = cap := by simpa using h1
    exact ⟨g, rfl, hg, (Array.getElem?_eq_some_iff.1 hh).1, rfl, h3, hr.top⟩
theorem iOverNil (A : Option Addr) (c : Nat) (w : World) : Calls Try.prog 34 #[.slice A 0 c] w fun e w' => e = .returned (.tuple #[]) ∧ Below w.heap.size w w' := by
  go_enter Try.func34, Try.ntmps34
  go_wp2_with fail
  go_loop [2] (fun s2 => s2 = .int .i64 0) (fun _ => 0)
  case atStart => rfl
  case round =>
    obtain rfl := hrel
    go_wp2_with fail
    go_end0
    exact ⟨rfl, Below.refl _ _⟩
theorem iOver {V w : World} {A : Option Addr} {n c : Nat} {L : List Int} (hV : Below V.heap.size V w) (ho : OwnI V w (.slice A n c) L) :
    Calls Try.prog 34 #[.slice A n c] w fun e w' => e = .returned (.tuple #[]) ∧ Below V.heap.size V w' := by
  by_cases h0 : 0 < L.length
  · have hr := ho.rs
    obtain ⟨g, rfl, hg, hgl, rfl, hc, ht⟩ := ho.some h0
    obtain ⟨cs, hb, hcs⟩ : ∃ cs, Blk w g 3 cs ∧ ∀ j, j < L.length → cs[j]? = some (.int .i64 (L.getD j 0)) := by
      rcases ho.2 with ⟨h1, _⟩ | ⟨g', cap, cur, h1, hg', hh, h3⟩
      · cases h1
      · obtain ⟨rfl, rfl⟩ : g = g' ∧ c = cap := by simpa using h1
        refine ⟨cur, hh, fun j hj => ?_⟩
        obtain ⟨b, o, e, hb, hrow⟩ := hr.at_ h0
        obtain ⟨rfl, rfl⟩ : g = b ∧ 0 = o := by simpa using e
        rw [← hrow j hj, Nat.zero_add]
        exact (Blk.cell (t := 3) hh j).symm
    have hll : L.length ≤ 9223372036854775807 := by omega
    have HB := Lib.hid hb
    have HC := Lib.hid hcs
    have HV := Lib.hid hV
    clear hr ho hb hcs hV
    go_enter Try.func34, Try.ntmps34
    go_wp2_with fail
    go_loopg [2] L.length (fun gg s2 wr => ∃ (k : Nat) (ds : Array Value), k ≤ L.length ∧ L.length ≤ gg + k ∧ s2 = .int .i64 k ∧ Below V.heap.size V wr ∧ Blk wr g 3 ds ∧ ∀ j, k ≤ j → j < L.length → ds[j]? = some (.int .i64 (L.getD j 0)))
    case atStart => exact ⟨0, cs, by omega, by omega, rfl, HV.out, HB.out, fun j _ hj => HC.out j hj⟩
    case round =>
      obtain ⟨k, ds, hk, hgg, rfl, hV, hb, hcs⟩ := hrel
      by_cases hlt : k < L.length
      · have hcell := hb.cell k
        rw [hcs k (Nat.le_refl _) hlt] at hcell
        have hmark := hb.mark k
        obtain ⟨x, hx⟩ : ∃ x, L.getD k 0 = x := ⟨_, rfl⟩
        rw [hx] at hcell
        have HB2 := Lib.hid hb
        have HC2 := Lib.hid hcs
        have HV2 := Lib.hid hV
        clear hb hcs hV hx
        go_wp2_with fail
        go_roundg (L.length - (k + 1))
        case measure => omega
        case rel =>
          refine ⟨k + 1, _, by omega, by omega, by go_num, HV2.out.setCell (by exact hg) _, HB2.out.set k _, fun j h1 h2 => ?_⟩
          rw [Array.getElem?_setIfInBounds, if_neg (by omega)]
          exact HC2.out j (by omega) h2
      · obtain rfl : k = L.length := by omega
        clear hcs
        have HV2 := Lib.hid hV
        clear hV
        go_wp2_with fail
        go_end0
        exact ⟨rfl, HV2.out⟩
  · obtain rfl : L = [] := List.length_eq_zero_iff.1 (by omega)
    have hr := ho.rs
    obtain rfl := hr.len
    exact (iOverNil A c w).mono fun e w' ⟨h1, h2⟩ => ⟨h1, hV.trans (h2.mono hV.size)⟩
end Go.Proofs.Ytlhadociaekkhaa
