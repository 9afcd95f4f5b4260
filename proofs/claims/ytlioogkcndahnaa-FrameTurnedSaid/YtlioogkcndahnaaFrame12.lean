/- What is put is got; what is got is put as it was. -/
import Derived.Test.YtlioogkcndahnaaFrame11
namespace Go.Proofs.Ytlioogkcndahnaa
set_option linter.unusedVariables false
set_option maxRecDepth 100000
open Go.RowKit
theorem put_form (f : Nat → Nat) (L : List Int) : putL f L = 126 :: (L.length : Int) / 256 :: (L.length : Int) % 256 :: (L ++ tailI (sumv f (nn (inner L)))) := rfl
theorem gN_put (f : Nat → Nat) (L M : List Int) : gN (putL f L ++ M) = L.length := by
  rw [put_form]
  simp only [gN, List.cons_append, List.getD_cons_succ, List.getD_cons_zero]
  omega
theorem get_put (f : Nat → Nat) {L : List Int} (h0 : 0 < L.length) (h1 : L.length ≤ 1000) (M : List Int) : gE f (putL f L ++ M) = 0 ∧ body (putL f L ++ M) = L := by
  have hn := gN_put f L M
  have hlen : (putL f L ++ M).length = L.length + 7 + M.length := by rw [List.length_append, putL_len]
  have hs : sumOk f (putL f L ++ M) = true := by
    unfold sumOk
    rw [hn, put_form]
    simp only [List.cons_append, List.drop_succ_cons, List.drop_zero, List.append_assoc]
    have e1 : ((L.length : Int) / 256 :: (L.length : Int) % 256 :: (L ++ (tailI (sumv f (nn (inner L))) ++ M))).take (L.length + 2) = inner L := by
      simp only [List.take_succ_cons, List.take_left']
      rfl
    rw [e1]
    have e2 : (L ++ (tailI (sumv f (nn (inner L))) ++ M)).drop L.length = tailI (sumv f (nn (inner L))) ++ M := List.drop_left' rfl
    rw [e2, List.take_left' (tailI_len _)]
    simp
  refine ⟨?_, ?_⟩
  · unfold gE
    rw [hn, hlen, if_neg (by omega), if_neg (by rw [put_form]; simp), if_neg (by omega), if_neg (by omega), if_neg (by omega), if_pos hs]
  · unfold body
    rw [hn, put_form]
    simp only [List.cons_append, List.drop_succ_cons, List.drop_zero, List.append_assoc]
    exact List.take_left' rfl
theorem get_short (f : Nat → Nat) {L : List Int} (h0 : 0 < L.length) (h1 : L.length ≤ 1000) : gE f ((putL f L).take (L.length + 6)) = 15 := by
  have hlen : ((putL f L).take (L.length + 6)).length = L.length + 6 := by rw [List.length_take, putL_len]; omega
  have hn : gN ((putL f L).take (L.length + 6)) = L.length := by
    rw [put_form, show L.length + 6 = L.length + 3 + 1 + 1 + 1 by omega]
    simp only [List.take_succ_cons, gN, List.getD_cons_succ, List.getD_cons_zero]
    omega
  have h126 : ((putL f L).take (L.length + 6)).getD 0 0 = 126 := by
    rw [put_form, show L.length + 6 = L.length + 5 + 1 by omega]; rfl
  unfold gE
  rw [hlen, hn, if_neg (by omega), if_neg (by rw [h126]; simp), if_neg (by omega), if_neg (by omega), if_pos (by omega)]
theorem put_get {f : Nat → Nat} {O : List Int} (hO : AllB O) (h : gE f O = 0) : putL f (body O) = O.take (gN O + 7) ∧ (body O).length = gN O := by
  obtain ⟨h1, h2, h3, h4, h5, h6, h7⟩ := gE_ok h
  have := whole_eq f hO h2 h6
  rw [h7] at this
  refine ⟨by simpa using this.symm, ?_⟩
  unfold body; simp; omega
end Go.Proofs.Ytlioogkcndahnaa
