/- What is put into a grid, as plain data: whether it may be stays; two cells in either order. -/
import Derived.Test.YtnpdpfkoghhioaaGW
namespace Go.Proofs.Ytnpdpfkoghhioaa
open Go.RowKit

theorem putL_all (L : List (List UInt8)) (i k : Nat) (c : UInt8) (m : Int) (hc : plainC c = true) (h : L.all (lineB m) = true) : (putL L i k c).all (lineB m) = true := by
  rw [List.all_eq_true] at h ⊢
  intro r hr
  obtain ⟨j, hj, rfl⟩ := List.mem_iff_getElem.1 hr
  have hj' : j < L.length := by rw [← putL_length L i k c]; exact hj
  have e := putL_row L i k c j hj'
  rw [List.getElem?_eq_getElem hj, List.getElem?_eq_getElem hj', Option.getD_some, Option.getD_some] at e
  have h0 := h _ (List.getElem_mem hj')
  rw [e]
  by_cases hij : i = j
  · rw [if_pos hij]
    unfold lineB at h0 ⊢
    simp only [Bool.and_eq_true, decide_eq_true_eq, List.length_set, List.all_eq_true] at h0 ⊢
    refine ⟨h0.1, fun x hx => ?_⟩
    rcases List.mem_or_eq_of_mem_set hx with h1 | h1
    · exact h0.2 x h1
    · rw [h1]; exact hc
  · rw [if_neg hij]; exact h0
theorem may_put (g : G) (i k : Int) (c : UInt8) : mayB (putG g i k c) = mayB g := by
  unfold putG
  by_cases h : putB g i k c = true
  · rw [if_pos h]
    have h2 := h
    unfold putB at h2
    simp only [Bool.and_eq_true] at h2
    obtain ⟨⟨⟨⟨⟨hm, _⟩, _⟩, _⟩, _⟩, hc⟩ := h2
    rw [hm]
    rw [mayB_eq] at hm ⊢
    simp only [Bool.and_eq_true] at hm ⊢
    obtain ⟨⟨⟨⟨h1, h2⟩, h3⟩, h4⟩, h5⟩ := hm
    exact ⟨⟨⟨⟨h1, by rw [putL_length]; exact h2⟩, h3⟩, h4⟩, putL_all _ _ _ _ _ hc h5⟩
  · rw [if_neg h]
theorem putG_rows (g : G) (i k : Int) (c : UInt8) : (putG g i k c).rows = g.rows ∧ (putG g i k c).cols = g.cols ∧ (putG g i k c).row = g.row ∧ (putG g i k c).col = g.col := by
  unfold putG; split <;> simp
theorem putB_put (g : G) (i k : Int) (c : UInt8) (i' k' : Int) (c' : UInt8) : putB (putG g i k c) i' k' c' = putB g i' k' c' := by
  unfold putB
  obtain ⟨h1, h2, _, _⟩ := putG_rows g i k c
  rw [may_put, h1, h2]
theorem putL_comm (L : List (List UInt8)) (i k : Nat) (c : UInt8) (i' k' : Nat) (c' : UInt8) (h : i ≠ i' ∨ k ≠ k') : putL (putL L i k c) i' k' c' = putL (putL L i' k' c') i k c := by
  apply List.ext_getElem
  · simp [putL_length]
  · intro j h1 h2
    have hj : j < L.length := by simpa [putL_length] using h1
    have g1 : ∀ (L : List (List UInt8)) (hj : j < L.length) (x : List UInt8), L[j]?.getD [] = x → L[j] = x := by
      intro L hj x hx
      rw [List.getElem?_eq_getElem hj, Option.getD_some] at hx; exact hx
    apply g1
    rw [putL_row _ _ _ _ _ (by rw [putL_length]; exact hj), putL_row _ _ _ _ _ hj]
    symm
    apply g1
    rw [putL_row _ _ _ _ _ (by rw [putL_length]; exact hj), putL_row _ _ _ _ _ hj]
    by_cases e1 : i = j
    · by_cases e2 : i' = j
      · rw [if_pos e1, if_pos e2, if_pos e2, if_pos e1]
        exact (List.set_comm _ _ (by omega))
      · rw [if_pos e1, if_neg e2, if_neg e2, if_pos e1]
    · by_cases e2 : i' = j
      · rw [if_neg e1, if_pos e2, if_pos e2, if_neg e1]
      · rw [if_neg e1, if_neg e2, if_neg e2, if_neg e1]
theorem put_yes {g : G} {i k : Int} {c : UInt8} (h : putB g i k c = true) : putG g i k c = { g with cells := putL g.cells i.toNat k.toNat c } := by unfold putG; rw [if_pos h]
theorem put_no {g : G} {i k : Int} {c : UInt8} (h : ¬ putB g i k c = true) : putG g i k c = g := by unfold putG; rw [if_neg h]
theorem putG_comm (g : G) (i k : Int) (c : UInt8) (i' k' : Int) (c' : UInt8) (h : ¬ (i = i' ∧ k = k')) : putG (putG g i k c) i' k' c' = putG (putG g i' k' c') i k c := by
  have e1 := putB_put g i k c i' k' c'
  have e2 := putB_put g i' k' c' i k c
  by_cases h1 : putB g i k c = true
  · by_cases h2 : putB g i' k' c' = true
    · rw [put_yes (e1.trans h2), put_yes (e2.trans h1), put_yes h1, put_yes h2]
      simp only
      congr 1
      apply putL_comm
      unfold putB at h1 h2
      simp only [Bool.and_eq_true, decide_eq_true_eq] at h1 h2
      omega
    · rw [put_no (by rw [e1]; exact h2), put_no h2]
  · rw [put_no h1]; exact (put_no (by rw [e2]; exact h1)).symm
theorem put_small {g : G} (h : Small g) (i k : Int) (c : UInt8) : Small (putG g i k c) := by
  unfold putG
  split
  · refine ⟨by simp only [putL_length]; exact h.1, fun r hr => ?_⟩
    simp only at hr
    obtain ⟨j, hj, rfl⟩ := List.mem_iff_getElem.1 hr
    have hj' : j < g.cells.length := by rw [← putL_length g.cells i.toNat k.toNat c]; exact hj
    have e := putL_row_length g.cells i.toNat k.toNat c j hj'
    rw [List.getElem?_eq_getElem hj, List.getElem?_eq_getElem hj', Option.getD_some, Option.getD_some] at e
    rw [e]; exact h.2 _ (List.getElem_mem hj')
  · exact h
theorem put_plain {g : G} (i k : Int) (c : UInt8) : (putG g i k c).cells.length = g.cells.length := by
  unfold putG; split
  · simp only [putL_length]
  · rfl
end Go.Proofs.Ytnpdpfkoghhioaa
