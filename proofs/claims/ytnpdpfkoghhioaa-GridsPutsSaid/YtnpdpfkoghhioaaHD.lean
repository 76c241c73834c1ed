/- What cells have behind many puts: plain laws. -/
import Derived.Test.YtnpdpfkoghhioaaHA
namespace Go.Proofs.Ytnpdpfkoghhioaa
open Go.RowKit

def wantC (T : List Cl) (i k : Int) (j : Nat) : UInt8 := (T.take j).foldl (fun c x => if x.row = i ∧ x.col = k ∧ plainC x.c = true then x.c else c) 32
def gFold (g : G) (T : List Cl) (j : Nat) : G := (T.take j).foldl (fun g x => putG g x.row x.col x.c) g
theorem wantC_succ (T : List Cl) (i k : Int) (j : Nat) (h : j < T.length) : wantC T i k (j + 1) = if T[j].row = i ∧ T[j].col = k ∧ plainC T[j].c = true then T[j].c else wantC T i k j := by
  unfold wantC
  rw [List.take_add_one, List.getElem?_eq_getElem h, List.foldl_append]; rfl
theorem gFold_succ (g : G) (T : List Cl) (j : Nat) (h : j < T.length) : gFold g T (j + 1) = putG (gFold g T j) T[j].row T[j].col T[j].c := by
  unfold gFold
  rw [List.take_add_one, List.getElem?_eq_getElem h, List.foldl_append]; rfl
def cellG (g : G) (i k : Nat) : UInt8 := (g.cells[i]?.getD [])[k]?.getD 0
theorem may_parts {g : G} (h : mayB g = true) : (g.cells.length : Int) = g.rows ∧ ∀ i, i < g.cells.length → ((g.cells[i]?.getD []).length : Int) = g.cols := by
  rw [mayB_eq] at h
  simp only [Bool.and_eq_true, decide_eq_true_eq] at h
  obtain ⟨⟨⟨⟨_, h1⟩, _⟩, _⟩, h2⟩ := h
  refine ⟨h1, fun i hi => ?_⟩
  rw [List.getElem?_eq_getElem hi, Option.getD_some]
  have := List.all_eq_true.1 h2 _ (List.getElem_mem hi)
  unfold lineB at this
  simp only [Bool.and_eq_true, decide_eq_true_eq] at this
  exact this.1
theorem put_cell {g : G} (hm : mayB g = true) (r c : Int) (ch : UInt8) (i k : Nat) (hi : (i : Int) < g.rows) (hk : (k : Int) < g.cols) :
    cellG (putG g r c ch) i k = if r = i ∧ c = k ∧ plainC ch = true then ch else cellG g i k := by
  obtain ⟨p1, p2⟩ := may_parts hm
  by_cases h : putB g r c ch = true
  · rw [put_yes h]
    unfold putB at h
    simp only [Bool.and_eq_true, decide_eq_true_eq] at h
    obtain ⟨⟨⟨⟨⟨_, h1⟩, h2⟩, h3⟩, h4⟩, h5⟩ := h
    unfold cellG
    simp only
    rw [putL_row _ _ _ _ _ (by omega)]
    by_cases e1 : r = i
    · rw [if_pos (by omega)]
      by_cases e2 : c = k
      · rw [if_pos ⟨e1, e2, h5⟩]
        have := p2 i (by omega)
        rw [show c.toNat = k by omega, List.getElem?_set_self (by omega)]; rfl
      · rw [if_neg (by intro h; exact e2 h.2.1), List.getElem?_set_ne (by omega)]
    · rw [if_neg (by omega), if_neg (by intro h; exact e1 h.1)]
  · rw [put_no h, if_neg]
    rintro ⟨rfl, rfl, h5⟩
    apply h
    unfold putB
    rw [hm, h5]
    simp; omega
/-- What holds behind j puts. -/
theorem fold_law {n m : Nat} (hn : 2 ≤ n ∧ n ≤ 60) (hm : 8 ≤ m ∧ m ≤ 132) (T : List Cl) (g : G) (hg : g = ⟨(n : Int), (m : Int), List.replicate n (List.replicate m 32), 0, 0⟩) (j : Nat) :
    mayB (gFold g T j) = true ∧ (gFold g T j).rows = n ∧ (gFold g T j).cols = m ∧ Small (gFold g T j) ∧ ∀ i k : Nat, i < n → k < m → cellG (gFold g T j) i k = wantC T i k j := by
  induction j with
  | zero =>
    have e : gFold g T 0 = g := rfl
    rw [e, hg]
    refine ⟨may_new hn hm, rfl, rfl, small_of hn hm 0 0, fun i k hi hk => ?_⟩
    unfold cellG wantC
    simp only
    rw [rep_row n m i 32 hi]
    simp [hk]
  | succ j ih =>
    obtain ⟨h1, h2, h3, h4, h5⟩ := ih
    by_cases hj : j < T.length
    · rw [gFold_succ g T j hj]
      obtain ⟨e1, e2, _, _⟩ := putG_rows (gFold g T j) T[j].row T[j].col T[j].c
      refine ⟨by rw [may_put]; exact h1, e1.trans h2, e2.trans h3, put_small h4 _ _ _, fun i k hi hk => ?_⟩
      rw [put_cell h1 _ _ _ i k (by rw [h2]; omega) (by rw [h3]; omega), wantC_succ T i k j hj, h5 i k hi hk]
    · have e1 : gFold g T (j + 1) = gFold g T j := by unfold gFold; rw [List.take_of_length_le (by omega), List.take_of_length_le (by omega)]
      have e2 : ∀ i k : Int, wantC T i k (j + 1) = wantC T i k j := fun i k => by unfold wantC; rw [List.take_of_length_le (by omega), List.take_of_length_le (by omega)]
      rw [e1]
      exact ⟨h1, h2, h3, h4, fun i k hi hk => by rw [e2]; exact h5 i k hi hk⟩
theorem wantC_all (T : List Cl) (i k : Int) (j : Nat) (h : T.length ≤ j) : wantC T i k j = wantC T i k T.length := by
  unfold wantC; rw [List.take_of_length_le h, List.take_of_length_le (Nat.le_refl _)]
end Go.Proofs.Ytnpdpfkoghhioaa
