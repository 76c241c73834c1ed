/- Rows of cells, as plain data. -/
import Derived.Test.YtnpdpfkoghhioaaDoorWA
namespace Go.Proofs.YtnpdpfkoghhioaaDoor
open Go.RowKit

def rowsN (n c : Nat) : Nat := max 1 (n / c + min 1 (n % c))
/-- How many rows, counted cell by cell. -/
def rowsC (c : Nat) : Nat → Nat
  | 0 => 1
  | k + 1 => rowsC c k + if 0 < k ∧ k % c = 0 then 1 else 0
theorem rowsC_eq (c n : Nat) : rowsC c n = if n = 0 then 1 else (n - 1) / c + 1 := by
  induction n with
  | zero => rfl
  | succ k ih =>
    rw [rowsC, ih, if_neg (Nat.succ_ne_zero k), Nat.add_sub_cancel]
    by_cases h : k = 0
    · subst h; simp
    · rw [if_neg h]
      obtain ⟨j, rfl⟩ : ∃ j, k = j + 1 := ⟨k - 1, by omega⟩
      rw [Nat.add_sub_cancel, Nat.succ_div]
      by_cases hd : (j + 1) % c = 0
      · rw [if_pos ⟨by omega, hd⟩, if_pos (Nat.dvd_of_mod_eq_zero hd)]
      · rw [if_neg (fun h => hd h.2), if_neg (fun h => hd (Nat.mod_eq_zero_of_dvd h))]
theorem rowsN_eq (c n : Nat) : rowsN n c = if n = 0 then 1 else (n - 1) / c + 1 := by
  unfold rowsN
  by_cases h : n = 0
  · subst h; simp
  · rw [if_neg h]
    obtain ⟨j, rfl⟩ : ∃ j, n = j + 1 := ⟨n - 1, by omega⟩
    rw [Nat.add_sub_cancel, Nat.succ_div]
    by_cases hd : (j + 1) % c = 0
    · rw [if_pos (Nat.dvd_of_mod_eq_zero hd), hd]
      generalize j / c = b
      omega
    · rw [if_neg (fun h => hd (Nat.mod_eq_zero_of_dvd h))]
      have : min 1 ((j + 1) % c) = 1 := by omega
      rw [this]
      generalize j / c = b
      omega
theorem rows_same (c n : Nat) : rowsC c n = rowsN n c := by rw [rowsC_eq c n, rowsN_eq c n]
theorem rowsN_le (n c : Nat) : rowsN n c ≤ n + 1 := by
  rw [rowsN_eq c n]
  split
  · omega
  · have := Nat.div_le_self (n - 1) c; omega
theorem rowsN_pos (n c : Nat) : 1 ≤ rowsN n c := by unfold rowsN; omega
/-- Behind the last row there is no cell. -/
theorem rowsN_end (n c k : Nat) (hc : 0 < c) (h : rowsN n c ≤ k) : n ≤ k * c := by
  rw [rowsN_eq c n] at h
  split at h
  · omega
  · have h1 : (n - 1) / c < k := by omega
    have := (Nat.div_lt_iff_lt_mul hc).1 h1
    omega
/-- In a row that there is there is a cell, if there is one at all. -/
theorem rowsN_in (n c k : Nat) (hc : 0 < c) (h : k < rowsN n c) : k * c < n ∨ (n = 0 ∧ k = 0) := by
  rw [rowsN_eq c n] at h
  split at h
  · omega
  · have h1 : k ≤ (n - 1) / c := by omega
    have := (Nat.le_div_iff_mul_le hc).1 h1
    omega

def rowL (l : List UInt8) (c k : Nat) : List UInt8 := (l.drop (k * c)).take c
theorem rowL_step (l : List UInt8) (c k i : Nat) (hi : i < l.length) (hc : 0 < c) : rowL (l.take (i + 1)) c k = rowL (l.take i) c k ++ if i / c = k then [l[i]] else [] := by
  unfold rowL
  by_cases h : i / c = k
  · rw [if_pos h]
    have h1 : k * c ≤ i := by rw [← h]; exact Nat.div_mul_le_self i c
    have h2 : i < (k + 1) * c := by rw [← h]; exact Nat.lt_mul_of_div_lt (Nat.lt_succ_self _) hc
    rw [Nat.add_mul, Nat.one_mul] at h2
    rw [List.take_add_one, List.getElem?_eq_getElem hi, List.drop_append_of_le_length (by rw [List.length_take]; omega)]
    have e1 : (List.drop (k * c) (List.take i l)).length ≤ c := by rw [List.length_drop, List.length_take]; omega
    have e2 : (List.drop (k * c) (List.take i l) ++ (some l[i]).toList).length ≤ c := by rw [List.length_append, List.length_drop, List.length_take]; simp; omega
    rw [List.take_of_length_le e2, List.take_of_length_le e1]
    rfl
  · rw [if_neg h, List.append_nil]
    rcases Nat.lt_or_ge i (k * c) with h1 | h1
    · rw [List.drop_of_length_le (by simp; omega), List.drop_of_length_le (by simp; omega)]
    · have h2 : (k + 1) * c ≤ i := by
        rcases Nat.lt_or_ge i ((k + 1) * c) with h2 | h2
        · exfalso; apply h
          have a1 : i / c < k + 1 := (Nat.div_lt_iff_lt_mul hc).2 h2
          have a2 : k ≤ i / c := (Nat.le_div_iff_mul_le hc).2 h1
          omega
        · exact h2
      rw [Nat.add_mul, Nat.one_mul] at h2
      rw [List.take_add_one, List.drop_append_of_le_length (by rw [List.length_take]; omega), List.take_append_of_le_length (by simp; omega)]
theorem rowL_len (l : List UInt8) (c k : Nat) : (rowL l c k).length = min c (l.length - k * c) := by simp [rowL]
theorem rowL_cut (l : List UInt8) (c k : Nat) : rowL l c k = (l.drop (k * c)).take (min c l.length) := by
  unfold rowL
  rcases Nat.le_total c l.length with h | h
  · rw [Nat.min_eq_left h]
  · rw [Nat.min_eq_right h, List.take_of_length_le (by simp; omega), List.take_of_length_le (by simp)]
/-- The rows one behind the other. -/
theorem rowL_join (l : List UInt8) (c k : Nat) : l.take (k * c) ++ rowL l c k = l.take ((k + 1) * c) := by
  unfold rowL
  rw [Nat.add_mul, Nat.one_mul, List.take_add]
end Go.Proofs.YtnpdpfkoghhioaaDoor
