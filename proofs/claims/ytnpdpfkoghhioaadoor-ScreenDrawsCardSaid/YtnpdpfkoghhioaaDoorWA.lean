/- Cells of a line, as plain data. -/
import Derived.WalkKit
import Derived.WalkSpells
import Derived.Lib.Hide
namespace Go.Proofs.YtnpdpfkoghhioaaDoor
open Go.RowKit

def shownL (c : UInt8) (ahead : Nat) : List UInt8 :=
  if c.toNat = 9 then List.replicate (8 - ahead % 8) 32
  else if 127 < c.toNat then [92, UInt8.ofNat (48 + c.toNat / 64), UInt8.ofNat (48 + c.toNat / 8 % 8), UInt8.ofNat (48 + c.toNat % 8)]
  else if c.toNat = 127 then [94, 63]
  else if c.toNat < 32 then [94, UInt8.ofNat (c.toNat + 64)]
  else [c]
def cellsTo (l : List UInt8) (k : Nat) : List UInt8 := (l.take k).foldl (fun acc c => acc ++ shownL c acc.length) []
def placesL (l : List UInt8) : List Nat := (List.range (l.length + 1)).map fun k => (cellsTo l k).length

theorem shown_len (c : UInt8) (a : Nat) : 1 ≤ (shownL c a).length ∧ (shownL c a).length ≤ 8 := by
  unfold shownL
  split
  · rw [List.length_replicate]; omega
  · split
    · simp
    · split
      · simp
      · split <;> simp
theorem cellsTo_zero (l : List UInt8) : cellsTo l 0 = [] := rfl
theorem cellsTo_succ (l : List UInt8) (k : Nat) (h : k < l.length) : cellsTo l (k + 1) = cellsTo l k ++ shownL l[k] (cellsTo l k).length := by
  unfold cellsTo
  rw [List.take_add_one, List.getElem?_eq_getElem h, List.foldl_append]; rfl
theorem cellsTo_all (l : List UInt8) (k : Nat) (h : l.length ≤ k) : cellsTo l k = cellsTo l l.length := by
  unfold cellsTo; rw [List.take_of_length_le h, List.take_of_length_le (Nat.le_refl _)]
theorem cellsTo_len (l : List UInt8) (k : Nat) (h : k ≤ l.length) : k ≤ (cellsTo l k).length ∧ (cellsTo l k).length ≤ 8 * k := by
  induction k with
  | zero => simp [cellsTo]
  | succ k ih =>
    have := ih (by omega)
    have h2 := shown_len l[k] (cellsTo l k).length
    rw [cellsTo_succ l k h, List.length_append]
    omega
theorem cellsTo_mono (l : List UInt8) (j k : Nat) (h : j ≤ k) : ∃ r, cellsTo l k = cellsTo l j ++ r := by
  induction k with
  | zero => exact ⟨[], by rw [show j = 0 by omega]; simp⟩
  | succ k ih =>
    by_cases hj : j = k + 1
    · subst hj; exact ⟨[], by simp⟩
    · obtain ⟨r, hr⟩ := ih (by omega)
      by_cases hk : k < l.length
      · exact ⟨r ++ shownL l[k] (cellsTo l k).length, by rw [cellsTo_succ l k hk, hr, List.append_assoc]⟩
      · exact ⟨r, by rw [cellsTo_all l (k + 1) (by omega), ← cellsTo_all l k (by omega), hr]⟩
theorem places_len (l : List UInt8) : (placesL l).length = l.length + 1 := by simp [placesL]
theorem places_get (l : List UInt8) (k : Nat) (h : k < l.length + 1) : (placesL l)[k]?.getD 0 = (cellsTo l k).length := by
  simp [placesL, h]
/-- Every cell is from 32 to 126. -/
theorem shown_plain (c : UInt8) (a : Nat) : ∀ x ∈ shownL c a, 32 ≤ x.toNat ∧ x.toNat ≤ 126 := by
  have hc : c.toNat < 256 := c.toNat_lt
  unfold shownL
  intro x hx
  split at hx
  · rw [List.eq_of_mem_replicate hx]; decide
  · split at hx
    · simp only [List.mem_cons, List.not_mem_nil, or_false] at hx
      rcases hx with rfl | rfl | rfl | rfl
      · decide
      · rw [UInt8.toNat_ofNat']; omega
      · rw [UInt8.toNat_ofNat']; omega
      · rw [UInt8.toNat_ofNat']; omega
    · split at hx
      · simp only [List.mem_cons, List.not_mem_nil, or_false] at hx
        rcases hx with rfl | rfl <;> decide
      · split at hx
        · simp only [List.mem_cons, List.not_mem_nil, or_false] at hx
          rcases hx with rfl | rfl
          · decide
          · rw [UInt8.toNat_ofNat']; omega
        · simp only [List.mem_cons, List.not_mem_nil, or_false] at hx
          subst hx; omega
theorem cellsTo_plain (l : List UInt8) (k : Nat) : ∀ x ∈ cellsTo l k, 32 ≤ x.toNat ∧ x.toNat ≤ 126 := by
  induction k with
  | zero => intro x hx; cases hx
  | succ k ih =>
    by_cases hk : k < l.length
    · intro x hx
      rw [cellsTo_succ l k hk] at hx
      rcases List.mem_append.1 hx with h | h
      · exact ih x h
      · exact shown_plain _ _ x h
    · rw [cellsTo_all l (k + 1) (by omega), ← cellsTo_all l k (by omega)]; exact ih
/-- What stands behind makes no difference. -/
theorem cellsTo_ahead (a b : List UInt8) (k : Nat) (h : k ≤ a.length) : cellsTo (a ++ b) k = cellsTo a k := by
  unfold cellsTo
  rw [List.take_append_of_le_length h]
end Go.Proofs.YtnpdpfkoghhioaaDoor
