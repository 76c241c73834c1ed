/- Which grids may be, of a new one with one number or one cell changed: plain laws. -/
import Derived.Test.YtnpdpfkoghhioaaGY
import Derived.Test.YtnpdpfkoghhioaaGZ
namespace Go.Proofs.Ytnpdpfkoghhioaa
open Go.RowKit

section
variable {n m : Nat}
theorem size_ok (hn : 2 ≤ n ∧ n ≤ 60) (hm : 8 ≤ m ∧ m ≤ 132) : sizedB (n : Int) (m : Int) = true := by
  simp [sizedB]; omega
theorem rows_ok : (List.replicate n (List.replicate m (32 : UInt8))).all (lineB (m : Int)) = true := by
  rw [List.all_eq_true]
  intro r hr
  rw [List.eq_of_mem_replicate hr]
  simp [lineB, plainC]
theorem newG_cells : (newG (n : Int) (m : Int)).cells = List.replicate n (List.replicate m 32) := by simp [newG]
theorem newG_eq : newG (n : Int) (m : Int) = ⟨(n : Int), (m : Int), List.replicate n (List.replicate m 32), 0, 0⟩ := by simp [newG]
theorem may_any (hn : 2 ≤ n ∧ n ≤ 60) (hm : 8 ≤ m ∧ m ≤ 132) (L : List (List UInt8)) (x y : Int) : mayB ⟨(n : Int), (m : Int), L, x, y⟩ = (decide ((L.length : Int) = (n : Int)) && (decide (0 ≤ x) && decide (x < n)) && (decide (0 ≤ y) && decide (y < m)) && L.all (lineB (m : Int))) := by
  rw [mayB_eq]
  show (sizedB (n : Int) (m : Int) && _ && _ && _ && _) = _
  rw [size_ok hn hm, Bool.true_and]
theorem at_n (hn : 2 ≤ n ∧ n ≤ 60) : (decide ((0 : Int) ≤ 0) && decide ((0 : Int) < (n : Int))) = true := by simp; omega
theorem at_m (hm : 8 ≤ m ∧ m ≤ 132) : (decide ((0 : Int) ≤ 0) && decide ((0 : Int) < (m : Int))) = true := by simp; omega
theorem len_n : decide ((((List.replicate n (List.replicate m (32 : UInt8))).length : Nat) : Int) = (n : Int)) = true := by simp
theorem may_new (hn : 2 ≤ n ∧ n ≤ 60) (hm : 8 ≤ m ∧ m ≤ 132) : mayB ⟨(n : Int), (m : Int), List.replicate n (List.replicate m 32), 0, 0⟩ = true := by
  rw [may_any hn hm, len_n, at_n hn, at_m hm, rows_ok]; rfl
theorem may_row (hn : 2 ≤ n ∧ n ≤ 60) (hm : 8 ≤ m ∧ m ≤ 132) (r : Int) : mayB ⟨(n : Int), (m : Int), List.replicate n (List.replicate m 32), r, 0⟩ = (decide (0 ≤ r) && decide (r < n)) := by
  rw [may_any hn hm, len_n, at_m hm, rows_ok]; simp
theorem may_col (hn : 2 ≤ n ∧ n ≤ 60) (hm : 8 ≤ m ∧ m ≤ 132) (c : Int) : mayB ⟨(n : Int), (m : Int), List.replicate n (List.replicate m 32), 0, c⟩ = (decide (0 ≤ c) && decide (c < m)) := by
  rw [may_any hn hm, len_n, at_n hn, rows_ok]; simp
theorem may_cell (hn : 2 ≤ n ∧ n ≤ 60) (hm : 8 ≤ m ∧ m ≤ 132) (c : UInt8) : mayB ⟨(n : Int), (m : Int), putL (List.replicate n (List.replicate m 32)) (n - 1) (m - 1) c, 0, 0⟩ = plainC c := by
  rw [may_any hn hm, putL_length, len_n, at_n hn, at_m hm]
  simp only [Bool.true_and]
  cases hc : plainC c with
  | true => exact putL_all _ _ _ _ _ hc rows_ok
  | false =>
    have hl : n - 1 < (putL (List.replicate n (List.replicate m (32 : UInt8))) (n - 1) (m - 1) c).length := by rw [putL_length, List.length_replicate]; omega
    refine all_not _ _ (n - 1) hl ?_
    have e := putL_row (List.replicate n (List.replicate m (32 : UInt8))) (n - 1) (m - 1) c (n - 1) (by rw [List.length_replicate]; omega)
    rw [List.getElem?_eq_getElem hl, Option.getD_some, if_pos rfl, rep_row n m (n - 1) 32 (by omega)] at e
    rw [e]
    unfold lineB
    rw [all_not _ plainC (m - 1) (by rw [List.length_set, List.length_replicate]; omega) (by rw [List.getElem_set_self]; exact hc)]
    simp
theorem may_short (hn : 2 ≤ n ∧ n ≤ 60) (hm : 8 ≤ m ∧ m ≤ 132) : mayB ⟨(n : Int), (m : Int), (List.replicate n (List.replicate m 32)).take (n - 1), 0, 0⟩ = false := by
  rw [may_any hn hm]
  have : decide ((((List.replicate n (List.replicate m (32 : UInt8))).take (n - 1)).length : Int) = (n : Int)) = false := by simp; omega
  rw [this]
  simp
theorem small_of (hn : 2 ≤ n ∧ n ≤ 60) (hm : 8 ≤ m ∧ m ≤ 132) (x y : Int) : Small ⟨(n : Int), (m : Int), List.replicate n (List.replicate m 32), x, y⟩ := by
  refine ⟨by simp; omega, fun r hr => ?_⟩
  rw [List.eq_of_mem_replicate hr]; simp; omega
theorem small_cell (hn : 2 ≤ n ∧ n ≤ 60) (hm : 8 ≤ m ∧ m ≤ 132) (c : UInt8) : Small ⟨(n : Int), (m : Int), putL (List.replicate n (List.replicate m 32)) (n - 1) (m - 1) c, 0, 0⟩ := by
  refine ⟨by simp only [putL_length, List.length_replicate]; omega, fun r hr => ?_⟩
  obtain ⟨j, hj, rfl⟩ := List.mem_iff_getElem.1 hr
  have hj' : j < (List.replicate n (List.replicate m (32 : UInt8))).length := by rw [putL_length] at hj; exact hj
  have e := putL_row_length (List.replicate n (List.replicate m (32 : UInt8))) (n - 1) (m - 1) c j hj'
  rw [List.getElem?_eq_getElem hj, Option.getD_some, rep_row n m j 32 (by rw [List.length_replicate] at hj'; exact hj')] at e
  rw [e]; simp; omega
theorem small_short (hn : 2 ≤ n ∧ n ≤ 60) (hm : 8 ≤ m ∧ m ≤ 132) : Small ⟨(n : Int), (m : Int), (List.replicate n (List.replicate m 32)).take (n - 1), 0, 0⟩ := by
  refine ⟨by simp; omega, fun r hr => ?_⟩
  rw [List.eq_of_mem_replicate (List.mem_of_mem_take hr)]; simp; omega
end
theorem CellsAt.take {B : Nat} {w : World} {a : Option Addr} {n c : Nat} {L : List (List UInt8)} (h : CellsAt B w (.slice a n c) L) (k c' : Nat) (hk : k ≤ L.length) : CellsAt B w (.slice a k c') (L.take k) := by
  obtain ⟨a', c0, hv, h⟩ := h
  injection hv with e1 e2 e3
  subst e1
  refine ⟨a, c', by rw [List.length_take, Nat.min_eq_left hk], fun hne => ?_⟩
  have hL : L ≠ [] := by intro e; rw [e] at hne; exact hne (by simp)
  obtain ⟨b, o, ha, hb, hc⟩ := h hL
  refine ⟨b, o, ha, hb, fun j hj => ?_⟩
  rw [List.length_take] at hj
  obtain ⟨rv, h1, h2⟩ := hc j (by omega)
  refine ⟨rv, h1, ?_⟩
  rw [List.getElem?_take, if_pos (by omega)]; exact h2
end Go.Proofs.Ytnpdpfkoghhioaa
