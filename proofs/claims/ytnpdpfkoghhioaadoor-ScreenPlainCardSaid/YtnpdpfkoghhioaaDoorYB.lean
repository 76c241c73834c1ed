/- Screens as plain data: what the law ScreenPlain says of them. -/
import Derived.Test.YtnpdpfkoghhioaaDoorYA
namespace Go.Proofs.YtnpdpfkoghhioaaDoor
open Go.RowKit

theorem cells_self (l : List UInt8) (h : PlainL l) (k : Nat) (hk : k ≤ l.length) : cellsTo l k = l.take k := by
  induction k with
  | zero => rfl
  | succ k ih =>
    have hp := h _ (List.getElem_mem (show k < l.length by omega))
    rw [cellsTo_succ l k (by omega), ih (by omega), shown_self _ _ hp.1 hp.2, List.take_add_one, List.getElem?_eq_getElem (by omega)]; rfl
theorem lcells_self (t : ByteArray) (h : PlainL t.data.toList) : lcells t = t.data.toList := by
  have hl : t.size = t.data.toList.length := rfl
  unfold lcells
  rw [hl, cells_self _ h _ (Nat.le_refl _)]
  exact List.take_of_length_le (Nat.le_refl _)
/-- A text, and blanks behind it. -/
def padded (b : List UInt8) : List UInt8 := b ++ List.replicate (8 - b.length) 32
def wantB (l : List ByteArray) (R i : Nat) : List UInt8 := match l[i]? with | some t => t.data.toList | none => if i < R - 1 then [126] else []
theorem ovl_pad (b : List UInt8) (h : b.length ≤ 8) : ovl 8 b = padded b := by
  unfold ovl padded; rw [List.take_of_length_le h]
/-- What ScreenPlain draws. -/
structure IsPlain (s : SH) (R : Nat) : Prop where
  line : s.line = 1
  col : s.col = 0
  status : s.status = ByteArray.empty
  typing : s.typing = false
  rows : s.rows = (R : Int)
  cols : s.cols = 8
  n1 : 1 ≤ s.lines.length
  n10 : s.lines.length ≤ 10
  r : s.lines.length + 1 ≤ R
  r60 : R ≤ 60
  len : ∀ t ∈ s.lines, t.size ≤ 8
  pl : ∀ t ∈ s.lines, PlainL t.data.toList
section
variable {s : SH} {R : Nat}
theorem IsPlain.text (h : IsPlain s R) (i : Nat) : (s.text i).data.toList.length ≤ 8 ∧ PlainL (s.text i).data.toList := by
  unfold SH.text
  cases e : s.lines[i - 1]? with
  | none => exact ⟨Nat.zero_le _, fun x hx => by cases hx⟩
  | some t => exact ⟨h.len t (List.mem_of_getElem? e), h.pl t (List.mem_of_getElem? e)⟩
theorem IsPlain.fit (h : IsPlain s R) : Fit s := by
  have h1 := h.n1
  have h2 := h.r
  have h3 := h.r60
  have h4 := h.n10
  refine ⟨⟨by omega, fun x hx => by have := h.len x hx; omega, by rw [h.status]; exact Nat.zero_le _⟩, by rw [h.rows]; omega, by rw [h.rows]; omega, by rw [h.cols]; omega, by rw [h.cols]; omega⟩
theorem IsPlain.check (h : IsPlain s R) : checkS s = 0 := by
  have h1 := h.n1
  have h2 := h.r
  have h3 := h.r60
  unfold checkS
  rw [if_pos (by rw [h.rows, h.cols]; simp [sizedB]; omega), if_neg (by rintro ⟨_, _, h0⟩; omega), if_neg ?_]
  unfold badPos
  rw [h.line, h.col]
  rintro (h | h | h | h)
  · omega
  · omega
  · omega
  · omega
theorem IsPlain.rowsOf (h : IsPlain s R) (i : Nat) : s.rowsOf i = 1 := by
  obtain ⟨h1, h2⟩ := h.text i
  rw [rowsOf_eq s i (by rw [h.cols]; decide), lcells_self _ h2, h.cols, rowsN_eq]
  split
  · rfl
  · show ((s.text i).data.toList.length - 1) / 8 + 1 = 1
    omega
theorem IsPlain.skip (h : IsPlain s R) : skipS s 1 = 0 := by
  have h1 := h.n1
  have h2 := h.r
  have hr := at_row s 1 (by rw [h.cols]; decide)
  rw [h.rowsOf] at hr
  unfold skipS
  rw [if_pos (show s.line = ((1 : Nat) : Int) from h.line)]
  unfold need
  rw [h.line]
  have e : s.sum 1 (1 : Int).toNat = 0 := sum_same s 1
  rw [e]
  have e2 : (1 : Int).toNat = 1 := rfl
  rw [e2, h.rows]
  omega
theorem IsPlain.items (h : IsPlain s R) (i : Nat) : itemsTo s 1 (i + 1) = (List.range i).map fun k => s.item (k + 1) 0 := by
  induction i with
  | zero => rw [items_same]; rfl
  | succ i ih =>
    rw [items_succ s (by omega), ih, List.range_succ, List.map_append, h.rowsOf]
    congr 1
    have e : (if i + 1 = 1 then skipS s 1 else 0) = 0 := by split; exact h.skip; rfl
    rw [e]
    rfl
theorem IsPlain.shown (h : IsPlain s R) : shownI s 1 = (List.range s.lines.length).map fun k => s.item (k + 1) 0 := by
  have h2 := h.r
  unfold shownI
  rw [h.items, List.take_of_length_le (by rw [h.rows]; simp; omega)]
theorem IsPlain.drawn (h : IsPlain s R) (i : Nat) (hi : i < R) : (drawG s 1).cells[i]? = some (padded (wantB s.lines R i)) := by
  have h1 := h.n1
  have h2 := h.r
  have hR : s.rows.toNat = R := by rw [h.rows]; rfl
  have hC : s.cols.toNat = 8 := by rw [h.cols]; rfl
  have hal := all_len s 1 (by rw [h.rows]; omega)
  show (cellsOf s (allRows s 1))[i]? = _
  unfold cellsOf
  rw [List.getElem?_append_left (by rw [List.length_map, hal, hR]; exact hi), List.getElem?_map, hC]
  suffices hx : ∃ x : It, (allRows s 1)[i]? = some x ∧ x.1.length ≤ 8 ∧ x.1 = wantB s.lines R i by
    obtain ⟨x, e1, e2, e3⟩ := hx
    rw [e1, ← e3]
    show some (ovl 8 x.1) = _
    rw [ovl_pad _ e2]
  have hsl : (shownI s 1).length = s.lines.length := by rw [h.shown]; simp
  unfold allRows
  rw [hsl, hR]
  by_cases hn : i < s.lines.length
  · refine ⟨s.item (i + 1) 0, ?_, ?_⟩
    · rw [List.append_assoc, List.getElem?_append_left (by rw [hsl]; exact hn), h.shown, List.getElem?_map, List.getElem?_range hn]
      rfl
    · obtain ⟨g1, g2⟩ := h.text (i + 1)
      have e : (s.item (i + 1) 0).1 = (s.text (i + 1)).data.toList := by
        show rowZ (lcells (s.text (i + 1))) s.cols ((0 : Nat) : Int) = _
        rw [rowZ_eq _ _ _ (by rw [h.cols]; decide), lcells_self _ g2, hC]
        unfold rowL
        rw [Nat.zero_mul, List.drop_zero, List.take_of_length_le g1]
      have e2 : s.text (i + 1) = s.lines[i] := by unfold SH.text; rw [Nat.add_sub_cancel, List.getElem?_eq_getElem hn]; rfl
      refine ⟨by rw [e]; exact g1, ?_⟩
      rw [e, e2]
      unfold wantB
      rw [List.getElem?_eq_getElem hn]
  · have hw : s.lines[i]? = none := List.getElem?_eq_none (by omega)
    by_cases hr : i < R - 1
    · refine ⟨padI s i, ?_, ?_⟩
      · rw [List.getElem?_append_left (by rw [List.length_append, hsl, pads_len]; omega), List.getElem?_append_right (by rw [hsl]; omega), hsl]
        unfold pads
        rw [List.getElem?_map, List.getElem?_range' (by omega)]
        show some (padI s _) = _
        congr 2; omega
      · have e : padI s i = ([126], none) := by unfold padI; rw [if_neg (by omega)]
        rw [e]
        refine ⟨by decide, ?_⟩
        unfold wantB
        rw [hw]
        simp only
        rw [if_pos hr]
    · refine ⟨(statT s, none), ?_, ?_⟩
      · rw [List.getElem?_append_right (by rw [List.length_append, hsl, pads_len]; omega), List.length_append, hsl, pads_len, show i - (s.lines.length + (R - 1 - s.lines.length)) = 0 by omega]
        rfl
      · have e : statT s = [] := by
          unfold statT
          rw [h.typing, h.status, if_neg (by simp)]
          rfl
        rw [e]
        refine ⟨by decide, ?_⟩
        unfold wantB
        rw [hw]
        simp only
        rw [if_neg hr]
end
end Go.Proofs.YtnpdpfkoghhioaaDoor
