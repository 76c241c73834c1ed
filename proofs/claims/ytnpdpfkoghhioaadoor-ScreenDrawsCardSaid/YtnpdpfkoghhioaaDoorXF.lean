/- Screens as plain data: what is shown of lines. -/
import Derived.Test.YtnpdpfkoghhioaaDoorWP
import Derived.Test.YtnpdpfkoghhioaaDoorXE
namespace Go.Proofs.YtnpdpfkoghhioaaDoor
open Go.RowKit

/-- What is to be shown. -/
structure SH where
  lines : List ByteArray
  line : Int
  col : Int
  status : ByteArray
  typing : Bool
  rows : Int
  cols : Int

def lcells (t : ByteArray) : List UInt8 := cellsTo t.data.toList t.size
def SH.text (s : SH) (i : Nat) : ByteArray := s.lines[i - 1]?.getD ByteArray.empty
def SH.rowsOf (s : SH) (i : Nat) : Nat := rowsZ (lcells (s.text i)).length s.cols
def SH.atOf (s : SH) (i : Nat) : Nat × Nat := atZ (s.text i).data.toList s.cols s.col
/-- Not more than is looked at. -/
structure Lim (s : SH) : Prop where
  n : s.lines.length ≤ 1000
  t : ∀ x ∈ s.lines, x.size ≤ 1000
  st : s.status.size ≤ 1000
def badPos (s : SH) : Prop := s.line < 1 ∨ (s.lines.length : Int) < s.line ∨ s.col < 0 ∨ ((s.text s.line.toNat).size : Int) < s.col
instance (s : SH) : Decidable (badPos s) := by unfold badPos; exact inferInstance
def noPos (s : SH) : Prop := s.line = 0 ∧ s.col = 0 ∧ s.lines.length = 0
instance (s : SH) : Decidable (noPos s) := by unfold noPos; exact inferInstance
def checkS (s : SH) : Int := if sizedB s.rows s.cols = true then (if noPos s then 0 else if badPos s then 2 else 0) else 2
theorem check_ok {s : SH} (h : checkS s = 0) : (2 ≤ s.rows ∧ s.rows ≤ 60 ∧ 8 ≤ s.cols ∧ s.cols ≤ 132) ∧ (noPos s ∨ (¬ badPos s ∧ 1 ≤ s.line ∧ s.line ≤ s.lines.length ∧ 0 ≤ s.col)) := by
  unfold checkS at h
  split at h
  · rename_i hs
    simp only [sizedB, Bool.and_eq_true, decide_eq_true_eq] at hs
    refine ⟨by omega, ?_⟩
    split at h
    · rename_i h0; exact .inl h0
    · split at h
      · omega
      · rename_i hb
        have hb2 := hb
        unfold badPos at hb
        exact .inr ⟨hb2, by omega, by omega, by omega⟩
  · omega
theorem check_or (s : SH) : checkS s = 0 ∨ checkS s = 2 := by
  unfold checkS; split
  · split
    · exact .inl rfl
    · split; exact .inr rfl; exact .inl rfl
  · exact .inr rfl

/-! ### The rows up to the cursor -/
def SH.sum (s : SH) (a b : Nat) : Nat := ((List.range' a (b - a)).map s.rowsOf).sum
theorem sum_same (s : SH) (a : Nat) : s.sum a a = 0 := by simp [SH.sum]
theorem sum_succ (s : SH) {a b : Nat} (h : a ≤ b) : s.sum a (b + 1) = s.sum a b + s.rowsOf b := by
  unfold SH.sum
  rw [show b + 1 - a = (b - a) + 1 by omega, List.range'_1_concat, List.map_append, List.sum_append]
  simp
  congr 1; omega
theorem sum_mono (s : SH) {a b c : Nat} (h : a ≤ b) (h2 : b ≤ c) : s.sum a b ≤ s.sum a c := by
  induction c with
  | zero => rw [show b = 0 by omega]; exact Nat.le_refl _
  | succ c ih =>
    by_cases hb : b = c + 1
    · rw [hb]; exact Nat.le_refl _
    · have := ih (by omega)
      rw [sum_succ s (by omega)]; omega
theorem sum_none (s : SH) {a b : Nat} (h : b ≤ a) : s.sum a b = 0 := by unfold SH.sum; rw [show b - a = 0 by omega]; rfl
def need (s : SH) (top : Nat) : Nat := 1 + s.sum top s.line.toNat + (s.atOf s.line.toNat).1

/-! ### The first line -/
def top0 (s : SH) (was : Int) : Int := min (max was 1) (s.lines.length : Int)
def TopIs (s : SH) (was : Int) (T : Nat) : Prop :=
  (s.lines.length = 0 ∧ T = 1) ∨ (s.lines.length ≠ 0 ∧ s.line ≤ top0 s was ∧ (T : Int) = s.line) ∨
  (s.lines.length ≠ 0 ∧ top0 s was < s.line ∧ top0 s was ≤ T ∧ (T : Int) ≤ s.line ∧ (∀ j : Nat, top0 s was ≤ j → j < T → s.rows - 1 < (need s j : Int)) ∧ ((T : Int) = s.line ∨ (need s T : Int) ≤ s.rows - 1))
theorem top_one {s : SH} {was : Int} {T U : Nat} (h : TopIs s was T) (k : TopIs s was U) : T = U := by
  rcases h with ⟨h0, h1⟩ | ⟨h0, h1, h2⟩ | ⟨h0, h1, h2, h3, h4, h5⟩ <;> rcases k with ⟨k0, k1⟩ | ⟨k0, k1, k2⟩ | ⟨k0, k1, k2, k3, k4, k5⟩ <;> try omega
  rcases Nat.lt_trichotomy T U with e | e | e
  · exfalso
    have := k4 T h2 e
    omega
  · exact e
  · exfalso
    have := h4 U k2 e
    omega

/-! ### The rows that are shown -/
/-- A row's text, and the cursor's column where it is the cursor's row. -/
abbrev It := List UInt8 × Option Nat
def SH.item (s : SH) (i j : Nat) : It := (rowZ (lcells (s.text i)) s.cols (j : Int), if (i : Int) = s.line ∧ (s.atOf i).1 = j then some (s.atOf i).2 else none)
def lineI (s : SH) (i a b : Nat) : List It := (List.range' a (b - a)).map (s.item i)
theorem lineI_same (s : SH) (i a : Nat) : lineI s i a a = [] := by simp [lineI]
theorem lineI_none (s : SH) (i : Nat) {a b : Nat} (h : b ≤ a) : lineI s i a b = [] := by unfold lineI; rw [show b - a = 0 by omega]; rfl
theorem lineI_succ (s : SH) (i : Nat) {a b : Nat} (h : a ≤ b) : lineI s i a (b + 1) = lineI s i a b ++ [s.item i b] := by
  unfold lineI
  rw [show b + 1 - a = (b - a) + 1 by omega, List.range'_1_concat, List.map_append]
  rw [show a + (b - a) = b by omega]
  rfl
theorem lineI_len (s : SH) (i a b : Nat) : (lineI s i a b).length = b - a := by simp [lineI]
def skipS (s : SH) (top : Nat) : Nat := if s.line = (top : Int) then ((need s top : Int) - (s.rows - 1)).toNat else 0
def itemsTo (s : SH) (top i : Nat) : List It := (List.range' top (i - top)).flatMap fun l => lineI s l (if l = top then skipS s top else 0) (s.rowsOf l)
theorem items_same (s : SH) (top : Nat) : itemsTo s top top = [] := by simp [itemsTo]
theorem items_succ (s : SH) {top i : Nat} (h : top ≤ i) : itemsTo s top (i + 1) = itemsTo s top i ++ lineI s i (if i = top then skipS s top else 0) (s.rowsOf i) := by
  unfold itemsTo
  rw [show i + 1 - top = (i - top) + 1 by omega, List.range'_1_concat, List.flatMap_append, show top + (i - top) = i by omega]
  simp
theorem items_pre (s : SH) {top i j : Nat} (h : top ≤ i) (h2 : i ≤ j) : ∃ r, itemsTo s top j = itemsTo s top i ++ r := by
  induction j with
  | zero => exact ⟨[], by rw [show i = 0 by omega]; simp⟩
  | succ j ih =>
    by_cases e : i = j + 1
    · exact ⟨[], by rw [e]; simp⟩
    · obtain ⟨r, hr⟩ := ih (by omega)
      exact ⟨r ++ lineI s j (if j = top then skipS s top else 0) (s.rowsOf j), by rw [items_succ s (by omega), hr, List.append_assoc]⟩

/-- The cursor: how many rows, and where. -/
def curF (P : List It) : Nat × Nat × Nat := P.foldl (fun a x => (a.1 + 1, match x.2 with | some c => (a.1, c) | none => a.2)) (0, 0, 0)
theorem cur_snoc (P : List It) (x : It) : curF (P ++ [x]) = ((curF P).1 + 1, match x.2 with | some c => ((curF P).1, c) | none => (curF P).2) := by
  unfold curF; rw [List.foldl_append]; rfl
theorem snoc_ind {α : Type} {p : List α → Prop} (h0 : p []) (h1 : ∀ l x, p l → p (l ++ [x])) : ∀ l, p l := by
  intro l
  have : ∀ m : List α, p m.reverse := by
    intro m
    induction m with
    | nil => exact h0
    | cons x m ih => rw [List.reverse_cons]; exact h1 _ _ ih
  have h := this l.reverse
  rwa [List.reverse_reverse] at h
theorem cur_len (P : List It) : (curF P).1 = P.length := by
  induction P using snoc_ind with
  | h0 => rfl
  | h1 l x ih => rw [cur_snoc, List.length_append, ih]; rfl
/-- A text in a row of blanks. -/
def ovl (cols : Nat) (t : List UInt8) : List UInt8 := t.take cols ++ List.replicate (cols - t.length) 32
theorem ovl_len (cols : Nat) (t : List UInt8) : (ovl cols t).length = cols := by simp [ovl]; omega
theorem ovl_nil (cols : Nat) : ovl cols [] = List.replicate cols 32 := by simp [ovl]
def cellsOf (s : SH) (P : List It) : List (List UInt8) := P.map (fun x => ovl s.cols.toNat x.1) ++ List.replicate (s.rows.toNat - P.length) (List.replicate s.cols.toNat 32)
def gridOf (s : SH) (P : List It) : G := ⟨s.rows, s.cols, cellsOf s P, (curF P).2.1, (curF P).2.2⟩
theorem cells_len (s : SH) (P : List It) (h : P.length ≤ s.rows.toNat) : (cellsOf s P).length = s.rows.toNat := by simp [cellsOf]; omega
theorem grid_nil (s : SH) : gridOf s [] = newG s.rows s.cols := by simp [gridOf, cellsOf, newG, curF]
theorem cells_row (s : SH) (P : List It) : ∀ r ∈ cellsOf s P, r.length = s.cols.toNat := by
  intro r hr
  unfold cellsOf at hr
  rcases List.mem_append.1 hr with h | h
  · obtain ⟨x, _, rfl⟩ := List.mem_map.1 h; exact ovl_len _ _
  · rw [List.eq_of_mem_replicate h, List.length_replicate]
/-- One more row. -/
theorem cells_snoc (s : SH) (P : List It) (x : It) (h : P.length < s.rows.toNat) : cellsOf s (P ++ [x]) = (cellsOf s P).set P.length (ovl s.cols.toNat x.1) := by
  unfold cellsOf
  rw [List.map_append, List.length_append, List.set_append, if_neg (by simp)]
  rw [List.length_map, Nat.sub_self, List.append_assoc]
  congr 1
  obtain ⟨m, hm⟩ : ∃ m, s.rows.toNat - P.length = m + 1 := ⟨s.rows.toNat - P.length - 1, by omega⟩
  rw [hm, List.replicate_succ, List.set_cons_zero]
  rw [show s.rows.toNat - (P.length + [x].length) = m by simp; omega]
  rfl
theorem cells_at (s : SH) (P : List It) (h : P.length < s.rows.toNat) : (cellsOf s P)[P.length]? = some (List.replicate s.cols.toNat 32) := by
  unfold cellsOf
  rw [List.getElem?_append_right (by simp), List.length_map, Nat.sub_self, List.getElem?_replicate, if_pos (by omega)]
/-- Below the lines. -/
def padI (s : SH) (k : Nat) : It := (if k = 0 ∧ s.lines.length = 0 then [] else [126], none)
def pads (s : SH) (a b : Nat) : List It := (List.range' a (b - a)).map (padI s)
theorem pads_same (s : SH) (a : Nat) : pads s a a = [] := by simp [pads]
theorem pads_succ (s : SH) {a b : Nat} (h : a ≤ b) : pads s a (b + 1) = pads s a b ++ [padI s b] := by
  unfold pads
  rw [show b + 1 - a = (b - a) + 1 by omega, List.range'_1_concat, List.map_append, show a + (b - a) = b by omega]
  rfl
theorem pads_len (s : SH) (a b : Nat) : (pads s a b).length = b - a := by simp [pads]
/-- The last row. -/
def statT (s : SH) : List UInt8 := if s.typing = true ∧ s.cols ≤ ((lcells s.status).length : Int) then (lcells s.status).drop ((lcells s.status).length - s.cols.toNat + 1) else lcells s.status
/-- The rows of lines that there is room for. -/
def shownI (s : SH) (top : Nat) : List It := (itemsTo s top (s.lines.length + 1)).take (s.rows.toNat - 1)
def allRows (s : SH) (top : Nat) : List It := shownI s top ++ pads s (shownI s top).length (s.rows.toNat - 1) ++ [(statT s, none)]
def drawG (s : SH) (top : Nat) : G :=
  ⟨s.rows, s.cols, cellsOf s (allRows s top), if s.typing = true then s.rows - 1 else ((curF (shownI s top)).2.1 : Int), if s.typing = true then min ((statT s).length : Int) (s.cols - 1) else ((curF (shownI s top)).2.2 : Int)⟩
def drawE (s : SH) (top : Int) : Int := if checkS s = 0 then (if top < 1 ∨ max (s.lines.length : Int) 1 < top then 2 else 0) else checkS s
theorem shownI_len (s : SH) (top : Nat) : (shownI s top).length ≤ s.rows.toNat - 1 := by unfold shownI; rw [List.length_take]; omega
theorem all_len (s : SH) (top : Nat) (h : 2 ≤ s.rows) : (allRows s top).length = s.rows.toNat := by
  have := shownI_len s top
  unfold allRows
  rw [List.length_append, List.length_append, pads_len]
  simp
  omega
end Go.Proofs.YtnpdpfkoghhioaaDoor
