/- Screens as plain data: what the law ScreenSeen says of them. -/
import Derived.Test.YtnpdpfkoghhioaaDoorXJ
namespace Go.Proofs.YtnpdpfkoghhioaaDoor
open Go.RowKit

theorem yc_lt (l : List UInt8) (k n : Nat) (h : k < n) (hn : n ≤ l.length) : (cellsTo l k).length < (cellsTo l n).length := by
  obtain ⟨r, hr⟩ := cellsTo_mono l (k + 1) n h
  rw [hr, List.length_append, cellsTo_succ l k (by omega), List.length_append]
  have := (shown_len l[k] (cellsTo l k).length).1
  omega
theorem shown_self (c : UInt8) (a : Nat) (h : 32 ≤ c.toNat) (h2 : c.toNat ≤ 126) : shownL c a = [c] := by
  unfold shownL; rw [if_neg (by omega), if_neg (by omega), if_neg (by omega), if_neg (by omega)]
theorem place_self (l : List UInt8) (k : Nat) (h : k < l.length) (h1 : 32 ≤ l[k].toNat) (h2 : l[k].toNat ≤ 126) : (cellsTo l l.length)[(cellsTo l k).length]? = some l[k] := by
  obtain ⟨r, hr⟩ := cellsTo_mono l (k + 1) l.length h
  rw [hr, cellsTo_succ l k h, shown_self _ _ h1 h2, List.append_assoc, List.getElem?_append_right (Nat.le_refl _), Nat.sub_self]; rfl
theorem rowsOf_eq (s : SH) (i : Nat) (h : 1 ≤ s.cols) : s.rowsOf i = rowsN (lcells (s.text i)).length s.cols.toNat := by
  unfold SH.rowsOf rowsZ; rw [if_neg (by omega)]
theorem rowsOf_pos (s : SH) (i : Nat) (h : 1 ≤ s.cols) : 1 ≤ s.rowsOf i := by rw [rowsOf_eq s i h]; exact rowsN_pos _ _
theorem rowZ_eq (l : List UInt8) (cols : Int) (k : Nat) (h : 1 ≤ cols) : rowZ l cols (k : Int) = rowL l cols.toNat k := by
  unfold rowZ; rw [if_neg (by omega)]; rfl
/-- The cursor's row is one that there is. -/
theorem at_row (s : SH) (i : Nat) (hc : 1 ≤ s.cols) : (s.atOf i).1 < s.rowsOf i := by
  rw [rowsOf_eq s i hc]
  unfold SH.atOf atZ
  rw [if_neg (by omega)]
  obtain ⟨l, hl⟩ : ∃ l, l = (s.text i).data.toList := ⟨_, rfl⟩
  have hlc : lcells (s.text i) = cellsTo l l.length := by rw [hl]; rfl
  rw [← hl, hlc]
  have hC : 0 < s.cols.toNat := by omega
  generalize s.cols.toNat = C at *
  by_cases hi : (l.length : Int) ≤ s.col
  · have hk : (min (max s.col 0) (l.length : Int)).toNat = l.length := by omega
    rw [hk]
    generalize (cellsTo l l.length).length = p
    rw [rowsN_eq]
    unfold atN
    by_cases hz : 0 < p ∧ p % C = 0
    · rw [if_pos ⟨by simpa using hi, hz⟩, if_neg (by omega)]
      obtain ⟨e1, e2⟩ := pred_div p C hC hz.1 hz.2
      show p / C - 1 < _
      omega
    · rw [if_neg (fun h => hz h.2)]
      show p / C < _
      split
      · next h0 => rw [h0]; simp
      · next h0 =>
        have hm : p % C ≠ 0 := fun e => hz ⟨by omega, e⟩
        obtain ⟨j, rfl⟩ : ∃ j, p = j + 1 := ⟨p - 1, by omega⟩
        rw [Nat.succ_div, if_neg (fun e => hm (Nat.mod_eq_zero_of_dvd e))]
        simp
  · by_cases h0 : l.length = 0
    · have hk : (min (max s.col 0) (l.length : Int)).toNat = 0 := by omega
      rw [hk]
      unfold atN
      rw [if_neg (by rintro ⟨h, _⟩; exact hi (by simpa using h))]
      show (cellsTo l 0).length / C < _
      rw [cellsTo_zero]
      have := rowsN_pos (cellsTo l l.length).length C
      rw [List.length_nil, Nat.zero_div]
      omega
    · have hk : (min (max s.col 0) (l.length : Int)).toNat < l.length := by omega
      generalize (min (max s.col 0) (l.length : Int)).toNat = k at *
      have h1 := yc_lt l k l.length hk (Nat.le_refl _)
      unfold atN
      rw [if_neg (by rintro ⟨h, _⟩; exact hi (by simpa using h)), rowsN_eq, if_neg (by omega)]
      show (cellsTo l k).length / C < _
      have : (cellsTo l k).length / C ≤ ((cellsTo l l.length).length - 1) / C := Nat.div_le_div_right (by omega)
      omega
theorem rowL_get (l : List UInt8) (c k j : Nat) (h : j < c) : (rowL l c k)[j]? = l[k * c + j]? := by
  unfold rowL; rw [List.getElem?_take, if_pos h, List.getElem?_drop]
/-- A byte that is shown as itself stands at the cursor. -/
theorem at_byte (s : SH) (i k : Nat) (hc : 1 ≤ s.cols) (hk : s.col = (k : Int)) (hl : k < (s.text i).data.toList.length) (h1 : 32 ≤ (s.text i).data.toList[k].toNat) (h2 : (s.text i).data.toList[k].toNat ≤ 126) :
    (rowZ (lcells (s.text i)) s.cols ((s.atOf i).1 : Nat))[(s.atOf i).2]? = some (s.text i).data.toList[k] := by
  rw [rowZ_eq _ _ _ hc]
  unfold SH.atOf atZ
  rw [if_neg (by omega), hk]
  have hlc : lcells (s.text i) = cellsTo (s.text i).data.toList (s.text i).data.toList.length := rfl
  rw [hlc]
  generalize (s.text i).data.toList = l at *
  have hC : 0 < s.cols.toNat := by omega
  generalize s.cols.toNat = C at *
  have hk2 : (min (max (k : Int) 0) (l.length : Int)).toNat = k := by omega
  rw [hk2]
  unfold atN
  rw [if_neg (by rintro ⟨h, _⟩; simp at h; omega)]
  show (rowL _ C ((cellsTo l k).length / C))[(cellsTo l k).length % C]? = _
  rw [rowL_get _ _ _ _ (Nat.mod_lt _ hC), Nat.div_add_mod']
  exact place_self l k hl h1 h2

/-! ### The cursor among the rows -/
def NoCur (P : List It) : Prop := ∀ x ∈ P, x.2 = none
theorem NoCur.append {A B : List It} (h : NoCur A) (h2 : NoCur B) : NoCur (A ++ B) := fun x hx => (List.mem_append.1 hx).elim (h x) (h2 x)
theorem NoCur.take {A : List It} (h : NoCur A) (k : Nat) : NoCur (A.take k) := fun x hx => h x (List.mem_of_mem_take hx)
theorem cur_no (A B : List It) (h : NoCur B) : (curF (A ++ B)).2 = (curF A).2 := by
  induction B using snoc_ind with
  | h0 => rw [List.append_nil]
  | h1 l x ih =>
    rw [← List.append_assoc, cur_snoc, h x (by simp)]
    exact ih fun y hy => h y (by simp [hy])
theorem cur_some (A B : List It) (r : List UInt8) (c : Nat) (h : NoCur B) : (curF (A ++ [(r, some c)] ++ B)).2 = (A.length, c) := by
  rw [cur_no _ _ h, cur_snoc]
  show ((curF A).1, c) = _
  rw [cur_len]
theorem item_no (s : SH) (i j : Nat) (h : ¬ ((i : Int) = s.line ∧ (s.atOf i).1 = j)) : (s.item i j).2 = none := by unfold SH.item; rw [if_neg h]
theorem lineI_no (s : SH) (i a b : Nat) (h : ∀ j, a ≤ j → j < b → ¬ ((i : Int) = s.line ∧ (s.atOf i).1 = j)) : NoCur (lineI s i a b) := by
  intro x hx
  unfold lineI at hx
  obtain ⟨j, hj, rfl⟩ := List.mem_map.1 hx
  rw [List.mem_range'_1] at hj
  exact item_no s i j (h j hj.1 (by omega))
theorem items_cut (s : SH) {top i j : Nat} (h : top ≤ i) (h2 : i ≤ j) : ∃ r, itemsTo s top j = itemsTo s top i ++ r ∧ ((∀ k : Nat, i ≤ k → k < j → (k : Int) ≠ s.line) → NoCur r) := by
  induction j with
  | zero => exact ⟨[], by rw [show i = 0 by omega]; simp, fun _ x hx => by cases hx⟩
  | succ j ih =>
    by_cases e : i = j + 1
    · exact ⟨[], by rw [e]; simp, fun _ x hx => by cases hx⟩
    · obtain ⟨r, hr, hn⟩ := ih (by omega)
      refine ⟨r ++ lineI s j (if j = top then skipS s top else 0) (s.rowsOf j), by rw [items_succ s (by omega), hr, List.append_assoc], fun hh => ?_⟩
      exact (hn fun k h1 h2 => hh k h1 (by omega)).append (lineI_no s j _ _ fun m _ _ hm => hh j (by omega) (by omega) hm.1)
theorem lineI_cut (s : SH) (i : Nat) {a k b : Nat} (h : a ≤ k) (h2 : k ≤ b) : lineI s i a b = lineI s i a k ++ lineI s i k b := by
  induction b with
  | zero => rw [show k = 0 by omega]; simp [lineI]
  | succ b ih =>
    by_cases e : k = b + 1
    · rw [e, lineI_same, List.append_nil]
    · rw [lineI_succ s i (by omega), lineI_succ s i (by omega), ih (by omega), List.append_assoc]
theorem lineI_cons (s : SH) (i : Nat) {a b : Nat} (h : a < b) : lineI s i a b = s.item i a :: lineI s i (a + 1) b := by
  unfold lineI
  obtain ⟨m, hm⟩ : ∃ m, b - a = m + 1 := ⟨b - a - 1, by omega⟩
  rw [hm, List.range'_succ, show b - (a + 1) = m by omega]
  rfl
theorem items_len (s : SH) {top i : Nat} (h : top ≤ i) : (itemsTo s top i).length ≤ s.sum top i := by
  induction i with
  | zero => rw [show top = 0 by omega, items_same]; exact Nat.zero_le _
  | succ i ih =>
    by_cases e : top = i + 1
    · rw [e, items_same]; exact Nat.zero_le _
    · have := ih (by omega)
      rw [items_succ s (by omega), sum_succ s (by omega), List.length_append, lineI_len]
      omega
/-- WHERE THE CURSOR'S ROW STANDS. -/
theorem seen_cut (s : SH) (hF : Fit s) (l T : Nat) (was : Int) (hl : s.line = (l : Int)) (h1 : 1 ≤ l) (h2 : l ≤ s.lines.length) (hT : TopIs s was T) :
    ∃ A B, shownI s T = A ++ [s.item l (s.atOf l).1] ++ B ∧ A.length < s.rows.toNat - 1 ∧ NoCur B := by
  have hr2 := hF.r2
  have hc8 := hF.c8
  have hrow := at_row s l (by omega)
  have hlt : s.line.toNat = l := by omega
  obtain ⟨rest, hrest, hnr⟩ := items_cut s (top := T) (i := l + 1) (j := s.lines.length + 1) (by rcases hT with h | h | h <;> omega) (by omega)
  have hnr := hnr fun k h3 _ => by omega
  have hTl : T ≤ l := by rcases hT with h | h | h <;> omega
  obtain ⟨A, B, hA, hlen, hB⟩ : ∃ A B, itemsTo s T (l + 1) = A ++ [s.item l (s.atOf l).1] ++ B ∧ A.length < s.rows.toNat - 1 ∧ NoCur B := by
    rw [items_succ s hTl]
    obtain ⟨sk, hsk⟩ : ∃ sk, sk = if l = T then skipS s T else 0 := ⟨_, rfl⟩
    rw [← hsk]
    obtain ⟨h3, h4⟩ : sk ≤ (s.atOf l).1 ∧ (itemsTo s T l).length + ((s.atOf l).1 - sk) < s.rows.toNat - 1 := by
      by_cases e : l = T
      · subst e
        rw [if_pos rfl] at hsk
        unfold skipS need at hsk
        rw [if_pos hl, hlt, sum_same] at hsk
        rw [items_same]
        simp only [List.length_nil]
        omega
      · rw [if_neg e] at hsk
        subst hsk
        refine ⟨Nat.zero_le _, ?_⟩
        have h5 := items_len s hTl
        rcases hT with h | h | ⟨_, _, _, _, _, h⟩
        · omega
        · omega
        · rcases h with h | h
          · omega
          · unfold need at h
            rw [hlt] at h
            omega
    refine ⟨itemsTo s T l ++ lineI s l sk (s.atOf l).1, lineI s l ((s.atOf l).1 + 1) (s.rowsOf l), ?_, ?_, ?_⟩
    · rw [lineI_cut s l h3 (Nat.le_of_lt hrow), lineI_cons s l hrow]
      simp
    · rw [List.length_append, lineI_len]; exact h4
    · exact lineI_no s l _ _ fun j h5 _ h7 => by omega
  refine ⟨A, (B ++ rest).take (s.rows.toNat - 1 - (A.length + 1)), ?_, hlen, (hB.append hnr).take _⟩
  unfold shownI
  rw [hrest, hA, List.append_assoc (A ++ _), List.take_append]
  rw [List.take_of_length_le (l := A ++ [s.item l (s.atOf l).1]) (by simp; omega)]
  simp
theorem seen_cur (s : SH) (hF : Fit s) (l T : Nat) (was : Int) (hl : s.line = (l : Int)) (h1 : 1 ≤ l) (h2 : l ≤ s.lines.length) (hT : TopIs s was T) :
    ∃ a, a < s.rows.toNat - 1 ∧ (curF (shownI s T)).2 = (a, (s.atOf l).2) ∧ (cellsOf s (allRows s T))[a]? = some (ovl s.cols.toNat (rowZ (lcells (s.text l)) s.cols ((s.atOf l).1 : Nat))) := by
  obtain ⟨A, B, hA, hlen, hB⟩ := seen_cut s hF l T was hl h1 h2 hT
  have hit : s.item l (s.atOf l).1 = (rowZ (lcells (s.text l)) s.cols ((s.atOf l).1 : Nat), some (s.atOf l).2) := by
    unfold SH.item; rw [if_pos ⟨hl.symm, rfl⟩]
  refine ⟨A.length, hlen, ?_, ?_⟩
  · rw [hA, hit]; exact cur_some A B _ _ hB
  · unfold cellsOf allRows
    rw [hA, hit]
    simp only [List.map_append, List.append_assoc]
    rw [List.getElem?_append_right (by simp), List.length_map, Nat.sub_self]
    rfl

/-! ### A screen is one that may be -/
def PlainL (l : List UInt8) : Prop := ∀ x ∈ l, 32 ≤ x.toNat ∧ x.toNat ≤ 126
theorem plain_ovl (c : Nat) (t : List UInt8) (h : PlainL t) : PlainL (ovl c t) := by
  intro x hx
  unfold ovl at hx
  rcases List.mem_append.1 hx with h1 | h1
  · exact h x (List.mem_of_mem_take h1)
  · rw [List.eq_of_mem_replicate h1]; decide
theorem plain_rowZ (l : List UInt8) (c k : Int) (h : PlainL l) : PlainL (rowZ l c k) := by
  intro x hx
  unfold rowZ at hx
  split at hx
  · cases hx
  · unfold rowL at hx
    exact h x (List.mem_of_mem_drop (List.mem_of_mem_take hx))
theorem plain_lcells (t : ByteArray) : PlainL (lcells t) := cellsTo_plain _ _
theorem plain_item (s : SH) (i j : Nat) : PlainL (s.item i j).1 := plain_rowZ _ _ _ (plain_lcells _)
theorem mem_items (s : SH) (top i : Nat) (x : It) (h : x ∈ itemsTo s top i) : ∃ k j, x = s.item k j := by
  unfold itemsTo at h
  obtain ⟨k, _, h⟩ := List.mem_flatMap.1 h
  unfold lineI at h
  obtain ⟨j, _, rfl⟩ := List.mem_map.1 h
  exact ⟨k, j, rfl⟩
theorem plain_rows (s : SH) (T : Nat) : ∀ x ∈ allRows s T, PlainL x.1 := by
  intro x hx
  unfold allRows at hx
  rcases List.mem_append.1 hx with h | h
  · rcases List.mem_append.1 h with h | h
    · unfold shownI at h
      obtain ⟨k, j, rfl⟩ := mem_items s T _ x (List.mem_of_mem_take h)
      exact plain_item s k j
    · unfold pads at h
      obtain ⟨k, _, rfl⟩ := List.mem_map.1 h
      unfold padI
      intro y hy
      simp only at hy
      split at hy
      · cases hy
      · rw [List.mem_singleton.1 hy]; decide
  · rw [List.mem_singleton.1 h]
    intro y hy
    simp only at hy
    unfold statT at hy
    split at hy
    · exact plain_lcells _ y (List.mem_of_mem_drop hy)
    · exact plain_lcells _ y hy
theorem plain_cells (s : SH) (T : Nat) : ∀ r ∈ (drawG s T).cells, PlainL r := by
  intro r hr
  have hr : r ∈ cellsOf s (allRows s T) := hr
  unfold cellsOf at hr
  rcases List.mem_append.1 hr with h | h
  · obtain ⟨x, hx, rfl⟩ := List.mem_map.1 h
    exact plain_ovl _ _ (plain_rows s T x hx)
  · rw [List.eq_of_mem_replicate h]
    intro y hy
    rw [List.eq_of_mem_replicate hy]; decide
theorem cur_lt (P : List It) : (curF P).2.1 = 0 ∨ (curF P).2.1 < P.length := by
  induction P using snoc_ind with
  | h0 => exact .inl rfl
  | h1 l x ih =>
    rw [cur_snoc, List.length_append]
    have := cur_len l
    cases x.2 with
    | none => rcases ih with h | h; exact .inl h; exact .inr (by show (curF l).2.1 < _; simp; omega)
    | some c => exact .inr (by show (curF l).1 < _; simp; omega)
theorem cur_col (s : SH) (hF : Fit s) (P : List It) (h : ∀ x ∈ P, ∃ k j, x = s.item k j) : (((curF P).2.2 : Nat) : Int) < s.cols := by
  have h8 := hF.c8
  induction P using snoc_ind with
  | h0 => show ((0 : Nat) : Int) < _; omega
  | h1 l x ih =>
    have ih := ih fun y hy => h y (by simp [hy])
    obtain ⟨k, j, hx⟩ := h x (by simp)
    rw [cur_snoc]
    cases hc : x.2 with
    | none => exact ih
    | some c =>
      show (c : Int) < s.cols
      rw [hx] at hc
      unfold SH.item at hc
      split at hc
      · injection hc with hc
        rw [← hc]
        exact (hF.at k).2
      · cases hc
theorem draw_len (s : SH) (T : Nat) (hF : Fit s) : (drawG s T).cells.length = s.rows.toNat := by
  show (cellsOf s (allRows s T)).length = _
  exact cells_len s _ (Nat.le_of_eq (all_len s T hF.r2))
theorem draw_row (s : SH) (T : Nat) : ∀ r ∈ (drawG s T).cells, r.length = s.cols.toNat := cells_row s _
/-- Ahead of the last row, where nothing is typed. -/
theorem draw_cur (s : SH) (T : Nat) (hF : Fit s) (h : s.typing = false) : 0 ≤ (drawG s T).row ∧ (drawG s T).row < s.rows - 1 ∧ 0 ≤ (drawG s T).col ∧ (drawG s T).col < s.cols := by
  have hr2 := hF.r2
  have e1 : (drawG s T).row = ((curF (shownI s T)).2.1 : Nat) := by simp [drawG, h]
  have e2 : (drawG s T).col = ((curF (shownI s T)).2.2 : Nat) := by simp [drawG, h]
  rw [e1, e2]
  have h1 := cur_lt (shownI s T)
  have h2 := shownI_len s T
  have h3 := cur_col s hF (shownI s T) fun x hx => mem_items s T _ x (List.mem_of_mem_take hx)
  omega
theorem draw_typed (s : SH) (T : Nat) (h : s.typing = true) : (drawG s T).row = s.rows - 1 ∧ (drawG s T).col = min ((statT s).length : Int) (s.cols - 1) := by simp [drawG, h]
theorem draw_may (s : SH) (T : Nat) (hF : Fit s) : mayB (drawG s T) = true := by
  have hr2 := hF.r2
  have hr60 := hF.r60
  have hc8 := hF.c8
  have hc1 := hF.c132
  rw [mayB_eq]
  have e1 : sizedB (drawG s T).rows (drawG s T).cols = true := by show sizedB s.rows s.cols = true; simp [sizedB]; omega
  have e2 : (((drawG s T).cells.length : Nat) : Int) = (drawG s T).rows := by rw [draw_len s T hF]; show _ = s.rows; omega
  have e3 : 0 ≤ (drawG s T).row ∧ (drawG s T).row < (drawG s T).rows ∧ 0 ≤ (drawG s T).col ∧ (drawG s T).col < (drawG s T).cols := by
    show 0 ≤ (drawG s T).row ∧ (drawG s T).row < s.rows ∧ 0 ≤ (drawG s T).col ∧ (drawG s T).col < s.cols
    cases h : s.typing with
    | false => have := draw_cur s T hF h; omega
    | true => obtain ⟨a, b⟩ := draw_typed s T h; omega
  have e4 : (drawG s T).cells.all (lineB (drawG s T).cols) = true := by
    rw [List.all_eq_true]
    intro r hr
    unfold lineB
    have h1 := draw_row s T r hr
    have h2 := plain_cells s T r hr
    rw [Bool.and_eq_true]
    refine ⟨decide_eq_true (by rw [h1]; show ((s.cols.toNat : Nat) : Int) = s.cols; omega), ?_⟩
    rw [List.all_eq_true]
    intro x hx
    have := h2 x hx
    unfold plainC
    simp
    omega
  rw [e1, e4, decide_eq_true e2, decide_eq_true e3.1, decide_eq_true e3.2.1, decide_eq_true e3.2.2.1, decide_eq_true e3.2.2.2]
  rfl
/-- Nothing to show: the cursor stands in front. -/
theorem draw_none (s : SH) (hn : s.lines.length = 0) (h : s.typing = false) : (drawG s 1).row = 0 ∧ (drawG s 1).col = 0 := by
  have e1 : (drawG s 1).row = ((curF (shownI s 1)).2.1 : Nat) := by simp [drawG, h]
  have e2 : (drawG s 1).col = ((curF (shownI s 1)).2.2 : Nat) := by simp [drawG, h]
  have e3 : shownI s 1 = [] := by unfold shownI; rw [hn, items_same]; simp
  rw [e1, e2, e3]
  exact ⟨rfl, rfl⟩
/-- Top of the line that Top says. -/
theorem top_again (s : SH) (was : Int) (T U : Nat) (h : TopIs s was T) (hp : s.lines.length ≠ 0 → 1 ≤ s.line ∧ s.line ≤ s.lines.length) (k : TopIs s (T : Int) U) : U = T := by
  refine top_one k ?_
  rcases h with ⟨h0, h1⟩ | ⟨h0, h1, h2⟩ | ⟨h0, h1, h2, h3, h4, h5⟩
  · exact .inl ⟨h0, h1⟩
  · have := hp h0
    refine .inr (.inl ⟨h0, ?_, h2⟩)
    unfold top0; omega
  · have := hp h0
    have hT1 : 1 ≤ (T : Int) := by unfold top0 at h2; omega
    by_cases e : (T : Int) = s.line
    · refine .inr (.inl ⟨h0, ?_, e⟩)
      unfold top0; omega
    · have e0 : top0 s (T : Int) = (T : Int) := by unfold top0; omega
      refine .inr (.inr ⟨h0, by rw [e0]; omega, by rw [e0]; exact Int.le_refl _, h3, fun j h6 h7 => by rw [e0] at h6; omega, h5⟩)
/-- The cursor stands on its byte. -/
theorem seen_byte (s : SH) (hF : Fit s) (hty : s.typing = false) (l T : Nat) (was : Int) (hl : s.line = (l : Int)) (h1 : 1 ≤ l) (h2 : l ≤ s.lines.length) (hT : TopIs s was T) (k : Nat) (hk : s.col = (k : Int)) (hkl : k < (s.text l).data.toList.length) (g1 : 32 ≤ (s.text l).data.toList[k].toNat) (g2 : (s.text l).data.toList[k].toNat ≤ 126) :
    ((drawG s T).cells[(drawG s T).row.toNat]?.getD [])[(drawG s T).col.toNat]? = some (s.text l).data.toList[k] := by
  have hc8 := hF.c8
  obtain ⟨a, ha, hcur, hcell⟩ := seen_cur s hF l T was hl h1 h2 hT
  have e1 : (drawG s T).row = ((curF (shownI s T)).2.1 : Nat) := by simp [drawG, hty]
  have e2 : (drawG s T).col = ((curF (shownI s T)).2.2 : Nat) := by simp [drawG, hty]
  have e3 : (drawG s T).cells = cellsOf s (allRows s T) := rfl
  rw [e1, e2, e3, hcur]
  simp only [Int.toNat_natCast]
  rw [hcell]
  have hb := at_byte s l k (by omega) hk hkl g1 g2
  have hcl := (hF.at l).2
  rw [Option.getD_some]
  unfold ovl
  rw [List.getElem?_append_left, List.getElem?_take, if_pos (by omega)]
  · exact hb
  · have := (List.getElem?_eq_some_iff.1 hb).1
    rw [List.length_take]; omega
end Go.Proofs.YtnpdpfkoghhioaaDoor
