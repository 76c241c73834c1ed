/- The chapter's Draw: its rows as texts in memory, plain lemmas. -/
import Derived.Test.YtnpdpfkoghhioaaDoorXQ
import Derived.Test.YtnpdpfkoghhioaaDoorXM
namespace Go.Proofs.YtnpdpfkoghhioaaDoor
open Go.RowKit

/-- A goal's own statement, read off a hypothesis: so a part of a proof can be a declaration of its own ('let rec'). -/
structure NotP (p : Prop) : Prop where
  out : ¬ p
def unNot {p : Prop} (_ : NotP p) : Prop := p
theorem by_piece {p : Prop} (h : NotP p → p) : p := Classical.byContradiction fun hn => hn (h ⟨hn⟩)
/-- Rows as texts. -/
def txs (P : List It) : List Value := P.map fun x => .string ⟨x.1.toArray⟩
theorem txs_len (P : List It) : (txs P).length = P.length := by simp [txs]
theorem txs_snoc (P : List It) (x : It) : txs (P ++ [x]) = txs P ++ [.string ⟨x.1.toArray⟩] := by simp [txs]
theorem txs_take (P : List It) (m : Nat) : (txs P).take m = txs (P.take m) := by simp [txs, List.map_take]
theorem txs_get (P : List It) {j : Nat} {x : It} (h : P[j]? = some x) : (txs P)[j]? = some (.string ⟨x.1.toArray⟩) := by
  unfold txs; rw [List.getElem?_map, h]; rfl
theorem own_shape {w : World} {B n sz : Nat} {t : TypeId} {v : Value} {xs : List Value} (h : w.ownsRow B t sz v n xs) : ∃ a c, v = .slice a n c := by
  rcases h.2 with ⟨hv, h0⟩ | ⟨g, cap, cu, hv, _⟩
  · exact ⟨none, 0, by rw [hv, h0]⟩
  · exact ⟨_, _, hv⟩
theorem own_cut {w : World} {B n c : Nat} {e : TypeId} {a : Option Addr} {xs : List Value} (h : w.ownsRow B e 1 (.slice a n c) n xs) (m : Nat) (hm : m ≤ n) (h0 : 0 < n) : w.ownsRow B e 1 (.slice a m c) m (xs.take m) := by
  rcases h.2 with ⟨_, h1⟩ | ⟨g, cap, cu, hv, hB, hg, h2, h3, h4, h5⟩
  · omega
  · injection hv with e1 _ e3
    subst e1 e3
    refine ⟨by have := h.1; rw [List.length_take]; omega, .inr ⟨g, c, cu, rfl, hB, hg, by omega, h3, h4, ?_⟩⟩
    rw [← h5, List.take_take, Nat.mul_one, Nat.mul_one, Nat.min_eq_left hm]
theorem own_cells {w : World} {B n c : Nat} {e : TypeId} {a : Option Addr} {xs : List Value} (h : w.ownsRow B e 1 (.slice a n c) n xs) (h0 : 0 < n) : ∃ g, a = some ⟨g, 0, none⟩ ∧ B ≤ g ∧ g < w.heap.size ∧ ∀ j, j < n → w.cell? ⟨g, j, none⟩ = xs[j]? := by
  rcases h.2 with ⟨_, h1⟩ | ⟨g, cap, cu, hv, hB, hg, h2, h3, h4, h5⟩
  · omega
  · injection hv with e1 _ e3
    subst e1 e3
    refine ⟨g, rfl, hB, (Array.getElem?_eq_some_iff.1 hg).1, fun j hj => ?_⟩
    rw [at_cells hg j, ← h5, List.getElem?_take, if_pos (by omega)]
    simp
theorem own_over {w w' : World} {B n sz N : Nat} {e : TypeId} {v : Value} {xs : List Value} (h : w.ownsRow B e sz v n xs) (hb : Below N w w') (hN : w.heap.size ≤ N) : w'.ownsRow B e sz v n xs := by
  refine ⟨h.1, ?_⟩
  rcases h.2 with h1 | ⟨g, cap, cu, hv, hB, hg, r⟩
  · exact .inl h1
  · exact .inr ⟨g, cap, cu, hv, hB, (hb.block g (Nat.lt_of_lt_of_le (Array.getElem?_eq_some_iff.1 hg).1 hN)).trans hg, r⟩
theorem DI.over {s : SH} {R C B2 hb GB hc : Nat} {rb ro rc : Nat → Nat} {W1 wr : World} {P : List It} {x y : Int} (h : DI s R C B2 hb GB hc rb ro rc W1 wr P x y) (hP : P.length ≤ R) {n : Nat} (hn : GB < n) {w' : World} (hbl : Below n wr w') : DI s R C B2 hb GB hc rb ro rc W1 w' P x y where
  own := h.own.below hbl (Nat.lt_trans h.lth hn) (fun j hj => Nat.lt_trans (h.ltr j (by rw [h.len hP] at hj; exact hj)) hn)
  box := h.box.below hbl hn
  bel := h.bel.trans (hbl.mono (Nat.le_trans h.gb (Nat.le_of_lt hn)))
  lth := h.lth
  ltr := h.ltr
  gb := h.gb
  rr := h.rr
  cc := h.cc
  r60 := h.r60
  c132 := h.c132
/-- The grid that is handed back. -/
theorem DI.grid {s : SH} {R C B2 hb GB hc : Nat} {rb ro rc : Nat → Nat} {W1 wr : World} {P : List It} {x y : Int} (h : DI s R C B2 hb GB hc rb ro rc W1 wr P x y) (hP : P.length = R) (W' : World) (hs : wr.heap.size ≤ W'.heap.size) (he : ∀ k : Nat, B2 ≤ k → k < wr.heap.size → W'.heap[k]? = wr.heap[k]?) :
    OwnGrid B2 W' (.agg #[.int .i64 (R : Int), .int .i64 (C : Int), .slice (some ⟨hb, 0, none⟩) R hc, .int .i64 x, .int .i64 y]) ⟨s.rows, s.cols, cellsOf s P, x, y⟩ := by
  have hl := h.len (Nat.le_of_eq hP)
  refine ⟨_, hc, ?_, fun _ => ⟨hb, rb, ro, rc, rfl, h.own.eq hs (he hb h.own.base (Nat.lt_trans h.lth h.blt)) (fun j hj => he _ (h.own.low j hj) (h.own.lt j hj))⟩⟩
  show _ = Value.agg #[.int .i64 s.rows, .int .i64 s.cols, .slice (some ⟨hb, 0, none⟩) (cellsOf s P).length hc, .int .i64 x, .int .i64 y]
  rw [hl, h.rr, h.cc]
theorem box75_new (w : World) (v0 v1 v2 v3 v4 v5 v6 : Value) (t t2 : TypeId) : ∃ W, (w.alloc (.cells #[v0, v1, v2, v3, v4, v5, v6] t)).alloc (.cells #[.int .i64 0, .int .i64 0, .slice none 0 0, .int .i64 0, .int .i64 0] t2) = W ∧ Below w.heap.size w W ∧ W.heap.size = w.heap.size + 2 ∧ Box7 W w.heap.size t v0 v1 v2 v3 v4 v5 v6 ∧ Box5 W (w.heap.size + 1) t2 (.int .i64 0) (.int .i64 0) (.slice none 0 0) (.int .i64 0) (.int .i64 0) := by
  have hs : (w.alloc (.cells #[v0, v1, v2, v3, v4, v5, v6] t)).heap.size = w.heap.size + 1 := alloc_size _ _
  refine ⟨_, rfl, ((Below.refl _ _).alloc (Nat.le_refl _) _).alloc (by rw [hs]; omega) _, by rw [alloc_size, hs], ?_, ?_⟩
  · unfold Box7; rw [heap_alloc, if_neg (by rw [hs]; omega), heap_alloc, if_pos rfl]
  · unfold Box5; rw [heap_alloc, if_pos (by rw [hs])]
theorem rowZ_len (l : List UInt8) (c k : Int) : (rowZ l c k).length ≤ l.length := by
  unfold rowZ
  split
  · exact Nat.zero_le _
  · unfold rowL
    rw [List.length_take, List.length_drop]
    omega

/-! ### The cursor, of the rows that there is room for -/
def curT (P : List It) (m : Nat) : Nat × Nat := (curF (P.take m)).2
theorem curT_nil (m : Nat) : curT [] m = (0, 0) := by simp [curT, curF]
theorem curT_lt {Q : List It} {m : Nat} (x : It) (h : Q.length < m) : curT (Q ++ [x]) m = match x.2 with | some c => (Q.length, c) | none => curT Q m := by
  unfold curT
  rw [List.take_of_length_le (by simp; omega), List.take_of_length_le (l := Q) (by omega), cur_snoc]
  cases x.2 with
  | none => rfl
  | some c => show ((curF Q).1, c) = _; rw [cur_len]
theorem curT_ge {Q : List It} {m : Nat} (x : It) (h : m ≤ Q.length) : curT (Q ++ [x]) m = curT Q m := by
  unfold curT
  rw [List.take_append_of_le_length h]
theorem curT_none {Q : List It} {m : Nat} (x : It) (h : x.2 = none) : curT (Q ++ [x]) m = curT Q m := by
  by_cases hl : Q.length < m
  · rw [curT_lt x hl, h]
  · exact curT_ge x (by omega)

/-! ### All rows -/
theorem rows_all (s : SH) (tp n R : Nat) (hn : n = s.lines.length) (hR : s.rows.toNat = R) (Q3 : List It) (q : Nat) (hq : q = (itemsTo s tp (n + 1)).length) (h2 : Q3.length = q ∨ Q3.length ≤ R - 1) (h3 : Q3 = itemsTo s tp (n + 1) ++ pads s q Q3.length) (h4 : R - 1 ≤ Q3.length) :
    Q3.take (R - 1) ++ [(statT s, none)] = allRows s tp := by
  unfold allRows
  congr 1
  unfold shownI
  rw [← hn, hR]
  by_cases hle : R - 1 ≤ q
  · have e1 : ((itemsTo s tp (n + 1)).take (R - 1)).length = R - 1 := by rw [List.length_take]; omega
    rw [e1, pads_same, List.append_nil, h3, List.take_append_of_le_length (by omega)]
  · have e1 : (itemsTo s tp (n + 1)).take (R - 1) = itemsTo s tp (n + 1) := List.take_of_length_le (by omega)
    have e2 : Q3.length = R - 1 := by omega
    rw [e1, ← hq, List.take_of_length_le (by omega)]
    rw [e2] at h3
    exact h3
theorem item_len (s : SH) (hF : Fit s) (i j : Nat) : (s.item i j).1.length ≤ 8000 := by
  have h2 := (cellsTo_len (s.text i).data.toList (s.text i).size (Nat.le_refl _)).2
  have h4 : (lcells (s.text i)).length = (cellsTo (s.text i).data.toList (s.text i).size).length := rfl
  have h5 := hF.lim.text i
  have h6 := rowZ_len (lcells (s.text i)) s.cols (j : Int)
  have h7 : (s.item i j).1 = rowZ (lcells (s.text i)) s.cols (j : Int) := rfl
  rw [h7]; omega
end Go.Proofs.YtnpdpfkoghhioaaDoor
