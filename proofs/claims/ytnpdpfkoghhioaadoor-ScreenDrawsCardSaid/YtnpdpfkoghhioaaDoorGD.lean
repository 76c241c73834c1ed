/- grids.New: its memory, and what it says; condition: none. -/
import Derived.Test.YtnpdpfkoghhioaaDoorGC
import Derived.Laws.AppendOwn
namespace Go.Proofs.YtnpdpfkoghhioaaDoor
open Go.RowKit

/-- append of one cell to a row of the call's own, as a step of a region that draws. -/
theorem step_append_one {P : Program} {ops : Array Oper} {o : Oper} {a : Act} {w : World} {K : Act → World → Prop} {Q : Exit → Act → World → Prop} {E : Prop}
    (hg : o.guard = none) (s x : Operand) (t : TypeId) (hop : o.op = Op.call { callee := Callee.builtin Builtin.append, args := #[s, x], argTypes := #[t, t] })
    (e : TypeId) (z : Value) (bytes : Nat) (ht : P.underlying t = some (.slice e)) (hinfo : (P.info? e).map (fun i => (i.zero, i.size, i.bytes)) = some (some z, 1, bytes)) (hz : z.cells.size = 1)
    (B : Nat) (v : Value) (n : Nat) (xs : List Value) (hs : a.eval s = v) (hown : w.ownsRow B e 1 v n xs)
    (nb c : Nat) (hx : a.eval x = .slice (some ⟨nb, 0, none⟩) 1 c) (u : Value) (hu : w.cell? ⟨nb, 0, none⟩ = some u) (h1 : u.oneCell' = true)
    (hn : n < 1000000) (hby : bytes ≤ 1000) (hB : B ≤ w.heap.size)
    (hK : ∀ g c w', Hid (w'.ownsRow B e 1 (.slice (some ⟨g, 0, none⟩) (n + 1) c) (n + 1) (xs ++ [u])) → Below B w w' → K (a.put o.dst (.slice (some ⟨g, 0, none⟩) (n + 1) c)) w') :
    if Region.wanted o (yielded ops a.tmps) = true then Oper.wp P o a w K Q else E := by
  have hw : Region.wanted o (yielded ops a.tmps) = true := by simp [Region.wanted, hg]
  rw [if_pos hw]
  obtain ⟨i, hi, hzz⟩ := Option.map_eq_some_iff.1 hinfo
  simp only [Prod.mk.injEq] at hzz
  obtain ⟨hz1, hs1, hb1⟩ := hzz
  have hnb : nb < w.heap.size := lt_of_cell hu
  obtain ⟨v', w', hrun, r1, r2, r3⟩ := run_append_own (P := P) w B t o.type e i z 1 bytes ht hi hz1 hs1 hb1 hz (by decide) v n xs hown ⟨nb, 0, none⟩ 1 c [u] rfl
    (fun j u' hj => by cases j with | zero => simp at hj; rw [← hj]; exact hu | succ j => simp at hj) (fun u' hu' => by simp at hu'; rw [hu']; exact h1) (by unfold maxLen; omega) (by have : (n + 1) * bytes ≤ 1000000 * 1000 := Nat.mul_le_mul (by omega) hby; omega) hB
  have hbel : Below B w w' := (Below.refl B w).grown r2 hB fun k hk => (hown.lt k hk).1
  unfold Oper.wp
  simp [execOp, hop, resolve, invoke, builtin, hs, hx, hrun, Result.andThen]
  rcases r1.2 with ⟨_, h0⟩ | ⟨g, c', cur, hv, h⟩
  · omega
  · subst hv
    exact hK g c' w' r1 hbel

theorem heap_alloc (w : World) (o : Obj) (k : Nat) : (w.alloc o).heap[k]? = if k = w.heap.size then some o else w.heap[k]? := by
  show (w.heap.push o)[k]? = _
  rw [Array.getElem?_push]
theorem size_alloc (w : World) (o : Obj) : (w.alloc o).heap.size = w.heap.size + 1 := by
  show (w.heap.push o).size = _
  simp

theorem heap3 (w : World) (a b c : Obj) : (((w.alloc a).alloc b).alloc c).heap.size = w.heap.size + 3 ∧ (((w.alloc a).alloc b).alloc c).heap[w.heap.size]? = some a ∧ (((w.alloc a).alloc b).alloc c).heap[w.heap.size + 1]? = some b ∧
    (((w.alloc a).alloc b).alloc c).heap[w.heap.size + 1 + 1]? = some c := by
  refine ⟨by rw [size_alloc, size_alloc, size_alloc], ?_, ?_, ?_⟩
  · rw [heap_alloc, if_neg (by rw [size_alloc, size_alloc]; omega), heap_alloc, if_neg (by rw [size_alloc]; omega), heap_alloc, if_pos rfl]
  · rw [heap_alloc, if_neg (by rw [size_alloc, size_alloc]; omega), heap_alloc, if_pos (by rw [size_alloc])]
  · rw [heap_alloc, if_pos (by rw [size_alloc, size_alloc])]

theorem cell2a (w : World) (c : Array Value) (t : TypeId) (o : Obj) (k : Nat) : ((w.alloc (.cells c t (0, 0))).alloc o).cell? ⟨w.heap.size, k, none⟩ = c[k]? := by
  have h : ((w.alloc (.cells c t (0, 0))).alloc o).heap[w.heap.size]? = some (.cells c t (0, 0)) := by
    rw [heap_alloc, if_neg (by rw [size_alloc]; omega), heap_alloc, if_pos rfl]
  unfold World.cell?; rw [h]; rfl
theorem cell2b (w : World) (c : Array Value) (t : TypeId) (o : Obj) (k : Nat) : ((w.alloc o).alloc (.cells c t (0, 0))).cell? ⟨w.heap.size + 1, k, none⟩ = c[k]? := by
  have h : ((w.alloc o).alloc (.cells c t (0, 0))).heap[w.heap.size + 1]? = some (.cells c t (0, 0)) := by
    rw [heap_alloc, if_pos (by rw [size_alloc])]
  unfold World.cell?; rw [h]; rfl

/-- What is owned stays behind a step that makes a block. -/
theorem ownsRow_alloc {w : World} {B : Nat} {e : TypeId} {sz : Nat} {v : Value} {n : Nat} {xs : List Value} (h : w.ownsRow B e sz v n xs) (o : Obj) : (w.drew.alloc o).ownsRow B e sz v n xs := by
  refine ⟨h.1, ?_⟩
  rcases h.2 with h0 | ⟨g, cap, cur, hv, hB, hg, r⟩
  · exact .inl h0
  · refine .inr ⟨g, cap, cur, hv, hB, ?_, r⟩
    have hlt : g < w.heap.size := (Array.getElem?_eq_some_iff.1 hg).1
    rw [heap_alloc, if_neg (by show g ≠ w.heap.size; omega)]; exact hg

/-- A box of five cells that may be stored to. -/
def Box5 (w : World) (b : Nat) (t : TypeId) (v0 v1 v2 v3 v4 : Value) : Prop := w.heap[b]? = some (.cells #[v0, v1, v2, v3, v4] t (0, 0))
section
variable {w : World} {b : Nat} {t : TypeId} {v0 v1 v2 v3 v4 : Value}
theorem Box5.c0 (h : Box5 w b t v0 v1 v2 v3 v4) : w.cell? ⟨b, 0, none⟩ = some v0 := by unfold Box5 at h; simp [World.cell?, h]
theorem Box5.c1 (h : Box5 w b t v0 v1 v2 v3 v4) : w.cell? ⟨b, 1, none⟩ = some v1 := by unfold Box5 at h; simp [World.cell?, h]
theorem Box5.c2 (h : Box5 w b t v0 v1 v2 v3 v4) : w.cell? ⟨b, 2, none⟩ = some v2 := by unfold Box5 at h; simp [World.cell?, h]
theorem Box5.c3 (h : Box5 w b t v0 v1 v2 v3 v4) : w.cell? ⟨b, 3, none⟩ = some v3 := by unfold Box5 at h; simp [World.cell?, h]
theorem Box5.c4 (h : Box5 w b t v0 v1 v2 v3 v4) : w.cell? ⟨b, 4, none⟩ = some v4 := by unfold Box5 at h; simp [World.cell?, h]
theorem Box5.free (h : Box5 w b t v0 v1 v2 v3 v4) (k : Nat) : w.frozen? ⟨b, k, none⟩ = false := by unfold Box5 at h; simp [World.frozen?, h]
theorem Box5.alloc (h : Box5 w b t v0 v1 v2 v3 v4) (o : Obj) : Box5 (w.drew.alloc o) b t v0 v1 v2 v3 v4 := by
  unfold Box5 at *
  have hlt : b < w.heap.size := (Array.getElem?_eq_some_iff.1 h).1
  rw [heap_alloc, if_neg (by show b ≠ w.heap.size; omega)]; exact h
theorem new_cell (w : World) (v : Value) (t : TypeId) : (w.drew.alloc (.cells #[v] t (0, 0))).cell? ⟨w.heap.size, 0, none⟩ = some v := by
  have h := heap_alloc w.drew (.cells #[v] t (0, 0)) w.heap.size
  rw [if_pos (show w.heap.size = w.drew.heap.size from rfl)] at h
  exact row_cell (cur := [v]) h rfl
theorem Box5.below {B : Nat} {w' : World} (h : Box5 w b t v0 v1 v2 v3 v4) (hB : Below B w w') (hb : b < B) : Box5 w' b t v0 v1 v2 v3 v4 := (hB.block b hb).trans h
theorem Box5.set2 (h : Box5 w b t v0 v1 v2 v3 v4) (v : Value) : Box5 (w.setCell ⟨b, 2, none⟩ v) b t v0 v1 v v3 v4 := by
  unfold Box5 at *
  show (w.heap.modify b _)[b]? = _
  rw [Array.getElem?_modify, if_pos rfl, h]
  rfl
theorem Box5.sets (h : Box5 w b t v0 v1 v2 v3 v4) (u0 u1 u2 u3 u4 : Value) : Box5 (((((w.setCell ⟨b, 0, none⟩ u0).setCell ⟨b, 1, none⟩ u1).setCell ⟨b, 2, none⟩ u2).setCell ⟨b, 3, none⟩ u3).setCell ⟨b, 4, none⟩ u4) b t u0 u1 u2 u3 u4 := by
  unfold Box5 at *
  have st : ∀ (w : World) (k : Nat) (v : Value) (c : Array Value), w.heap[b]? = some (.cells c t (0, 0)) → (w.setCell ⟨b, k, none⟩ v).heap[b]? = some (.cells (c.setIfInBounds k v) t (0, 0)) := by
    intro w k v c h
    show (w.heap.modify b _)[b]? = _
    rw [Array.getElem?_modify, if_pos rfl, h]
    rfl
  exact st _ 4 _ _ (st _ 3 _ _ (st _ 2 _ _ (st _ 1 _ _ (st _ 0 _ _ h))))
theorem setCell_heap_other (w : World) (b k : Nat) (v : Value) (c : Nat) (h : c ≠ b) : (w.setCell ⟨b, k, none⟩ v).heap[c]? = w.heap[c]? := by
  simp [World.setCell, Array.getElem?_modify]; intro e; exact absurd e.symm h
theorem Box5.other (h : Box5 w b t v0 v1 v2 v3 v4) (b' k : Nat) (v : Value) (hne : b ≠ b') : Box5 (w.setCell ⟨b', k, none⟩ v) b t v0 v1 v2 v3 v4 := by
  unfold Box5 at *; rw [setCell_heap_other _ _ _ _ _ hne]; exact h
theorem sets_other (w : World) (b : Nat) (u0 u1 u2 u3 u4 : Value) (c : Nat) (h : c ≠ b) : (((((w.setCell ⟨b, 0, none⟩ u0).setCell ⟨b, 1, none⟩ u1).setCell ⟨b, 2, none⟩ u2).setCell ⟨b, 3, none⟩ u3).setCell ⟨b, 4, none⟩ u4).heap[c]? = w.heap[c]? := by
  rw [setCell_heap_other _ _ _ _ _ h, setCell_heap_other _ _ _ _ _ h, setCell_heap_other _ _ _ _ _ h, setCell_heap_other _ _ _ _ _ h, setCell_heap_other _ _ _ _ _ h]
theorem alloc_other {w : World} {o : Obj} {k : Nat} {x : Obj} (h : w.heap[k]? = some x) : (w.drew.alloc o).heap[k]? = some x := by
  have hlt : k < w.heap.size := (Array.getElem?_eq_some_iff.1 h).1
  rw [heap_alloc, if_neg (by show k ≠ w.heap.size; omega)]; exact h
theorem ownsRow_setCell {w : World} {B : Nat} {e : TypeId} {sz : Nat} {x : Value} {n : Nat} {xs : List Value} (h : w.ownsRow B e sz x n xs) (b k : Nat) (v : Value) (hb : b < B) : (w.setCell ⟨b, k, none⟩ v).ownsRow B e sz x n xs := by
  refine ⟨h.1, ?_⟩
  rcases h.2 with h0 | ⟨g, cap, cur, hv, hB, hg, r⟩
  · exact .inl h0
  · exact .inr ⟨g, cap, cur, hv, hB, by rw [setCell_heap_other _ _ _ _ _ (by omega)]; exact hg, r⟩
theorem Below_setCell {B : Nat} {w0 w : World} (h : Below B w0 w) (b k : Nat) (v : Value) (hb : B ≤ b) : Below B w0 (w.setCell ⟨b, k, none⟩ v) :=
  h.trans ⟨rfl, rfl, rfl, by simp [World.setCell], fun c hc => setCell_heap_other _ _ _ _ _ (by omega)⟩
theorem Below_sets {B : Nat} {w0 w : World} (h : Below B w0 w) (b : Nat) (hb : B ≤ b) (u0 u1 u2 u3 u4 : Value) : Below B w0 (((((w.setCell ⟨b, 0, none⟩ u0).setCell ⟨b, 1, none⟩ u1).setCell ⟨b, 2, none⟩ u2).setCell ⟨b, 3, none⟩ u3).setCell ⟨b, 4, none⟩ u4) :=
  Below_setCell (Below_setCell (Below_setCell (Below_setCell (Below_setCell h _ _ _ hb) _ _ _ hb) _ _ _ hb) _ _ _ hb) _ _ _ hb
theorem Box5.lt (h : Box5 w b t v0 v1 v2 v3 v4) : b < w.heap.size := (Array.getElem?_eq_some_iff.1 h).1
end
theorem rep_row (n m j : Nat) (c : UInt8) (hj : j < n) : ((List.replicate n (List.replicate m c))[j]?.getD []) = List.replicate m c := by simp [hj]
/-- Rows that are cut out of one block of blanks. -/
theorem own_fill (W : World) (B B1 ba n m : Nat) (t1 t2 : TypeId) (ha : Option Addr) (hc : Nat) (cur : List Value) (hn : 0 < n) (hown : W.ownsRow B1 t2 1 (.slice ha n hc) n ((List.range n).map fun j => .slice (some ⟨ba, j * m, none⟩) m m))
    (hg : W.heap[ba]? = some (.cells cur.toArray t1 (0, 0))) (hk : ∀ k, k < n * m → cur[k]? = some (.int .u8 32)) (hb : B ≤ ba) (hb1 : ba < B1) :
    ∃ g, ha = some ⟨g, 0, none⟩ ∧ OwnRows B W g (fun _ => ba) (fun j => j * m) (fun _ => m) (List.replicate n (List.replicate m 32)) := by
  rcases hown.2 with ⟨h0, h1⟩ | ⟨g, cap, cu, hv, hBg, hgg, hnc, _, hcs, htake⟩
  · omega
  · injection hv with e1 e2 e3
    refine ⟨g, e1, ?_⟩
    have hba : ba < W.heap.size := (Array.getElem?_eq_some_iff.1 hg).1
    refine { head := fun j hj => ?_, base := by omega, low := fun j hj => hb, lt := fun j hj => hba, off := fun j hj => by omega, cell := fun j hj k hk2 => ?_, free := fun j hj k hk2 => ?_, apart := fun i j hi hj hne _ => ?_ }
    · rw [List.length_replicate] at hj
      rw [rep_row n m j 32 hj, List.length_replicate]
      refine row_cell (cur := cu.toList) (t := t2) (by rw [Array.toArray_toList]; exact hgg) ?_
      have h2 : (cu.toList.take (n * 1))[j]? = some (.slice (some ⟨ba, j * m, none⟩) m m) := by rw [htake]; simp [hj]
      rw [List.getElem?_take] at h2
      split at h2
      · exact h2
      · cases h2
    · rw [List.length_replicate] at hj
      rw [rep_row n m j 32 hj] at hk2 ⊢
      rw [List.length_replicate] at hk2
      have h3 : (j + 1) * m ≤ n * m := Nat.mul_le_mul_right m (by omega)
      rw [Nat.add_mul, Nat.one_mul] at h3
      refine row_cell hg ?_
      rw [hk _ (by omega)]; simp [hk2]
    · simp [World.frozen?, hg]
    · rw [List.length_replicate] at hi hj
      rw [rep_row n m i 32 hi, rep_row n m j 32 hj, List.length_replicate]
      rcases Nat.lt_or_gt_of_ne hne with h | h
      · left
        have h3 : (i + 1) * m ≤ j * m := Nat.mul_le_mul_right m (by omega)
        rw [Nat.add_mul, Nat.one_mul] at h3; exact h3
      · right
        have h3 : (j + 1) * m ≤ i * m := Nat.mul_le_mul_right m (by omega)
        rw [Nat.add_mul, Nat.one_mul] at h3; exact h3
theorem ownsRow_other {w w' : World} {B : Nat} {e : TypeId} {sz : Nat} {x : Value} {n : Nat} {xs : List Value} (h : w.ownsRow B e sz x n xs) (b : Nat) (ho : ∀ c, c ≠ b → w'.heap[c]? = w.heap[c]?) (hb : b < B) : w'.ownsRow B e sz x n xs := by
  refine ⟨h.1, ?_⟩
  rcases h.2 with h0 | ⟨g, cap, cur, hv, hB, hg, r⟩
  · exact .inl h0
  · exact .inr ⟨g, cap, cur, hv, hB, by rw [ho g (by omega)]; exact hg, r⟩
theorem own_zero (B : Nat) (w : World) : OwnGrid B w (.agg #[.int .i64 0, .int .i64 0, .slice none 0 0, .int .i64 0, .int .i64 0]) zeroG :=
  ⟨none, 0, rfl, fun h => absurd rfl h⟩
end Go.Proofs.YtnpdpfkoghhioaaDoor
