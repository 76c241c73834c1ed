/- Two grids of a call's own memory, apart from one another: plain lemmas on worlds. -/
import Derived.Test.YtnpdpfkoghhioaaGY
import Derived.Test.YtnpdpfkoghhioaaHQ
namespace Go.Proofs.Ytnpdpfkoghhioaa
open Go.RowKit

/-- A grid's cells lie in blocks from lo on, ahead of hi. -/
def Owned (w : World) (h : Option Addr) (g : G) (lo hi : Nat) : Prop :=
  hi ≤ w.heap.size ∧ (g.cells ≠ [] → ∃ hb rb ro rc, h = some ⟨hb, 0, none⟩ ∧ hb < hi ∧ (∀ j, j < g.cells.length → rb j < hi) ∧ OwnRows lo w hb rb ro rc g.cells)

theorem Owned.of {B : Nat} {w : World} {g : G} {h : Option Addr} {k : Nat} (ho : OwnGrid B w (gval g h k) g) : Owned w h g B w.heap.size := by
  obtain ⟨ha, hc, hv, h2⟩ := ho
  have e : ha = h := by
    simp only [gval, Value.agg.injEq] at hv
    injection hv with hv
    injection hv with _ hv; injection hv with _ hv; injection hv with hv _
    injection hv with h1 _ _
    exact h1.symm
  subst e
  refine ⟨Nat.le_refl _, fun hne => ?_⟩
  obtain ⟨hb, rb, ro, rc, he, hr⟩ := h2 hne
  exact ⟨hb, rb, ro, rc, he, hr.head_lt hne, hr.lt, hr⟩

theorem OwnRows.keep {lo hi : Nat} {w w' : World} {hb : Nat} {rb ro rc : Nat → Nat} {L : List (List UInt8)} (h : OwnRows lo w hb rb ro rc L) (h1 : hb < hi) (h2 : ∀ j, j < L.length → rb j < hi)
    (ho : ∀ c, lo ≤ c → c < hi → w'.heap[c]? = w.heap[c]?) (hs : hi ≤ w'.heap.size) : OwnRows lo w' hb rb ro rc L where
  head j hj := (World.cell?_of_block (ho hb h.base h1)).trans (h.head j hj)
  base := h.base
  low := h.low
  lt j hj := Nat.lt_of_lt_of_le (h2 j hj) hs
  off := h.off
  cell j hj k hk := (World.cell?_of_block (ho (rb j) (h.low j hj) (h2 j hj))).trans (h.cell j hj k hk)
  free j hj k hk := (World.frozen?_of_block (ho (rb j) (h.low j hj) (h2 j hj))).trans (h.free j hj k hk)
  apart := h.apart

theorem Owned.keep {w w' : World} {h : Option Addr} {g : G} {lo hi : Nat} (ho : Owned w h g lo hi) (hk : ∀ c, lo ≤ c → c < hi → w'.heap[c]? = w.heap[c]?) (hs : hi ≤ w'.heap.size) : Owned w' h g lo hi := by
  refine ⟨hs, fun hne => ?_⟩
  obtain ⟨hb, rb, ro, rc, he, h1, h2, hr⟩ := ho.2 hne
  exact ⟨hb, rb, ro, rc, he, h1, h2, hr.keep h1 h2 hk hs⟩
theorem Owned.later {w w' : World} {h : Option Addr} {g : G} {lo hi : Nat} (ho : Owned w h g lo hi) (hb : Below w.heap.size w w') : Owned w' h g lo hi :=
  ho.keep (fun c _ hc => hb.block c (Nat.lt_of_lt_of_le hc ho.1)) (Nat.le_trans ho.1 hb.size)
theorem Owned.later' {w4 w : World} {h : Option Addr} {g : G} {lo hi : Nat} (ho : Owned w4 h g lo hi) (hb : Below w4.heap.size w4 w) : Owned w h g lo hi := ho.later hb
theorem Owned.at {w : World} {h : Option Addr} {g : G} {lo hi k : Nat} (ho : Owned w h g lo hi) : GridAt w.heap.size w (gval g h k) g := by
  refine OwnGrid.at (B := lo) ⟨h, k, rfl, fun hne => ?_⟩
  obtain ⟨hb, rb, ro, rc, he, _, _, hr⟩ := ho.2 hne
  exact ⟨hb, rb, ro, rc, he, hr⟩
/-- Lists of rows of the same lengths. -/
def Alike (L M : List (List UInt8)) : Prop := L.map List.length = M.map List.length
theorem Alike.len {L M : List (List UInt8)} (h : Alike L M) : L.length = M.length := by have := congrArg List.length h; simpa using this
theorem Alike.row {L M : List (List UInt8)} (h : Alike L M) (j : Nat) : (L[j]?.getD []).length = (M[j]?.getD []).length := by
  have := congrArg (fun l => l[j]?.getD 0) h
  simp only [List.getElem?_map] at this
  cases e1 : L[j]? <;> cases e2 : M[j]? <;> simp_all
theorem Alike.put {L M : List (List UInt8)} (h : Alike L M) (i k : Nat) (c : UInt8) : Alike (putL L i k c) M := by
  unfold Alike at *
  rw [← h]
  apply List.ext_getElem?
  intro j
  rw [List.getElem?_map, List.getElem?_map]
  unfold putL
  rw [List.getElem?_modify]
  by_cases e : i = j
  · subst e; cases L[i]? <;> simp
  · cases L[j]? <;> simp [e]
/-- The state between the two grids' loops: their boxes b1, b2, headers h1, h2, cells in [l1, u1) and [l2, u2); all from N on, apart. -/
structure Apart (N b1 b2 l1 u1 l2 u2 : Nat) : Prop where
  n1 : N ≤ b1
  n2 : N ≤ b2
  m1 : N ≤ l1
  m2 : N ≤ l2
  ne : b1 ≠ b2
  x11 : b1 < l1 ∨ u1 ≤ b1
  x12 : b1 < l2 ∨ u2 ≤ b1
  x21 : b2 < l1 ∨ u1 ≤ b2
  x22 : b2 < l2 ∨ u2 ≤ b2
  y : u1 ≤ l2 ∨ u2 ≤ l1
theorem size_setCell (w : World) (a : Addr) (v : Value) : (w.setCell a v).heap.size = w.heap.size := by simp [World.setCell]
theorem Owned.of' {B : Nat} {w : World} {g : G} {h : Option Addr} {k : Nat} (ho : OwnGrid B w (gval g h k) g) : ∃ lo, lo = B ∧ Owned w h g lo w.heap.size := ⟨B, rfl, Owned.of ho⟩
theorem box_new (w : World) (b : Nat) (v0 v1 v2 v3 v4 : Value) (hb : b = w.heap.size) : Box5 (w.alloc (.cells #[v0, v1, v2, v3, v4] 24)) b 24 v0 v1 v2 v3 v4 := by
  subst hb; unfold Box5; rw [heap_alloc, if_pos rfl]
theorem box_alloc {w : World} {b : Nat} {t : TypeId} {v0 v1 v2 v3 v4 : Value} (hx : Box5 w b t v0 v1 v2 v3 v4) (o : Obj) : Box5 (w.alloc o) b t v0 v1 v2 v3 v4 := hx.below ((Below.refl _ _).alloc (Nat.le_refl _) o) hx.lt
theorem box_drew {w : World} {b : Nat} {t : TypeId} {v0 v1 v2 v3 v4 : Value} (hx : Box5 w b t v0 v1 v2 v3 v4) : Box5 w.drew b t v0 v1 v2 v3 v4 := hx
theorem box_later {w w' : World} {b : Nat} {t : TypeId} {v0 v1 v2 v3 v4 : Value} (hx : Box5 w b t v0 v1 v2 v3 v4) (hb : Below w.heap.size w w') : Box5 w' b t v0 v1 v2 v3 v4 := hx.below hb hx.lt
def Boxy (w : World) (b : Nat) (t : TypeId) : Prop := ∃ v0 v1 v2 v3 v4, Box5 w b t v0 v1 v2 v3 v4
theorem box_sets {w : World} {b : Nat} {t : TypeId} (hx : Boxy w b t) (u0 u1 u2 u3 u4 : Value) : Box5 (((((w.setCell ⟨b, 0, none⟩ u0).setCell ⟨b, 1, none⟩ u1).setCell ⟨b, 2, none⟩ u2).setCell ⟨b, 3, none⟩ u3).setCell ⟨b, 4, none⟩ u4) b t u0 u1 u2 u3 u4 := by
  obtain ⟨_, _, _, _, _, hx⟩ := hx
  exact hx.sets _ _ _ _ _
theorem boxy_new (w : World) (b : Nat) (v0 v1 v2 v3 v4 : Value) (hb : b = w.heap.size) : Boxy (w.alloc (.cells #[v0, v1, v2, v3, v4] 24)) b 24 := ⟨_, _, _, _, _, box_new w b v0 v1 v2 v3 v4 hb⟩
theorem boxy_alloc {w : World} {b : Nat} {t : TypeId} (hx : Boxy w b t) (o : Obj) : Boxy (w.alloc o) b t := by
  obtain ⟨_, _, _, _, _, hx⟩ := hx
  exact ⟨_, _, _, _, _, box_alloc hx o⟩
theorem boxy_drew {w : World} {b : Nat} {t : TypeId} (hx : Boxy w b t) : Boxy w.drew b t := hx
theorem boxy_later {w w' : World} {b : Nat} {t : TypeId} (hx : Boxy w b t) (hb : Below w.heap.size w w') : Boxy w' b t := by
  obtain ⟨_, _, _, _, _, hx⟩ := hx
  exact ⟨_, _, _, _, _, box_later hx hb⟩
theorem boxy_other {w : World} {b : Nat} {t : TypeId} (hx : Boxy w b t) (b' k : Nat) (v : Value) (hne : b ≠ b') : Boxy (w.setCell ⟨b', k, none⟩ v) b t := by
  obtain ⟨_, _, _, _, _, hx⟩ := hx
  exact ⟨_, _, _, _, _, hx.other b' k v hne⟩
theorem below_alloc {W x : World} (h : Below W.heap.size W x) (o : Obj) : Below W.heap.size W (x.alloc o) := h.alloc h.size o
theorem Held.of {W w' : World} (h : Below W.heap.size W w') : (∀ b o, b < W.heap.size → w'.cell? ⟨b, o, none⟩ = W.cell? ⟨b, o, none⟩) ∧ Below W.heap.size W w' := ⟨hcell h, h⟩
/-- Steps that a grid of the call's own outlives. -/
theorem Owned.alloc {w : World} {h : Option Addr} {g : G} {lo hi : Nat} (ho : Owned w h g lo hi) (o : Obj) : Owned (w.alloc o) h g lo hi := ho.later ((Below.refl _ _).alloc (Nat.le_refl _) o)
theorem Owned.drew {w : World} {h : Option Addr} {g : G} {lo hi : Nat} (ho : Owned w h g lo hi) : Owned w.drew h g lo hi := ho.later (Below.refl _ _).drew
theorem Owned.set {w : World} {h : Option Addr} {g : G} {lo hi : Nat} (ho : Owned w h g lo hi) (b k : Nat) (v : Value) (hb : b < lo ∨ hi ≤ b) : Owned (w.setCell ⟨b, k, none⟩ v) h g lo hi :=
  ho.keep (fun c h1 h2 => setCell_heap_other _ _ _ _ _ (by omega)) (by simp [World.setCell]; exact ho.1)
theorem gbox_alloc {w : World} {b : Nat} {g : G} {h : Option Addr} {k : Nat} (hx : GBox w b g h k) (o : Obj) : GBox (w.alloc o) b g h k := hx.below ((Below.refl _ _).alloc (Nat.le_refl _) o) hx.lt
theorem gbox_drew {w : World} {b : Nat} {g : G} {h : Option Addr} {k : Nat} (hx : GBox w b g h k) : GBox w.drew b g h k := hx
theorem gbox_later {w w' : World} {b : Nat} {g : G} {h : Option Addr} {k : Nat} (hx : GBox w b g h k) (hb : Below w.heap.size w w') : GBox w' b g h k := hx.below hb hx.lt
theorem row_small {g : G} (h : Small g) (k : Nat) : (g.cells[k]?.getD []).length ≤ 1000000 := by
  cases e : g.cells[k]? with
  | none => simp
  | some r => exact h.2 r (List.mem_of_getElem? e)
/-- What the filling of a grid of the call's own turns: blocks from lo on, ahead of hi. -/
structure Within (lo hi : Nat) (w w' : World) : Prop where
  os : w'.os = w.os
  tape : w'.tape = w.tape
  output : w'.output = w.output
  size : w'.heap.size = w.heap.size
  block : ∀ c, c < lo ∨ hi ≤ c → w'.heap[c]? = w.heap[c]?
theorem Within.refl (lo hi : Nat) (w : World) : Within lo hi w w := ⟨rfl, rfl, rfl, rfl, fun _ _ => rfl⟩
theorem Within.set {lo hi : Nat} {w w' : World} (h : Within lo hi w w') (b k : Nat) (v : Value) (h1 : lo ≤ b) (h2 : b < hi) : Within lo hi w (w'.setCell ⟨b, k, none⟩ v) :=
  ⟨h.os, h.tape, h.output, by rw [size_setCell]; exact h.size, fun c hc => by rw [setCell_heap_other _ _ _ _ _ (by omega)]; exact h.block c hc⟩
theorem Within.below {lo hi N : Nat} {w w' : World} (h : Within lo hi w w') (hN : N ≤ lo) : Below N w w' := ⟨h.os, h.tape, h.output, by rw [h.size]; exact Nat.le_refl _, fun c hc => h.block c (by omega)⟩
theorem Within.cell {lo hi : Nat} {w w' : World} (h : Within lo hi w w') {b : Nat} (hb : b < lo ∨ hi ≤ b) (k : Nat) : w'.cell? ⟨b, k, none⟩ = w.cell? ⟨b, k, none⟩ := World.cell?_of_block (h.block b hb)
/-- A grid of the call's own whose cells are being filled. -/
def Fill (W : World) (h : Option Addr) (g : G) (lo hi : Nat) (w : World) : Prop := ∃ L, Alike L g.cells ∧ Owned w h ⟨g.rows, g.cols, L, g.row, g.col⟩ lo hi ∧ Within lo hi W w
theorem Fill.start {W : World} {h : Option Addr} {g : G} {lo hi : Nat} (ho : Owned W h g lo hi) : Fill W h g lo hi W := ⟨g.cells, rfl, ho, Within.refl _ _ _⟩
theorem Fill.row {W w : World} {h : Option Addr} {g : G} {lo hi : Nat} (hf : Fill W h g lo hi w) {i : Nat} (hi' : i < g.cells.length) :
    ∃ hb rb ro rc, h = some ⟨hb, 0, none⟩ ∧ w.cell? ⟨hb, i, none⟩ = some (.slice (some ⟨rb, ro, none⟩) (g.cells[i]?.getD []).length rc) := by
  obtain ⟨L, ha, ho, _⟩ := hf
  have hL := ha.len
  obtain ⟨hb, rb, ro, rc, he, h1, h2, hr⟩ := ho.2 (by intro e; simp only at e; rw [e] at hL; simp at hL; omega)
  refine ⟨hb, rb i, ro i, rc i, he, ?_⟩
  rw [hr.head i (by simp only; omega)]
  simp only [ha.row i]
theorem Fill.at {W w : World} {h : Option Addr} {g : G} {lo hi : Nat} (hf : Fill W h g lo hi w) {i : Nat} (hi' : i < g.cells.length) {k : Nat} (hk : k < (g.cells[i]?.getD []).length) :
    ∃ hb rb ro rc, h = some ⟨hb, 0, none⟩ ∧ w.cell? ⟨hb, i, none⟩ = some (.slice (some ⟨rb, ro, none⟩) (g.cells[i]?.getD []).length rc) ∧ (∃ z : Int, w.cell? ⟨rb, ro + k, none⟩ = some (.int .u8 z)) ∧ w.frozen? ⟨rb, ro + k, none⟩ = false ∧
      ∀ c : UInt8, Fill W h g lo hi (w.setCell ⟨rb, ro + k, none⟩ (.int .u8 (c.toNat : Int))) := by
  obtain ⟨L, ha, ho, hw⟩ := hf
  have hL := ha.len
  have hR := ha.row i
  obtain ⟨hb, rb, ro, rc, he, h1, h2, hr⟩ := ho.2 (by intro e; simp only at e; rw [e] at hL; simp at hL; omega)
  have hiL : i < L.length := by omega
  refine ⟨hb, rb i, ro i, rc i, he, ?_, ⟨_, hr.cell i hiL k (by simp only; omega)⟩, hr.free i hiL k (by simp only; omega), fun c => ?_⟩
  · rw [hr.head i hiL]
    simp only [hR]
  · refine ⟨putL L i k c, ha.put i k c, ⟨by rw [size_setCell]; exact ho.1, fun _ => ⟨hb, rb, ro, rc, he, h1, fun j hj => h2 j (by simp only at hj ⊢; rw [putL_length] at hj; exact hj), hr.set i k hiL (by simp only; omega) c⟩⟩, hw.set _ _ _ (hr.low i hiL) (h2 i hiL)⟩
end Go.Proofs.Ytnpdpfkoghhioaa
