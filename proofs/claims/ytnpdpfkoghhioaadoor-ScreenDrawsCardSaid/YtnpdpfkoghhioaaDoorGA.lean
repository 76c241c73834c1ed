/- Screens of cells in memory: what a grid's value says of its cells' blocks; plain lemmas on worlds, no function of the program. -/
import Derived.WalkKit
import Derived.WalkSpells
import Derived.Lib.Hide
namespace Go.Proofs.YtnpdpfkoghhioaaDoor
open Go.RowKit

theorem ret_int {k : IntKind} {a b : Int} (h : a = b) : Ending.returned (.int k a) = .returned (.int k b) := by rw [h]
theorem below_tr {w a b : World} (h1 : Below w.heap.size w a) (h2 : Below a.heap.size a b) : Below w.heap.size w b := h1.trans (h2.mono h1.size)
theorem below_drew {w b : World} (h : Below w.drew.heap.size w.drew b) : Below w.heap.size w b := (Below.refl _ _).drew.trans h
theorem plain_of_cell {w : World} {a : Addr} {v : Value} (h : w.cell? a = some v) : a = ⟨a.block, a.off, none⟩ ∧ a.block < w.heap.size := by
  unfold World.cell? at h
  split at h
  · rename_i c e f hc
    by_cases hs : a.spot.isSome = true
    · rw [if_pos hs] at h; cases h
    · refine ⟨?_, (Array.getElem?_eq_some_iff.1 hc).1⟩
      cases a with
      | mk b o s =>
        cases s with
        | none => rfl
        | some _ => exact absurd rfl hs
  · cases h
theorem lt_of_cell {w : World} {b o : Nat} {v : Value} (h : w.cell? ⟨b, o, none⟩ = some v) : b < w.heap.size := (plain_of_cell h).2
theorem add_plain (b o i : Nat) : (⟨b, o, none⟩ : Addr).add i = ⟨b, o + i, none⟩ := by
  unfold Addr.add; split
  · rename_i h; rw [h]; rfl
  · rfl

/-- A grid as plain data. -/
structure G where
  rows : Int
  cols : Int
  cells : List (List UInt8)
  row : Int
  col : Int

/-- A slice of bytes, in blocks below B. -/
def RowAt (B : Nat) (w : World) (v : Value) (l : List UInt8) : Prop :=
  ∃ a c, v = .slice a l.length c ∧ (l ≠ [] → ∃ b o, a = some ⟨b, o, none⟩ ∧ b < B ∧ ∀ k, k < l.length → w.cell? ⟨b, o + k, none⟩ = some (.int .u8 ((l[k]?.getD 0).toNat : Int)))
/-- A slice of slices of bytes, in blocks below B. -/
def CellsAt (B : Nat) (w : World) (v : Value) (L : List (List UInt8)) : Prop :=
  ∃ a c, v = .slice a L.length c ∧ (L ≠ [] → ∃ b o, a = some ⟨b, o, none⟩ ∧ b < B ∧ ∀ j, j < L.length → ∃ rv, w.cell? ⟨b, o + j, none⟩ = some rv ∧ RowAt B w rv (L[j]?.getD []))
/-- A grid's value, its cells in blocks below B. -/
def GridAt (B : Nat) (w : World) (v : Value) (g : G) : Prop :=
  ∃ cv, v = .agg #[.int .i64 g.rows, .int .i64 g.cols, cv, .int .i64 g.row, .int .i64 g.col] ∧ CellsAt B w cv g.cells

theorem RowAt.below {B : Nat} {w w' : World} {v : Value} {l : List UInt8} (h : RowAt B w v l) (hb : Below B w w') : RowAt B w' v l := by
  obtain ⟨a, c, hv, h⟩ := h
  refine ⟨a, c, hv, fun hne => ?_⟩
  obtain ⟨b, o, ha, hB, hc⟩ := h hne
  exact ⟨b, o, ha, hB, fun k hk => (hb.cell (p := ⟨b, o + k, none⟩) hB).trans (hc k hk)⟩
theorem RowAt.mono {B B' : Nat} {w : World} {v : Value} {l : List UInt8} (h : RowAt B w v l) (hb : B ≤ B') : RowAt B' w v l := by
  obtain ⟨a, c, hv, h⟩ := h
  refine ⟨a, c, hv, fun hne => ?_⟩
  obtain ⟨b, o, ha, hB, hc⟩ := h hne
  exact ⟨b, o, ha, Nat.lt_of_lt_of_le hB hb, hc⟩
theorem CellsAt.below {B : Nat} {w w' : World} {v : Value} {L : List (List UInt8)} (h : CellsAt B w v L) (hb : Below B w w') : CellsAt B w' v L := by
  obtain ⟨a, c, hv, h⟩ := h
  refine ⟨a, c, hv, fun hne => ?_⟩
  obtain ⟨b, o, ha, hB, hc⟩ := h hne
  refine ⟨b, o, ha, hB, fun j hj => ?_⟩
  obtain ⟨rv, h1, h2⟩ := hc j hj
  exact ⟨rv, (hb.cell (p := ⟨b, o + j, none⟩) hB).trans h1, h2.below hb⟩
theorem CellsAt.mono {B B' : Nat} {w : World} {v : Value} {L : List (List UInt8)} (h : CellsAt B w v L) (hb : B ≤ B') : CellsAt B' w v L := by
  obtain ⟨a, c, hv, h⟩ := h
  refine ⟨a, c, hv, fun hne => ?_⟩
  obtain ⟨b, o, ha, hB, hc⟩ := h hne
  refine ⟨b, o, ha, Nat.lt_of_lt_of_le hB hb, fun j hj => ?_⟩
  obtain ⟨rv, h1, h2⟩ := hc j hj
  exact ⟨rv, h1, h2.mono hb⟩
theorem GridAt.below {B : Nat} {w w' : World} {v : Value} {g : G} (h : GridAt B w v g) (hb : Below B w w') : GridAt B w' v g := by
  obtain ⟨cv, hv, h⟩ := h
  exact ⟨cv, hv, h.below hb⟩
theorem GridAt.mono {B B' : Nat} {w : World} {v : Value} {g : G} (h : GridAt B w v g) (hb : B ≤ B') : GridAt B' w v g := by
  obtain ⟨cv, hv, h⟩ := h
  exact ⟨cv, hv, h.mono hb⟩
/-- What was there is there behind a call that only makes memory. -/
theorem GridAt.later {w w' : World} {v : Value} {g : G} (h : GridAt w.heap.size w v g) (hb : Below w.heap.size w w') : GridAt w'.heap.size w' v g := (h.below hb).mono hb.size
theorem CellsAt.later {w w' : World} {v : Value} {L : List (List UInt8)} (h : CellsAt w.heap.size w v L) (hb : Below w.heap.size w w') : CellsAt w'.heap.size w' v L := (h.below hb).mono hb.size
theorem RowAt.later {w w' : World} {v : Value} {l : List UInt8} (h : RowAt w.heap.size w v l) (hb : Below w.heap.size w w') : RowAt w'.heap.size w' v l := (h.below hb).mono hb.size

/-- The rows that a call owns: their header in the block hb, row j at (rb j, ro j), all in blocks from B on, not frozen, apart from one another. -/
structure OwnRows (B : Nat) (w : World) (hb : Nat) (rb ro rc : Nat → Nat) (L : List (List UInt8)) : Prop where
  head : ∀ j, j < L.length → w.cell? ⟨hb, j, none⟩ = some (.slice (some ⟨rb j, ro j, none⟩) (L[j]?.getD []).length (rc j))
  base : B ≤ hb
  low : ∀ j, j < L.length → B ≤ rb j
  lt : ∀ j, j < L.length → rb j < w.heap.size
  off : ∀ j, j < L.length → rb j ≠ hb
  cell : ∀ j, j < L.length → ∀ k, k < (L[j]?.getD []).length → w.cell? ⟨rb j, ro j + k, none⟩ = some (.int .u8 (((L[j]?.getD [])[k]?.getD 0).toNat : Int))
  free : ∀ j, j < L.length → ∀ k, k < (L[j]?.getD []).length → w.frozen? ⟨rb j, ro j + k, none⟩ = false
  apart : ∀ i j, i < L.length → j < L.length → i ≠ j → rb i = rb j → ro i + (L[i]?.getD []).length ≤ ro j ∨ ro j + (L[j]?.getD []).length ≤ ro i

/-- A grid whose memory the call itself has made. -/
def OwnGrid (B : Nat) (w : World) (v : Value) (g : G) : Prop :=
  ∃ ha hc, v = .agg #[.int .i64 g.rows, .int .i64 g.cols, .slice ha g.cells.length hc, .int .i64 g.row, .int .i64 g.col] ∧
    (g.cells ≠ [] → ∃ hb rb ro rc, ha = some ⟨hb, 0, none⟩ ∧ OwnRows B w hb rb ro rc g.cells)

theorem OwnRows.head_lt {B : Nat} {w : World} {hb : Nat} {rb ro rc : Nat → Nat} {L : List (List UInt8)} (h : OwnRows B w hb rb ro rc L) (hne : L ≠ []) : hb < w.heap.size :=
  lt_of_cell (h.head 0 (by cases L with | nil => exact absurd rfl hne | cons _ _ => simp))
theorem OwnRows.below {B n : Nat} {w w' : World} {hb : Nat} {rb ro rc : Nat → Nat} {L : List (List UInt8)} (h : OwnRows B w hb rb ro rc L) (hB : Below n w w') (h1 : hb < n) (h2 : ∀ j, j < L.length → rb j < n) : OwnRows B w' hb rb ro rc L where
  head j hj := (hB.cell (p := ⟨hb, j, none⟩) h1).trans (h.head j hj)
  base := h.base
  low := h.low
  lt j hj := Nat.lt_of_lt_of_le (h.lt j hj) hB.size
  off := h.off
  cell j hj k hk := (hB.cell (p := ⟨rb j, ro j + k, none⟩) (h2 j hj)).trans (h.cell j hj k hk)
  free j hj k hk := (hB.frozen (p := ⟨rb j, ro j + k, none⟩) (h2 j hj)).trans (h.free j hj k hk)
  apart := h.apart
theorem OwnGrid.later {B : Nat} {w w' : World} {v : Value} {g : G} (h : OwnGrid B w v g) (hB : Below w.heap.size w w') : OwnGrid B w' v g := by
  obtain ⟨ha, hc, hv, h⟩ := h
  refine ⟨ha, hc, hv, fun hne => ?_⟩
  obtain ⟨hb, rb, ro, rc, he, ho⟩ := h hne
  exact ⟨hb, rb, ro, rc, he, ho.below hB (ho.head_lt hne) ho.lt⟩
theorem OwnGrid.mono {B B' : Nat} {w : World} {v : Value} {g : G} (h : OwnGrid B w v g) (hB : B' ≤ B) : OwnGrid B' w v g := by
  obtain ⟨ha, hc, hv, h⟩ := h
  refine ⟨ha, hc, hv, fun hne => ?_⟩
  obtain ⟨hb, rb, ro, rc, he, ho⟩ := h hne
  exact ⟨hb, rb, ro, rc, he, { ho with base := Nat.le_trans hB ho.base, low := fun j hj => Nat.le_trans hB (ho.low j hj) }⟩
theorem OwnGrid.at {B : Nat} {w : World} {v : Value} {g : G} (h : OwnGrid B w v g) : GridAt w.heap.size w v g := by
  obtain ⟨ha, hc, hv, h⟩ := h
  refine ⟨_, hv, ha, hc, rfl, fun hne => ?_⟩
  obtain ⟨hb, rb, ro, rc, he, ho⟩ := h hne
  refine ⟨hb, 0, he, ho.head_lt hne, fun j hj => ⟨_, by rw [Nat.zero_add]; exact ho.head j hj, some ⟨rb j, ro j, none⟩, rc j, rfl, fun hr => ⟨rb j, ro j, rfl, ho.lt j hj, fun k hk => ho.cell j hj k hk⟩⟩⟩

/-- The rows, one byte of which is another one. -/
def putL (L : List (List UInt8)) (i k : Nat) (c : UInt8) : List (List UInt8) := L.modify i fun r => r.set k c
theorem putL_length (L : List (List UInt8)) (i k : Nat) (c : UInt8) : (putL L i k c).length = L.length := by simp [putL]
theorem putL_row (L : List (List UInt8)) (i k : Nat) (c : UInt8) (j : Nat) (hj : j < L.length) : (putL L i k c)[j]?.getD [] = if i = j then (L[j]?.getD []).set k c else L[j]?.getD [] := by
  unfold putL
  rw [List.getElem?_modify]
  by_cases h : i = j
  · subst h; simp [hj]
  · simp [h]
theorem putL_row_length (L : List (List UInt8)) (i k : Nat) (c : UInt8) (j : Nat) (hj : j < L.length) : ((putL L i k c)[j]?.getD []).length = (L[j]?.getD []).length := by
  rw [putL_row L i k c j hj]; split <;> simp

/-- A store into a row that is owned. -/
theorem OwnRows.set {B : Nat} {w : World} {hb : Nat} {rb ro rc : Nat → Nat} {L : List (List UInt8)} (h : OwnRows B w hb rb ro rc L) (i k : Nat) (hi : i < L.length) (hk : k < (L[i]?.getD []).length) (c : UInt8) :
    OwnRows B (w.setCell ⟨rb i, ro i + k, none⟩ (.int .u8 (c.toNat : Int))) hb rb ro rc (putL L i k c) := by
  have hl := putL_length L i k c
  refine { head := fun j hj => ?_, base := h.base, low := fun j hj => h.low j (by omega), lt := fun j hj => by rw [hl] at hj; simp [World.setCell]; exact h.lt j hj, off := fun j hj => h.off j (by omega), cell := fun j hj q hq => ?_, free := fun j hj q hq => ?_, apart := fun a b ha hb' hne he => ?_ }
  · rw [hl] at hj
    rw [putL_row_length L i k c j hj, ← h.head j hj]
    exact World.cell?_setCell_other _ _ _ _ (by intro e; injection e with e1 _; exact h.off i hi e1)
  · rw [hl] at hj
    rw [putL_row_length L i k c j hj] at hq
    rw [putL_row L i k c j hj]
    by_cases hij : i = j
    · subst hij
      rw [if_pos rfl]
      by_cases hkq : k = q
      · subst hkq
        rw [World.cell?_setCell_same _ _ _ (h.cell i hi k hk)]
        simp [hk]
      · rw [World.cell?_setCell_other _ _ _ _ (by intro e; injection e with _ e2; omega), h.cell i hi q hq]
        rw [List.getElem?_set_ne hkq]
    · rw [if_neg hij, World.cell?_setCell_other _ _ _ _ ?_, h.cell j hj q hq]
      intro e
      injection e with e1 e2
      have := h.apart i j hi hj hij e1
      omega
  · rw [hl] at hj
    rw [putL_row_length L i k c j hj] at hq
    rw [World.frozen?_setCell]; exact h.free j hj q hq
  · rw [hl] at ha hb'
    rw [putL_row_length L i k c a ha, putL_row_length L i k c b hb']
    exact h.apart a b ha hb' hne he

/-! ### What the chapter says, as plain data -/
def sizedB (r c : Int) : Bool := decide (2 ≤ r) && decide (r ≤ 60) && decide (8 ≤ c) && decide (c ≤ 132)
def plainC (c : UInt8) : Bool := decide (32 ≤ c.toNat) && decide (c.toNat ≤ 126)
def mayB (g : G) : Bool := sizedB g.rows g.cols && decide ((g.cells.length : Int) = g.rows) && (decide (0 ≤ g.row) && decide (g.row < g.rows)) && (decide (0 ≤ g.col) && decide (g.col < g.cols)) &&
  g.cells.all fun r => decide ((r.length : Int) = g.cols) && r.all plainC
def newG (r c : Int) : G := { rows := r, cols := c, cells := List.replicate r.toNat (List.replicate c.toNat 32), row := 0, col := 0 }
def zeroG : G := { rows := 0, cols := 0, cells := [], row := 0, col := 0 }
def putB (g : G) (i k : Int) (c : UInt8) : Bool := mayB g && decide (0 ≤ i) && decide (i < g.rows) && decide (0 ≤ k) && decide (k < g.cols) && plainC c
def putG (g : G) (i k : Int) (c : UInt8) : G := if putB g i k c then { g with cells := putL g.cells i.toNat k.toNat c } else g
end Go.Proofs.YtnpdpfkoghhioaaDoor
