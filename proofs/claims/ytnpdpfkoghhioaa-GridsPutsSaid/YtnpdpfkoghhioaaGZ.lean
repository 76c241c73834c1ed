/- A cell, and a list of cells, among the arguments. -/
import Derived.Test.YtnpdpfkoghhioaaGU
import Derived.Deep.Slices
import Derived.Deep.Fields
namespace Go.Proofs.Ytnpdpfkoghhioaa
open Go.RowKit Go.ChangeShapes Go.WideShapes
open Go.WideMaps Go.WideElems Go.Deep

theorem byte_of {c : Int} (h : (Lit.int .u8 c).wf = true) : ∃ b : UInt8, c = (b.toNat : Int) := by
  have := bounds_u8 h
  refine ⟨UInt8.ofNat c.toNat, ?_⟩
  rw [UInt8.toNat_ofNat']; omega
theorem cell_of' {H : Type} {enc : TypeId × Value → H} {W : World} {c0 c1 c2 : Value} {x : DataW H × List MemPlace} {fuel base : Nat} {spare : Nat → Bool} {held : Bool}
    (hf : DataW.trod enc Try.prog W base spare held fuel 42 [c0, c1, c2] = some x) :
    ∃ (a b : Int) (ch : UInt8), c0 = .int .i64 a ∧ c1 = .int .i64 b ∧ c2 = .int .u8 (ch.toNat : Int) ∧ (-9223372036854775808 ≤ a ∧ a ≤ 9223372036854775807) ∧ (-9223372036854775808 ≤ b ∧ b ≤ 9223372036854775807) := by
  obtain ⟨xs, n, _, hx, _, hlen, hg⟩ := DataW.trod_struct Try.underlying42 hf
  match xs, hlen with
  | [y0, y1, y2], _ =>
    have g0 := hg 0 _ rfl
    have g1 := hg 1 _ rfl
    have g2 := hg 2 _ rfl
    obtain ⟨n0, e0, _, w0⟩ := DataW.trod_int Try.underlying3 g0
    obtain ⟨n1, e1, _, w1⟩ := DataW.trod_int Try.underlying3 g1
    obtain ⟨n2, e2, _, w2⟩ := DataW.trod_int Try.underlying5 g2
    injection e0 with e0 _
    injection e1 with e1 _
    injection e2 with e2 _
    subst e0 e1 e2
    obtain ⟨ch, rfl⟩ := byte_of w2
    have b0 := bounds_i64 w0
    have b1 := bounds_i64 w1
    exact ⟨n0, n1, ch, rfl, rfl, rfl, by omega, by omega⟩

/-- What is read of a cell. -/
theorem cell_of {H : Type} {enc : TypeId × Value → H} {W : World} {v : Value} {d : DataW H} {p : List MemPlace} {base : Nat}
    (hok : Value.okWide Try.prog W .any base 42 v) (h : DataW.Trod enc Try.prog W 0 (fun _ => true) true 42 v d p) :
    ∃ (a b : Int) (ch : UInt8), v = .agg #[.int .i64 a, .int .i64 b, .int .u8 (ch.toNat : Int)] ∧ (-9223372036854775808 ≤ a ∧ a ≤ 9223372036854775807) ∧ (-9223372036854775808 ≤ b ∧ b ≤ 9223372036854775807) := by
  obtain ⟨cs, rfl, hsz⟩ := okWide_struct Try.underlying42 hok
  obtain ⟨l⟩ := cs
  match l, hsz.trans (show Try.prog.cellsOf 42 = 3 by kernel_rfl) with
  | [c0, c1, c2], _ =>
    obtain ⟨fuel, hf⟩ := h
    obtain ⟨a, b, ch, rfl, rfl, rfl, h1, h2⟩ := cell_of' hf
    exact ⟨a, b, ch, rfl, h1, h2⟩

structure Cl where
  row : Int
  col : Int
  c : UInt8
/-- A list of cells in memory. -/
def CellListAt (w : World) (v : Value) (T : List Cl) : Prop :=
  ∃ a c, v = .slice a T.length c ∧ (T ≠ [] → ∃ b o, a = some ⟨b, o, none⟩ ∧ b < w.heap.size ∧ ∀ j, (h : j < T.length) → w.cell? ⟨b, o + j * 3, none⟩ = some (.int .i64 T[j].row) ∧ w.cell? ⟨b, o + j * 3 + 1, none⟩ = some (.int .i64 T[j].col) ∧ w.cell? ⟨b, o + j * 3 + 2, none⟩ = some (.int .u8 (T[j].c.toNat : Int)))

theorem cells_list_of {H : Type} {enc : TypeId × Value → H} {W : World} {v : Value} {d : DataW H} {p : List MemPlace} {base : Nat}
    (hok : Value.okWide Try.prog W .any base 40 v) (h : DataW.Trod enc Try.prog W 0 (fun _ => true) true 40 v d p) :
    ∃ T, CellListAt W v T ∧ T.length ≤ 9223372036854775807 ∧ ∀ x ∈ T, (-9223372036854775808 ≤ x.row ∧ x.row ≤ 9223372036854775807) ∧ (-9223372036854775808 ≤ x.col ∧ x.col ≤ 9223372036854775807) := by
  obtain ⟨a0, len, cap, rfl⟩ := okWide_slice Try.underlying40 hok
  obtain ⟨fuel, hf⟩ := h
  rcases open_slice Try.underlying40 hf with ⟨hcs, hx⟩ | ⟨a, len', cap', m, n, D, Pl, hcs, _, hl, hm, hmm, hx, hi⟩
  · injection hcs with hcs _
    injection hcs with e1 e2 e3
    subst e1 e2 e3
    exact ⟨[], ⟨none, 0, rfl, fun h => absurd rfl h⟩, by simp, by simp⟩
  · injection hcs with hcs _
    injection hcs with e1 e2 e3
    subst e1 e2 e3
    simp only [if_true] at hmm
    unfold maxLen at hm
    subst hmm
    have hC : Try.prog.cellsOf 42 = 3 := by kernel_rfl
    have each : ∀ j, j < len → ∃ x : Cl, W.cell? (a.add (j * 3)) = some (.int .i64 x.row) ∧ W.cell? ((a.add (j * 3)).add 1) = some (.int .i64 x.col) ∧ W.cell? ((a.add (j * 3)).add 2) = some (.int .u8 (x.c.toNat : Int)) ∧ (-9223372036854775808 ≤ x.row ∧ x.row ≤ 9223372036854775807) ∧ (-9223372036854775808 ≤ x.col ∧ x.col ≤ 9223372036854775807) := by
      intro j hj
      obtain ⟨cs', hc, ht⟩ := hi j (by omega)
      rw [hC] at hc
      obtain ⟨_, hcl, hat⟩ := World.cells?_some hc
      match cs', hcl with
      | [c0, c1, c2], _ =>
        obtain ⟨x, y, ch, rfl, rfl, rfl, h1, h2⟩ := cell_of' ht
        have q0 := hat 0 (by simp)
        have q1 := hat 1 (by simp)
        have q2 := hat 2 (by simp)
        rw [add_zero] at q0
        exact ⟨⟨x, y, ch⟩, q0, q1, q2, h1, h2⟩
    obtain ⟨F, hF⟩ : ∃ F : Nat → Cl, ∀ j, j < len → W.cell? (a.add (j * 3)) = some (.int .i64 (F j).row) ∧ W.cell? ((a.add (j * 3)).add 1) = some (.int .i64 (F j).col) ∧ W.cell? ((a.add (j * 3)).add 2) = some (.int .u8 ((F j).c.toNat : Int)) ∧ (-9223372036854775808 ≤ (F j).row ∧ (F j).row ≤ 9223372036854775807) ∧ (-9223372036854775808 ≤ (F j).col ∧ (F j).col ≤ 9223372036854775807) :=
      ⟨fun j => if h : j < len then Classical.choose (each j h) else ⟨0, 0, 0⟩, fun j hj => by
        have := Classical.choose_spec (each j hj)
        simp only [dif_pos hj]; exact this⟩
    refine ⟨(List.range len).map F, ⟨some a, m, by simp, fun hne => ?_⟩, by simp; omega, fun x hx => ?_⟩
    · have hpos : 0 < len := by
        rcases Nat.eq_zero_or_pos len with h0 | h0
        · rw [h0] at hne; exact absurd rfl hne
        · exact h0
      have h0 := (hF 0 hpos).1
      rw [Nat.zero_mul, add_zero] at h0
      obtain ⟨e1, e2⟩ := plain_of_cell h0
      refine ⟨a.block, a.off, by rw [← e1], e2, fun j hj => ?_⟩
      simp at hj
      obtain ⟨q0, q1, q2, _⟩ := hF j hj
      rw [e1, add_plain] at q0
      rw [e1, add_plain, add_plain] at q1 q2
      simp only [List.getElem_map, List.getElem_range]
      exact ⟨q0, q1, q2⟩
    · obtain ⟨j, hj, rfl⟩ := List.mem_map.1 hx
      have hj := List.mem_range.1 hj
      exact ⟨(hF j hj).2.2.2.1, (hF j hj).2.2.2.2⟩
end Go.Proofs.Ytnpdpfkoghhioaa
