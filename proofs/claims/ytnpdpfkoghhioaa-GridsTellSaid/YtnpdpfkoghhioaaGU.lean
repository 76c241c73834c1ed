/- A grid among the arguments: what its reading says of memory. -/
import Derived.Test.YtnpdpfkoghhioaaGT
import Derived.Test.YtnpdpfkoghhioaaRows
import Derived.ProofKit
import Derived.OpenShut
import Derived.Deep.Matrix
namespace Go.Proofs.Ytnpdpfkoghhioaa
open Go.RowKit Go.ChangeShapes Go.WideShapes
open Go.WideMaps Go.WideElems Go.Deep

def bytesOf (zs : List Int) : List UInt8 := zs.map fun z => UInt8.ofNat z.toNat
theorem bytesOf_get (zs : List Int) (h : ∀ n ∈ zs, (Lit.int .u8 n).wf = true) (c : Nat) (hc : c < zs.length) : (((bytesOf zs)[c]?.getD 0).toNat : Int) = zs.getD c 0 := by
  unfold bytesOf
  rw [List.getElem?_map, List.getElem?_eq_getElem hc]
  have := bounds_u8 (h _ (List.getElem_mem hc))
  simp only [Option.map_some, Option.getD_some, List.getD_eq_getElem?_getD, List.getElem?_eq_getElem hc]
  rw [UInt8.toNat_ofNat']
  omega

theorem add_zero (a : Addr) : a.add 0 = a := by simp [Addr.add]

theorem cells_of {H : Type} {enc : TypeId × Value → H} {W : World} {fuel : Nat} {cs : List Value} {x : DataW H × List MemPlace}
    (h : DataW.trod enc Try.prog W 0 (fun _ => true) true fuel 22 cs = some x) :
    ∃ cv L, cs = [cv] ∧ CellsAt W.heap.size W cv L ∧ L.length ≤ 9223372036854775807 ∧ ∀ r ∈ L, r.length ≤ 9223372036854775807 := by
  rcases open_int_rows Try.underlying22 Try.underlying32 Try.underlying5 (by kernel_rfl) (by kernel_rfl) h with ⟨rfl, _⟩ | ⟨a, len, cap, A, Ln, C, Z, rfl, _, hl, hm, _, hr⟩
  · exact ⟨_, [], rfl, ⟨none, 0, rfl, fun h => absurd rfl h⟩, by simp, by simp⟩
  · unfold maxLen at hm
    refine ⟨_, (List.range len).map fun r => bytesOf ((Z r).take (Ln r)), rfl, ⟨some a, cap, by simp, fun hne => ?_⟩, by simp; omega, fun r hr2 => ?_⟩
    · have hlen : 0 < len := by
        rcases Nat.eq_zero_or_pos len with h0 | h0
        · rw [h0] at hne; exact absurd rfl hne
        · exact h0
      have h0 := (hr 0 (by omega)).1
      rw [add_zero] at h0
      obtain ⟨e1, e2⟩ := plain_of_cell h0
      refine ⟨a.block, a.off, by rw [← e1], e2, fun j hj => ?_⟩
      simp at hj
      obtain ⟨q1, q2, q3, q4, q5, q6, q7⟩ := hr j (by omega)
      rw [e1, add_plain] at q1
      refine ⟨_, q1, A j, C j, by simp [hj, bytesOf]; omega, fun hne2 => ?_⟩
      simp [hj] at hne2
      have hpos : 0 < Ln j := by
        rcases Nat.eq_zero_or_pos (Ln j) with h0 | h0
        · rw [h0] at hne2; simp [bytesOf] at hne2
        · exact h0
      cases hA : A j with
      | none => have := q6 hA; omega
      | some a' =>
        obtain ⟨_, hc⟩ := q7 a' hA
        have h1 := hc 0 (by omega)
        rw [add_zero] at h1
        obtain ⟨f1, f2⟩ := plain_of_cell h1
        refine ⟨a'.block, a'.off, by rw [← f1], f2, fun k hk => ?_⟩
        have hzl : ((Z j).take (Ln j)).length = Ln j := by rw [List.length_take]; omega
        simp [hj, bytesOf] at hk
        have h2 := hc k (by omega)
        rw [f1, add_plain] at h2
        rw [h2]
        simp only [List.getElem?_map, List.getElem?_range hj, Option.map_some, Option.getD_some]
        rw [bytesOf_get _ (fun n hn => q5 n (List.mem_of_mem_take hn)) k (by omega)]
        congr 2
        simp only [List.getD_eq_getElem?_getD]
        rw [List.getElem?_take, if_pos (by omega)]
    · obtain ⟨j, hj, rfl⟩ := List.mem_map.1 hr2
      have hj := List.mem_range.1 hj
      obtain ⟨_, q2, q3, q4, _⟩ := hr j (by omega)
      unfold maxLen at q3
      simp [bytesOf]; omega

/-- What is read of a grid. -/
theorem grid_of {H : Type} {enc : TypeId × Value → H} {W : World} {v : Value} {d : DataW H} {p : List MemPlace} {base : Nat}
    (hok : Value.okWide Try.prog W .any base 24 v) (h : DataW.Trod enc Try.prog W 0 (fun _ => true) true 24 v d p) :
    ∃ g, GridAt W.heap.size W v g ∧ g.cells.length ≤ 9223372036854775807 ∧ (∀ r ∈ g.cells, r.length ≤ 9223372036854775807) ∧
      (-9223372036854775808 ≤ g.rows ∧ g.rows ≤ 9223372036854775807) ∧ (-9223372036854775808 ≤ g.cols ∧ g.cols ≤ 9223372036854775807) ∧ (-9223372036854775808 ≤ g.row ∧ g.row ≤ 9223372036854775807) ∧ (-9223372036854775808 ≤ g.col ∧ g.col ≤ 9223372036854775807) := by
  obtain ⟨cs, rfl, hsz⟩ := okWide_struct Try.underlying24 hok
  obtain ⟨l⟩ := cs
  match l, hsz.trans (show Try.prog.cellsOf 24 = 5 by kernel_rfl) with
  | [c0, c1, c2, c3, c4], _ =>
    obtain ⟨fuel, hf⟩ := h
    obtain ⟨xs, n, _, hx, _, hlen, hg⟩ := DataW.trod_struct Try.underlying24 hf
    match xs, hlen with
    | [y0, y1, y2, y3, y4], _ =>
      have g0 := hg 0 _ rfl
      have g1 := hg 1 _ rfl
      have g2 := hg 2 _ rfl
      have g3 := hg 3 _ rfl
      have g4 := hg 4 _ rfl
      simp only [Value.cells] at g0 g1 g2 g3 g4
      obtain ⟨n0, e0, _, w0⟩ := DataW.trod_int Try.underlying3 g0
      obtain ⟨n1, e1, _, w1⟩ := DataW.trod_int Try.underlying3 g1
      obtain ⟨n3, e3, _, w3⟩ := DataW.trod_int Try.underlying3 g3
      obtain ⟨n4, e4, _, w4⟩ := DataW.trod_int Try.underlying3 g4
      obtain ⟨cv, L, e2, hc, hb1, hb2⟩ := cells_of g2
      injection e0 with e0 _
      injection e1 with e1 _
      injection e2 with e2 _
      injection e3 with e3 _
      injection e4 with e4 _
      subst e0 e1 e2 e3 e4
      have b0 := bounds_i64 w0
      have b1 := bounds_i64 w1
      have b3 := bounds_i64 w3
      have b4 := bounds_i64 w4
      exact ⟨⟨n0, n1, L, n3, n4⟩, ⟨_, rfl, hc⟩, hb1, hb2, by simp only; omega, by simp only; omega, by simp only; omega, by simp only; omega⟩
end Go.Proofs.Ytnpdpfkoghhioaa
