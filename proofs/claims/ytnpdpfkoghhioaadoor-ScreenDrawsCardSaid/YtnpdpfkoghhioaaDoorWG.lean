/- wraps.Cells. -/
import Derived.Test.YtnpdpfkoghhioaaDoorWF
import Derived.Deep.RegionWith
namespace Go.Proofs.YtnpdpfkoghhioaaDoor
open Go.RowKit

def nums (l : List Nat) : List Value := l.map fun n : Nat => .int .i64 (n : Int)
/-- A slice of ints. -/
def IntsAt (w : World) (v : Value) (l : List Nat) : Prop :=
  ∃ a c, v = .slice a l.length c ∧ (l ≠ [] → ∃ b o, a = some ⟨b, o, none⟩ ∧ b < w.heap.size ∧ ∀ j, j < l.length → w.cell? ⟨b, o + j, none⟩ = some (.int .i64 ((l[j]?.getD 0 : Nat) : Int)))
theorem IntsAt.later {w w' : World} {v : Value} {l : List Nat} (h : IntsAt w v l) (hb : Below w.heap.size w w') : IntsAt w' v l := by
  obtain ⟨a, c, hv, h⟩ := h
  refine ⟨a, c, hv, fun hne => ?_⟩
  obtain ⟨b, o, ha, hlt, hc⟩ := h hne
  exact ⟨b, o, ha, Nat.lt_of_lt_of_le hlt hb.size, fun j hj => (hb.cell (p := ⟨b, o + j, none⟩) hlt).trans (hc j hj)⟩
theorem ints_own {B : Nat} {e : TypeId} {w : World} {v : Value} {l : List Nat} (h : w.ownsRow B e 1 v l.length (nums l)) : IntsAt w v l := by
  rcases h.2 with ⟨rfl, h0⟩ | ⟨g, cap, cu, rfl, hBg, hgg, _, _, _, ht⟩
  · exact ⟨none, 0, by rw [h0], fun hne => absurd (List.eq_nil_of_length_eq_zero h0) hne⟩
  · refine ⟨_, _, rfl, fun _ => ⟨g, 0, rfl, (Array.getElem?_eq_some_iff.1 hgg).1, fun j hj => ?_⟩⟩
    rw [Nat.zero_add]
    refine rowc (cur := cu.toList) (t := e) (by rw [Array.toArray_toList]; exact hgg) ?_
    have h2 : (cu.toList.take (l.length * 1))[j]? = some (.int .i64 ((l[j]?.getD 0 : Nat) : Int)) := by rw [ht]; simp [nums, hj]
    rw [List.getElem?_take] at h2
    split at h2
    · exact h2
    · cases h2
theorem places_step (l : List UInt8) (k : Nat) : (List.range (k + 1)).map (fun j => (cellsTo l j).length) = (List.range k).map (fun j => (cellsTo l j).length) ++ [(cellsTo l k).length] := by
  rw [List.range_succ, List.map_append]; rfl
def posTo (l : List UInt8) (k : Nat) : List Nat := (List.range k).map fun j => (cellsTo l j).length
theorem posTo_succ (l : List UInt8) (k : Nat) : posTo l (k + 1) = posTo l k ++ [(cellsTo l k).length] := places_step l k
theorem posTo_len (l : List UInt8) (k : Nat) : (posTo l k).length = k := by simp [posTo]
theorem posTo_all (l : List UInt8) : posTo l (l.length + 1) = placesL l := rfl
/-- A row of ints is kept by what keeps blocks of ints. -/
theorem own_keeps {B : Nat} {w w' : World} {v : Value} {n : Nat} {xs : List Value} (h : w.ownsRow B 3 1 v n xs) (hk : Keeps w w') : w'.ownsRow B 3 1 v n xs := by
  refine ⟨h.1, ?_⟩
  rcases h.2 with h0 | ⟨g, cap, cur, hv, hB, hg, r⟩
  · exact .inl h0
  · exact .inr ⟨g, cap, cur, hv, hB, hk g cur hg, r⟩
/-- A builder is kept by an append to a row of ints. -/
theorem builder_keeps {B B' b : Nat} {bs : List Value} {w w' : World} {v : Value} {n : Nat} {xs : List Value} (h : Lib.IsBuilder 81 5 B b bs w) (hown : w.ownsRow B' 3 1 v n xs) (hg : w.grownBy w' v.ownBlock) : Lib.IsBuilder 81 5 B b bs w' := by
  have key : ∀ p, Lib.BuilderAt 81 5 B b p bs w → Lib.BuilderAt 81 5 B b p bs w' := by
    rintro p ⟨hB, u, hb, ho, hne⟩
    refine ⟨hB, u, ?_, ?_, hne⟩
    · rw [hg.block b (Array.getElem?_eq_some_iff.1 hb).1 (fun e => Lib.ownBlock_ne hown hb (by decide) e.symm)]; exact hb
    · refine ⟨ho.1, ?_⟩
      rcases ho.2 with h0 | ⟨g, cap, cur, hv, hBg, hgg, r⟩
      · exact .inl h0
      · exact .inr ⟨g, cap, cur, hv, hBg, by rw [hg.block g (Array.getElem?_eq_some_iff.1 hgg).1 (fun e => Lib.ownBlock_ne hown hgg (by decide) e.symm)]; exact hgg, r⟩
  exact h.imp (key _) (key _)
theorem builder_below {B b : Nat} {bs : List Value} {w w' : World} (h : Lib.IsBuilder 81 5 B b bs w) (hb : Below w.heap.size w w') : Lib.IsBuilder 81 5 B b bs w' := by
  have key : ∀ p, Lib.BuilderAt 81 5 B b p bs w → Lib.BuilderAt 81 5 B b p bs w' := by
    rintro p ⟨hB, u, hbk, ho, hne⟩
    refine ⟨hB, u, (hb.block b (Array.getElem?_eq_some_iff.1 hbk).1).trans hbk, ⟨ho.1, ?_⟩, hne⟩
    rcases ho.2 with h0 | ⟨g, cap, cur, hv, hBg, hgg, r⟩
    · exact .inl h0
    · exact .inr ⟨g, cap, cur, hv, hBg, (hb.block g (Array.getElem?_eq_some_iff.1 hgg).1).trans hgg, r⟩
  exact h.imp (key _) (key _)
end Go.Proofs.YtnpdpfkoghhioaaDoor
