/- FilesKeep: plain laws; what is held over a stroke. -/
import Derived.Test.YtmoaecicibjmnaaKM
namespace Go.Proofs.Ytmoaecicibjmnaa
open Go.RowKit

theorem TextsIn.turn {M M' : Nat → Prop} {w w' : World} {v : Value} {T : List ByteArray} (h : TextsIn (fun k => ¬ M k) w v T) (hM : ∀ k, M' k → M k ∨ w.heap.size ≤ k) (ho : Out M w w') : TextsIn (fun k => ¬ M' k) w' v T :=
  h.eq ho.size fun k hk hn => ⟨ho.block k hk hn, fun hm => by rcases hM k hm with h1 | h1; exact hn h1; omega⟩
theorem IntsIn.turn {M M' : Nat → Prop} {w w' : World} {v : Value} {T : List Int} (h : IntsIn (fun k => ¬ M k) w v T) (hM : ∀ k, M' k → M k ∨ w.heap.size ≤ k) (ho : Out M w w') : IntsIn (fun k => ¬ M' k) w' v T :=
  h.eq ho.size fun k hk hn => ⟨ho.block k hk hn, fun hm => by rcases hM k hm with h1 | h1; exact hn h1; omega⟩
theorem TextsIn.off {M : Nat → Prop} {B : Nat} {w : World} {v : Value} {T : List ByteArray} (h : TextsIn (fun k => B ≤ k) w v T) (hM : ∀ k, M k → k < B) : TextsIn (fun k => ¬ M k) w v T :=
  h.eq (Nat.le_refl _) fun k _ hb => ⟨rfl, fun hm => by have := hM k hm; omega⟩
theorem IntsIn.off {M : Nat → Prop} {B : Nat} {w : World} {v : Value} {T : List Int} (h : IntsIn (fun k => B ≤ k) w v T) (hM : ∀ k, M k → k < B) : IntsIn (fun k => ¬ M k) w v T :=
  h.eq (Nat.le_refl _) fun k _ hb => ⟨rfl, fun hm => by have := hM k hm; omega⟩
theorem IntsIn.later {P : Nat → Prop} {w w' : World} {v : Value} {T : List Int} (h : IntsIn P w v T) (hb : Below w.heap.size w w') : IntsIn P w' v T := h.eq hb.size fun k hk hp => ⟨hb.block k hk, hp⟩
theorem ints_in {B : Nat} {e : TypeId} {w : World} {v : Value} {l : List PF} {f : PF → Int} (h : w.ownsRow B e 1 v l.length (l.map fun x => Value.int .i64 (f x))) : IntsIn (fun k => B ≤ k) w v (l.map f) := by
  refine ints_of_own (e := e) ?_
  unfold intVs
  rw [List.length_map, List.map_map]; exact h

theorem ext_app (p a : ByteArray) (j : Nat) : (p ++ a).extract 0 (p.size + j) = p ++ a.extract 0 j := by
  have h1 : ((p ++ a).extract 0 (p.size + j)).data = (p ++ a.extract 0 j).data := by
    simp only [ByteArray.data_extract, ByteArray.data_append]
    have hp : p.size = p.data.size := rfl
    rw [Array.extract_append, hp, Array.extract_eq_self_of_le (by omega)]
    congr 1
    congr 1 <;> omega
  exact ByteArray.ext h1
/-- What is left of a file over a crash, as FilesKeep reckons it. -/
def leftN (x : PF) (keep : List Int) (i : Nat) : Nat := x.pl.size + min (keepAt keep i).toNat x.air.size
theorem left_bytes (x : PF) (keep : List Int) (i : Nat) : x.bytes.extract 0 (leftN x keep i) = (cr x (keepAt keep i)).bytes := by
  unfold leftN PF.bytes cr
  rw [ext_app]
  simp
theorem crash_get (L : List PF) (keep : List Int) {i : Nat} {x : PF} (h : L[i]? = some x) : (crashL L keep)[i]? = some (cr x (keepAt keep i)) := by
  unfold crashL
  rw [crashTo_get L keep L.length i x h, if_pos (List.getElem?_eq_some_iff.1 h).1]
theorem crash_len (L : List PF) (keep : List Int) : (crashL L keep).length = L.length := crashTo_len L keep L.length
theorem crash_again (L : List PF) (k1 k2 : List Int) : (crashL (crashL L k1) k2).map PF.bytes = (crashL L k1).map PF.bytes := by
  apply List.ext_getElem?
  intro i
  rw [List.getElem?_map, List.getElem?_map]
  cases h : (crashL L k1)[i]? with
  | none => rw [List.getElem?_eq_none (by rw [crash_len]; exact List.getElem?_eq_none_iff.1 h)]
  | some y =>
    rw [crash_get _ k2 h]
    obtain ⟨x, hx⟩ : ∃ x, L[i]? = some x := ⟨_, List.getElem?_eq_getElem (by have := (List.getElem?_eq_some_iff.1 h).1; rw [crash_len] at this; exact this)⟩
    have hy := crash_get L k1 hx
    rw [h] at hy
    injection hy with hy
    subst hy
    simp [cr, PF.bytes]
end Go.Proofs.Ytmoaecicibjmnaa
