/- Plain laws for FilesRoom: what is refused for want of room changes nothing; how many bytes may be stays. -/
import Derived.Test.YtmoaecicibjmnaaKT
namespace Go.Proofs.Ytmoaecicibjmnaa
open Go.RowKit

theorem hasE_cases (F : FR) (n : ByteArray) : hasE F n = 0 ∨ hasE F n = 51 ∨ hasE F n = 4 := by
  unfold hasE; split; simp; split <;> simp
theorem with_full {F : FR} {d : DoR} (h : withE F d = 50) : withF F d = F := by
  have hs : ∀ n, strokeE F n ≠ 50 := fun n => by
    unfold strokeE; rcases hasE_cases F n with e | e | e <;> rw [e] <;> simp <;> split <;> omega
  unfold withE at h
  unfold withF
  split at h
  · exact absurd h (hs _)
  · exact absurd h (hs _)
  · exfalso; revert h; unfold cutE; rcases hasE_cases F d.A with e | e | e <;> rw [e] <;> simp
    split; omega; split <;> omega
  · exfalso; revert h; unfold renE; rcases hasE_cases F d.A with e | e | e <;> rw [e] <;> simp
    split; split <;> omega; omega
  · exact absurd h (hs _)
  · exfalso; revert h; unfold crashE; split <;> omega
  · exfalso; revert h; unfold startE; split <;> omega
  · exfalso; revert h; unfold startE; split <;> omega
  · exfalso; revert h; unfold failE; split; omega; split <;> omega
  · unfold appE at h
    unfold appF
    split at h
    · omega
    · split at h
      · omega
      · split at h
        · rename_i hf; rw [if_pos (.inr (.inr hf))]
        · split at h <;> omega
theorem setX_limit (F : FR) (n : ByteArray) (f : PF → PF) : (setX F n f).limit = F.limit := by unfold setX; split <;> rfl
theorem doneF_limit {F F2 : FR} (h : F2.limit = F.limit) : (doneF F F2).limit = F.limit := by
  unfold doneF; split; rfl; split <;> exact h
theorem with_limit (F : FR) (d : DoR) : (withF F d).limit = F.limit := by
  unfold withF
  split
  · unfold syncF; split; exact doneF_limit (setX_limit _ _ _); rfl
  · unfold syncF; split; exact doneF_limit (setX_limit _ _ _); rfl
  · unfold cutF; split; exact doneF_limit (setX_limit _ _ _); rfl
  · unfold renameF; split; exact doneF_limit rfl; rfl
  · unfold removeF; split; exact doneF_limit rfl; rfl
  · unfold crashG; split <;> rfl
  · unfold startF; split <;> rfl
  · unfold startF; split <;> rfl
  · unfold failF; split <;> rfl
  · unfold appF; split
    · rfl
    · have hx : (appX F d.A d.S).limit = F.limit := (appX_left F d.A d.S).2.2.1
      unfold doneA; split; exact hx; split <;> exact hx
def namesL (F : FR) : List ByteArray := F.files.map PF.name
/-- A slice of texts, in blocks of P. -/
def TextsIn (P : Nat → Prop) (w : World) (v : Value) (T : List ByteArray) : Prop :=
  ∃ a c, v = .slice a T.length c ∧ (T ≠ [] → ∃ b o, a = some ⟨b, o, none⟩ ∧ b < w.heap.size ∧ P b ∧ ∀ j, (h : j < T.length) → w.cell? ⟨b, o + j, none⟩ = some (.string T[j]))
theorem TextsIn.at {P : Nat → Prop} {w : World} {v : Value} {T : List ByteArray} (h : TextsIn P w v T) : TextsAt w v T := by
  obtain ⟨a, c, hv, h⟩ := h
  exact ⟨a, c, hv, fun hne => by obtain ⟨b, o, h1, h2, _, h3⟩ := h hne; exact ⟨b, o, h1, h2, h3⟩⟩
theorem TextsIn.eq {P P' : Nat → Prop} {w w' : World} {v : Value} {T : List ByteArray} (h : TextsIn P w v T) (hs : w.heap.size ≤ w'.heap.size) (he : ∀ k, k < w.heap.size → P k → w'.heap[k]? = w.heap[k]? ∧ P' k) : TextsIn P' w' v T := by
  obtain ⟨a, c, rfl, h⟩ := h
  refine ⟨a, c, rfl, fun hne => ?_⟩
  obtain ⟨b, o, ha, hb, hp, hc⟩ := h hne
  exact ⟨b, o, ha, Nat.lt_of_lt_of_le hb hs, (he b hb hp).2, fun j hj => (World.cell?_of_block (a := ⟨b, _, none⟩) (he b hb hp).1).trans (hc j hj)⟩
theorem TextsIn.below {P : Nat → Prop} {w w' : World} {v : Value} {T : List ByteArray} (h : TextsIn P w v T) (hb : Below w.heap.size w w') : TextsIn P w' v T := h.eq hb.size fun k hk hp => ⟨hb.block k hk, hp⟩
theorem TextsIn.val {P : Nat → Prop} {w : World} {v : Value} {T : List ByteArray} (h : TextsIn P w v T) : ∃ a c, v = .slice a T.length c := by obtain ⟨a, c, h, _⟩ := h; exact ⟨a, c, h⟩
/-- The texts that a row of them has. -/
theorem texts_in {B : Nat} {e : TypeId} {w : World} {v : Value} {T : List ByteArray} (h : w.ownsRow B e 1 v T.length (T.map Value.string)) : TextsIn (fun k => B ≤ k) w v T := by
  rcases h.2 with ⟨rfl, h0⟩ | ⟨g, cap, cu, rfl, hBg, hgg, _, _, _, _⟩
  · exact ⟨none, 0, by rw [h0], fun hne => absurd (List.eq_nil_of_length_eq_zero h0) hne⟩
  · refine ⟨_, _, rfl, fun _ => ⟨g, 0, rfl, (Array.getElem?_eq_some_iff.1 hgg).1, hBg, fun j hj => ?_⟩⟩
    rw [Nat.zero_add, h.cellAt j (by omega), List.getElem?_map, List.getElem?_eq_getElem hj]; rfl
theorem names_in {B : Nat} {e : TypeId} {w : World} {v : Value} {l : List PF} (h : w.ownsRow B e 1 v l.length (l.map fun x => Value.string x.name)) : TextsIn (fun k => B ≤ k) w v (l.map PF.name) := by
  refine texts_in (e := e) ?_
  rw [List.length_map, List.map_map]; exact h
theorem TextsAt.eq {w w' : World} {v : Value} {T : List ByteArray} (h : TextsAt w v T) (hs : w.heap.size ≤ w'.heap.size) (he : ∀ k, k < w.heap.size → w'.heap[k]? = w.heap[k]?) : TextsAt w' v T := by
  obtain ⟨a, c, rfl, h⟩ := h
  refine ⟨a, c, rfl, fun hne => ?_⟩
  obtain ⟨b, o, ha, hb, hc⟩ := h hne
  exact ⟨b, o, ha, Nat.lt_of_lt_of_le hb hs, fun j hj => (World.cell?_of_block (a := ⟨b, _, none⟩) (he b hb)).trans (hc j hj)⟩
theorem TextsAt.below {w w' : World} {v : Value} {T : List ByteArray} (h : TextsAt w v T) (hb : Below w.heap.size w w') : TextsAt w' v T := h.eq hb.size fun k hk => hb.block k hk
/-- The names rise: as the program compares them. -/
theorem rising_names {F : FR} (hG : Sound F) {k : Nat} {x y : PF} (hx : F.files[k]? = some x) (hy : F.files[k + 1]? = some y) : ltN x.name y.name = true := rising_get hG.asc (Nat.lt_succ_self k) hx hy
end Go.Proofs.Ytmoaecicibjmnaa
