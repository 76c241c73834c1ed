/- Plain laws of a Write: what is there behind it. -/
import Derived.Test.YtmoaecicibjmnaaSC
namespace Go.Proofs.Ytmoaecicibjmnaa
open Go.RowKit

theorem mem_isAt {L : List PF} (hL : Rising L) (n : ByteArray) : isAt L n = true ↔ ∃ x ∈ L, x.name = n := by
  constructor
  · intro h
    obtain ⟨x, hx, hn⟩ := isAt_get h
    exact ⟨x, List.mem_of_getElem? hx, hn⟩
  · rintro ⟨x, hx, rfl⟩
    obtain ⟨k, hk⟩ := List.mem_iff_getElem?.1 hx
    exact isAt_self hL hk
theorem mem_uniq {L : List PF} (hL : Rising L) {x y : PF} (hx : x ∈ L) (hy : y ∈ L) (hn : x.name = y.name) : x = y := by
  obtain ⟨i, hi⟩ := List.mem_iff_getElem?.1 hx
  obtain ⟨j, hj⟩ := List.mem_iff_getElem?.1 hy
  have h1 := place_self hL hi
  have h2 := place_self hL hj
  rw [hn, h2] at h1
  subst h1
  rw [hi] at hj
  injection hj
theorem rising_drop {L : List PF} (hL : Rising L) (n : ByteArray) : Rising (dropL L n) := by
  unfold dropL
  split
  · exact List.Pairwise.sublist (List.eraseIdx_sublist _ _) hL
  · exact hL
theorem mem_drop {L : List PF} (hL : Rising L) (n : ByteArray) (y : PF) : y ∈ dropL L n ↔ y ∈ L ∧ y.name ≠ n := by
  constructor
  · intro h
    refine ⟨?_, fun hn => ?_⟩
    · unfold dropL at h
      split at h
      · exact (List.eraseIdx_sublist _ _).subset h
      · exact h
    · have := drop_none hL n
      rw [(mem_isAt (rising_drop hL n) n).2 ⟨y, h, hn⟩] at this
      cases this
  · rintro ⟨h, hn⟩
    unfold dropL
    split
    · rename_i hi
      obtain ⟨x, hx, hxn⟩ := isAt_get hi
      obtain ⟨j, hj⟩ := List.mem_iff_getElem?.1 h
      refine List.mem_eraseIdx_iff_getElem?.2 ⟨j, fun e => ?_, hj⟩
      rw [e, hx] at hj
      injection hj with hj
      subst hj
      exact hn hxn
    · exact h
theorem mem_insL {L : List PF} {i : Nat} {x y : PF} : y ∈ insL L i x ↔ y = x ∨ y ∈ L := by
  refine ⟨mem_ins, fun h => ?_⟩
  unfold insL
  rw [List.mem_append, List.mem_cons]
  rcases h with h | h
  · exact .inr (.inl h)
  · rw [← List.take_append_drop i L, List.mem_append] at h
    rcases h with h | h
    · exact .inl h
    · exact .inr (.inr h)
theorem mem_setL {L : List PF} (hL : Rising L) {i : Nat} {x x' : PF} (h : L[i]? = some x) (y : PF) : y ∈ L.set i x' ↔ y = x' ∨ (y ∈ L ∧ y.name ≠ x.name) := by
  have hi := (List.getElem?_eq_some_iff.1 h).1
  constructor
  · intro hy
    obtain ⟨j, hj⟩ := List.mem_iff_getElem?.1 hy
    by_cases e : j = i
    · subst e
      rw [List.getElem?_set_self hi] at hj
      injection hj with hj
      exact .inl hj.symm
    · rw [List.getElem?_set_ne (Ne.symm e)] at hj
      refine .inr ⟨List.mem_of_getElem? hj, fun hn => e ?_⟩
      have h1 := place_self hL hj
      have h2 := place_self hL h
      rw [hn, h2] at h1
      exact h1.symm
  · rintro (rfl | ⟨hy, hn⟩)
    · exact List.mem_iff_getElem?.2 ⟨i, List.getElem?_set_self hi⟩
    · obtain ⟨j, hj⟩ := List.mem_iff_getElem?.1 hy
      refine List.mem_iff_getElem?.2 ⟨j, ?_⟩
      rw [List.getElem?_set_ne (fun e => ?_)]
      · exact hj
      · subst e
        rw [h] at hj
        injection hj with hj
        subst hj
        exact hn rfl
theorem cr_synced {x : PF} (h : x.air = ByteArray.empty) (k : Int) : cr x k = x := by
  cases x with
  | mk a p r =>
    subst h
    simp [cr]
theorem cr_name (x : PF) (k : Int) : (cr x k).name = x.name := rfl

/-- All but the draft is on the platter. -/
def Synced (F : FR) : Prop := ∀ y ∈ F.files, y.name ≠ dN → y.air = ByteArray.empty
theorem crash_rest {F : FR} (hs : Synced F) (keep : List Int) (y : PF) (hy : y.name ≠ dN) : y ∈ (crashF F keep).files ↔ y ∈ F.files := by
  show y ∈ crashL F.files keep ↔ _
  constructor
  · intro h
    obtain ⟨i, hi⟩ := List.mem_iff_getElem?.1 h
    obtain ⟨x, hx⟩ : ∃ x, F.files[i]? = some x := ⟨_, List.getElem?_eq_getElem (by have := (List.getElem?_eq_some_iff.1 hi).1; rw [crash_len] at this; exact this)⟩
    have := crash_get F.files keep hx
    rw [hi] at this
    injection this with this
    have hxm := List.mem_of_getElem? hx
    have hxn : x.name ≠ dN := by rw [← cr_name x (keepAt keep i), ← this]; exact hy
    rw [this, cr_synced (hs x hxm hxn)]
    exact hxm
  · intro h
    obtain ⟨i, hi⟩ := List.mem_iff_getElem?.1 h
    have := crash_get F.files keep hi
    rw [cr_synced (hs y h hy)] at this
    exact List.mem_of_getElem? this
/-- A state of a Write, ahead of its Rename. -/
structure Mid (F G : FR) : Prop where
  off : G.off = false
  lim : G.limit = F.limit
  neg : F.left = -1 → G.left = -1
  rest : ∀ y : PF, y.name ≠ dN → (y ∈ G.files ↔ y ∈ F.files)
  snd : Sound G
theorem Mid.synced {F G : FR} (h : Mid F G) (hs : Synced F) : Synced G := fun y hy hn => hs y ((h.rest y hn).1 hy) hn
/-- What a Write that is cut off leaves. -/
structure Cut (F G : FR) : Prop where
  hit : F.left ≠ -1
  off : G.off = true
  left : G.left = -1
  lim : G.limit = F.limit
  rest : ∀ y : PF, y.name ≠ dN → (y ∈ G.files ↔ y ∈ F.files)
theorem Mid.cut {F G : FR} (h : Mid F G) (hs : Synced F) (hl : G.left = 0) (keep : List Int) : Cut F (crashF G keep) :=
  ⟨fun e => by have := h.neg e; omega, rfl, rfl, h.lim, fun y hy => (crash_rest (h.synced hs) keep y hy).trans (h.rest y hy)⟩
theorem d_named : namedB dN = true := by decide +kernel
theorem hasE_on {F : FR} (hG : Sound F) (ho : F.off = false) (n : ByteArray) : (hasE F n = 0 ∧ ∃ x ∈ F.files, x.name = n) ∨ (hasE F n = 4 ∧ ∀ x ∈ F.files, x.name ≠ n) := by
  unfold hasE
  rw [if_neg (by rw [ho]; simp)]
  by_cases hi : isAt F.files n = true
  · rw [if_pos hi]; exact .inl ⟨rfl, (mem_isAt hG.asc n).1 hi⟩
  · rw [if_neg hi]; exact .inr ⟨rfl, fun x hx hn => hi ((mem_isAt hG.asc n).2 ⟨x, hx, hn⟩)⟩
end Go.Proofs.Ytmoaecicibjmnaa
