/- Plain laws: what is done to a file system leaves it sound. -/
import Derived.Test.YtmoaecicibjmnaaKC
namespace Go.Proofs.Ytmoaecicibjmnaa
open Go.RowKit

theorem total_map_le (L L' : List PF) (hl : L'.length = L.length) (h : ∀ (i : Nat) (x y : PF), L[i]? = some x → L'[i]? = some y → y.pl.size + y.air.size ≤ x.pl.size + x.air.size) : total L' ≤ total L := by
  induction L generalizing L' with
  | nil => have : L' = [] := List.eq_nil_of_length_eq_zero (by simpa using hl); rw [this]; exact Nat.le_refl _
  | cons x L ih =>
    cases L' with
    | nil => simp at hl
    | cons y L' =>
      rw [total_cons, total_cons]
      have h0 := h 0 x y rfl rfl
      have := ih L' (by simpa using hl) fun i a c ha hc => h (i + 1) a c (by simpa using ha) (by simpa using hc)
      omega
theorem rising_same {L L' : List PF} (hL : Rising L) (h : L'.map PF.name = L.map PF.name) : Rising L' := by
  have h1 : ∀ l : List PF, Rising l ↔ (l.map PF.name).Pairwise fun a b => ltN a b = true := fun l => by unfold Rising; rw [List.pairwise_map]
  rw [h1, h, ← h1]; exact hL
theorem crash_names (L : List PF) (l : List Int) : (crashL L l).map PF.name = L.map PF.name := by
  apply List.ext_getElem?
  intro i
  rw [List.getElem?_map, List.getElem?_map]
  cases h : L[i]? with
  | none =>
    have : (crashL L l)[i]? = none := by
      rw [List.getElem?_eq_none_iff] at h ⊢
      unfold crashL; rw [crashTo_len]; exact h
    rw [this]
  | some x =>
    have := crashTo_get L l L.length i x h
    rw [if_pos (List.getElem?_eq_some_iff.1 h).1] at this
    unfold crashL
    rw [this]; rfl
theorem Sound.crash {F : FR} (h : Sound F) (l : List Int) : Sound (crashF F l) where
  lim1 := h.lim1
  lim2 := h.lim2
  cnt := by show (crashL F.files l).length ≤ 32; unfold crashL; rw [crashTo_len]; exact h.cnt
  asc := rising_same h.asc (crash_names F.files l)
  nam x hx := by
    have hm : x.name ∈ (crashL F.files l).map PF.name := List.mem_map_of_mem hx
    rw [crash_names] at hm
    obtain ⟨y, hy, he⟩ := List.mem_map.1 hm
    rw [← he]; exact h.nam y hy
  sum := by
    have : total (crashL F.files l) ≤ total F.files := total_map_le _ _ (by unfold crashL; rw [crashTo_len]) fun i x y hx hy => by
      have h2 := crashTo_get F.files l F.files.length i x hx
      rw [if_pos (List.getElem?_eq_some_iff.1 hx).1] at h2
      unfold crashL at hy
      rw [h2] at hy
      injection hy with hy
      subst hy
      show (x.pl ++ x.air.extract 0 _).size + ByteArray.empty.size ≤ _
      rw [ByteArray.size_append, ByteArray.size_extract]
      have : ByteArray.empty.size = 0 := rfl
      omega
    have := h.sum
    show ((total (crashL F.files l) : Nat) : Int) ≤ F.limit
    omega
  lf := by show (-1 : Int) ≤ _; omega
  kl := h.kl
theorem Sound.left {F : FR} (h : Sound F) (l : Int) (hl : l ≤ 9223372036854775807) : Sound { F with left := l } := ⟨h.lim1, h.lim2, h.cnt, h.asc, h.nam, h.sum, hl, h.kl⟩
theorem Sound.done {F F2 : FR} (h : Sound F) (h2 : Sound F2) : Sound (doneF F F2) := by
  unfold doneF
  split
  · exact h.crash _
  · split
    · exact h2.left _ (by have := h.lf; omega)
    · exact h2
theorem Sound.doneA {F : FR} (h : Sound F) : Sound (doneA F) := by
  unfold Go.Proofs.Ytmoaecicibjmnaa.doneA
  split
  · exact h.crash _
  · split
    · exact h.left _ (by have := h.lf; omega)
    · exact h
theorem Sound.sync {F : FR} (h : Sound F) (n : ByteArray) (hi : isAt F.files n = true) : Sound (setX F n syncX) := by
  obtain ⟨x, hx, _⟩ := isAt_get hi
  unfold setX
  rw [hx]
  refine h.put hx (syncX x) rfl ?_
  have : (syncX x).pl.size + (syncX x).air.size = x.pl.size + x.air.size := by
    show (x.pl ++ x.air).size + ByteArray.empty.size = _
    rw [ByteArray.size_append]; rfl
  rw [this]
  have := h.sum
  omega
theorem Sound.cut {F : FR} (h : Sound F) (n : ByteArray) (hi : isAt F.files n = true) (k : Int) : Sound (setX F n fun x => cutX x k) := by
  obtain ⟨x, hx, _⟩ := isAt_get hi
  unfold setX
  rw [hx]
  refine h.put hx (cutX x k) rfl ?_
  have : (cutX x k).pl.size + (cutX x k).air.size ≤ x.pl.size + x.air.size := by
    show (x.pl.extract 0 _).size + (x.air.extract 0 _).size ≤ _
    rw [ByteArray.size_extract, ByteArray.size_extract]; omega
  have := h.sum
  omega
/-- No file of a name is left behind a drop. -/
theorem drop_none {L : List PF} (hL : Rising L) (n : ByteArray) : isAt (dropL L n) n = false := by
  have key : ∀ y ∈ dropL L n, y.name ≠ n := by
    unfold dropL
    by_cases hi : isAt L n = true
    · rw [if_pos hi]
      obtain ⟨x, hx, hxn⟩ := isAt_get hi
      intro y hy hyn
      obtain ⟨j, hj⟩ := List.mem_iff_getElem?.1 hy
      rw [List.getElem?_eraseIdx] at hj
      split at hj
      · rename_i hlt
        have := rising_get hL hlt hj hx
        rw [hyn, hxn, ltN_irr] at this; cases this
      · rename_i hge
        have := rising_get hL (by omega) hx hj
        rw [hyn, hxn, ltN_irr] at this; cases this
    · rw [if_neg hi]
      intro y hy hyn
      obtain ⟨j, hj⟩ := List.mem_iff_getElem?.1 hy
      have hjl := (List.getElem?_eq_some_iff.1 hj).1
      have hp : place L n = j := place_eq L n j (Nat.le_of_lt hjl) (fun t x ht hx => by
        have := rising_get hL ht hx hj
        rw [hyn] at this; exact this) (fun x hx => by rw [hj] at hx; injection hx with hx; rw [← hx, hyn]; exact ltN_irr n)
      apply hi
      unfold isAt
      rw [hp, hj]
      exact decide_eq_true hyn
  unfold isAt
  split
  · rename_i x hx
    exact decide_eq_false (key x (List.mem_of_getElem? hx))
  · rfl
theorem Sound.ren {F : FR} (h : Sound F) (a c : ByteArray) (hi : isAt F.files a = true) (hc : namedB c = true) : Sound (renF F a c (fileX F a)) := by
  obtain ⟨x, hx, hxn⟩ := isAt_get hi
  have hfx : fileX F a = x := by unfold fileX; rw [hx]; rfl
  rw [hfx]
  have h2 := (h.drop a).drop c
  have hno : isAt (dropF (dropF F a) c).files c = false := drop_none (h.drop a).asc c
  have hlen1 : (dropF F a).files.length = F.files.length - 1 := by
    show (dropL F.files a).length = _
    unfold dropL; rw [if_pos hi, List.length_eraseIdx, if_pos (isAt_lt hi)]
  have hle : ∀ (G : FR) n, (dropF G n).files.length ≤ G.files.length := fun G n => by
    show (dropL G.files n).length ≤ _
    unfold dropL
    split
    · exact (List.eraseIdx_sublist _ _).length_le
    · exact Nat.le_refl _
  have htle : ∀ (G : FR) n, total (dropF G n).files ≤ total G.files := fun G n => by
    show total (dropL G.files n) ≤ _
    unfold dropL
    split
    · rename_i hg
      obtain ⟨z, hz, _⟩ := isAt_get hg
      have hlt := isAt_lt hg
      generalize place G.files n = k at *
      have e1 : G.files.take k ++ z :: G.files.drop (k + 1) = G.files := by
        rw [← (List.getElem?_eq_some_iff.1 hz).2, ← List.drop_eq_getElem_cons hlt, List.take_append_drop]
      have e3 := congrArg total e1
      rw [total_app, total_cons] at e3
      rw [List.eraseIdx_eq_take_drop_succ, total_app]; omega
    · exact Nat.le_refl _
  have ht1 : total (dropF F a).files + (x.pl.size + x.air.size) = total F.files := by
    show total (dropL F.files a) + _ = _
    unfold dropL
    rw [if_pos hi]
    have hlt := isAt_lt hi
    clear hlen1 htle hle hno h2 hfx
    generalize place F.files a = k at *
    have e1 : F.files.take k ++ x :: F.files.drop (k + 1) = F.files := by
      rw [← (List.getElem?_eq_some_iff.1 hx).2, ← List.drop_eq_getElem_cons hlt, List.take_append_drop]
    have e3 := congrArg total e1
    rw [total_app, total_cons] at e3
    rw [List.eraseIdx_eq_take_drop_succ, total_app]; omega
  have hcn := hle (dropF F a) c
  have htc := htle (dropF F a) c
  have hlt := isAt_lt hi
  have hcnt := h.cnt
  have hsum := h.sum
  unfold renF
  exact {
    lim1 := h.lim1
    lim2 := h.lim2
    cnt := by
      show (insL (dropF (dropF F a) c).files _ _).length ≤ 32
      unfold insL
      rw [List.length_append, List.length_cons, List.length_take, List.length_drop]; omega
    asc := rising_ins h2.asc (renX x c) hno
    nam := fun z hz => by
      rcases mem_ins hz with rfl | hz
      · unfold namedB at hc
        simp only [Bool.and_eq_true, decide_eq_true_eq] at hc
        exact ⟨hc.1, hc.2⟩
      · exact h2.nam z hz
    sum := by
      show ((total (insL (dropF (dropF F a) c).files _ (renX x c)) : Nat) : Int) ≤ F.limit
      rw [total_ins]
      show ((total (dropF (dropF F a) c).files + (x.pl.size + x.air.size) : Nat) : Int) ≤ F.limit
      omega
    lf := h.lf
    kl := h.kl }
theorem Sound.with' {F : FR} (h : Sound F) (d : DoR) (hN : d.N ≤ 9223372036854775807) (hK : d.K.length ≤ 1000000) : Sound (withF F d) := by
  have hst : ∀ n, hasE F n = 0 → isAt F.files n = true := fun n hz => (hasE_ok hz).2
  have happ : Sound (appF F d.A d.S) := by
    unfold appF
    split
    · exact h
    · rename_i hn
      have hn1 : namedB d.A = true := by cases e : namedB d.A; exact absurd (.inr (.inl e)) hn; rfl
      have hf : fullB F d.A d.S = false := by cases e : fullB F d.A d.S; rfl; exact absurd (.inr (.inr e)) hn
      unfold fullB at hf
      simp only [Bool.or_eq_false_iff, decide_eq_false_iff_not] at hf
      refine (h.app d.A d.S hn1 (fun h0 => ?_) (by omega)).doneA
      have := hf.1
      rw [h0] at this
      simpa using this
  have hsync : Sound (syncF F d.A) := by
    unfold syncF
    split
    · rename_i hz; exact h.done (h.sync d.A (hst _ hz))
    · exact h
  have hcut : Sound (cutF F d.A d.N) := by
    unfold cutF
    split
    · rename_i hz; exact h.done (h.cut d.A (hst _ hz.1) d.N)
    · exact h
  have hren : Sound (renameF F d.A d.B) := by
    unfold renameF
    split
    · rename_i hz; exact h.done (h.ren d.A d.B (hst _ hz.1) hz.2)
    · exact h
  have hrem : Sound (removeF F d.A) := by
    unfold removeF
    split
    · exact h.done (h.drop d.A)
    · exact h
  have hcr : Sound (crashG F d.K) := by
    unfold crashG
    split
    · exact h
    · exact h.crash _
  have hsta : Sound (startF F) := by
    unfold startF
    split
    · exact ⟨h.lim1, h.lim2, h.cnt, h.asc, h.nam, h.sum, h.lf, h.kl⟩
    · exact h
  have hfa : Sound (failF F d.N d.K) := by
    unfold failF
    split
    · exact h
    · exact ⟨h.lim1, h.lim2, h.cnt, h.asc, h.nam, h.sum, hN, Nat.le_trans hK (by omega)⟩
  unfold withF
  split <;> assumption
end Go.Proofs.Ytmoaecicibjmnaa
