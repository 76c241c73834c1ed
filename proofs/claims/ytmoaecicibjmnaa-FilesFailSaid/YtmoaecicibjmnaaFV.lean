/- Plain laws: what an Append leaves is sound. -/
import Derived.Test.YtmoaecicibjmnaaFX
namespace Go.Proofs.Ytmoaecicibjmnaa
open Go.RowKit

theorem place_before : ∀ (L : List PF) (n : ByteArray) (y : PF), y ∈ L.take (place L n) → ltN y.name n = true
  | [], _, y, h => by simp at h
  | x :: L, n, y, h => by
    unfold place at h
    rw [List.takeWhile_cons] at h
    by_cases hx : ltN x.name n = true
    · rw [if_pos hx, List.length_cons, List.take_succ_cons] at h
      rcases List.mem_cons.1 h with rfl | h
      · exact hx
      · exact place_before L n y h
    · rw [if_neg hx] at h; simp at h
theorem place_at : ∀ (L : List PF) (n : ByteArray) (y : PF), L[place L n]? = some y → ltN y.name n = false
  | [], _, y, h => by simp at h
  | x :: L, n, y, h => by
    unfold place at h
    rw [List.takeWhile_cons] at h
    by_cases hx : ltN x.name n = true
    · rw [if_pos hx, List.length_cons, List.getElem?_cons_succ] at h
      exact place_at L n y h
    · rw [if_neg hx] at h
      simp at h
      subst h
      cases e : ltN x.name n; rfl; exact absurd e hx
theorem rising_ins {L : List PF} (hL : Rising L) (x : PF) (h : isAt L x.name = false) : Rising (insL L (place L x.name) x) := by
  unfold insL
  have hsp : Rising (L.take (place L x.name) ++ L.drop (place L x.name)) := by rw [List.take_append_drop]; exact hL
  obtain ⟨h1, h2, h3⟩ := List.pairwise_append.1 hsp
  have hd : ∀ y ∈ L.drop (place L x.name), ltN x.name y.name = true := by
    cases hd : L.drop (place L x.name) with
    | nil => intro y hy; cases hy
    | cons z R =>
      have hz : L[place L x.name]? = some z := by
        have := congrArg (·[0]?) hd
        simpa using this
      have hlz : ltN x.name z.name = true := by
        have h4 := place_at L x.name z hz
        cases e : ltN x.name z.name with
        | true => rfl
        | false =>
          have h5 := ltN_tri h4 e
          unfold isAt at h
          rw [hz] at h
          simp at h
          exact absurd h5 h
      intro y hy
      rw [hd] at h2
      rcases List.mem_cons.1 hy with rfl | hy
      · exact hlz
      · exact ltN_trans hlz ((List.pairwise_cons.1 h2).1 y hy)
  refine List.pairwise_append.2 ⟨h1, List.pairwise_cons.2 ⟨hd, h2⟩, fun a ha c hc => ?_⟩
  rcases List.mem_cons.1 hc with rfl | hc
  · exact place_before L c.name a ha
  · exact h3 a ha c hc
theorem total_app (A B : List PF) : total (A ++ B) = total A + total B := by unfold total; rw [List.map_append, List.sum_append]
theorem total_cons (x : PF) (B : List PF) : total (x :: B) = (x.pl.size + x.air.size) + total B := by unfold total; rw [List.map_cons, List.sum_cons]
theorem total_ins (L : List PF) (i : Nat) (x : PF) : total (insL L i x) = total L + (x.pl.size + x.air.size) := by
  unfold insL
  rw [total_app, total_cons]
  have h := total_app (L.take i) (L.drop i)
  rw [List.take_append_drop] at h
  omega
theorem total_set (L : List PF) (i : Nat) (x y : PF) (h : L[i]? = some x) : total (L.set i y) + (x.pl.size + x.air.size) = total L + (y.pl.size + y.air.size) := by
  have hi := (List.getElem?_eq_some_iff.1 h).1
  have e1 : L = L.take i ++ x :: L.drop (i + 1) := by
    rw [← (List.getElem?_eq_some_iff.1 h).2, ← List.drop_eq_getElem_cons hi, List.take_append_drop]
  have e2 : L.set i y = L.take i ++ y :: L.drop (i + 1) := List.set_eq_take_append_cons_drop .. |>.trans (if_pos hi)
  rw [e2]
  rw (occs := .pos [3]) [e1]
  rw [total_app, total_app, total_cons, total_cons]
  omega
theorem mem_ins {L : List PF} {i : Nat} {x y : PF} (h : y ∈ insL L i x) : y = x ∨ y ∈ L := by
  unfold insL at h
  rcases List.mem_append.1 h with h | h
  · exact .inr (List.mem_of_mem_take h)
  · rcases List.mem_cons.1 h with h | h
    · exact .inl h
    · exact .inr (List.mem_of_mem_drop h)
theorem rising_set {L : List PF} (hL : Rising L) (i : Nat) (x y : PF) (h : L[i]? = some x) (hn : y.name = x.name) : Rising (L.set i y) := by
  have hm : (L.set i y).map PF.name = L.map PF.name := by
    apply List.ext_getElem?
    intro j
    rw [List.getElem?_map, List.getElem?_map]
    by_cases e : j = i
    · subst e
      rw [List.getElem?_set_self (List.getElem?_eq_some_iff.1 h).1, h]; simp [hn]
    · rw [List.getElem?_set_ne (Ne.symm e)]
  have h1 : ∀ l : List PF, Rising l ↔ (l.map PF.name).Pairwise fun a b => ltN a b = true := fun l => by unfold Rising; rw [List.pairwise_map]
  rw [h1, hm, ← h1]; exact hL
theorem Sound.put {F : FR} (h : Sound F) {i : Nat} {x : PF} (hx : F.files[i]? = some x) (y : PF) (hn : y.name = x.name) (hs : ((total F.files + (y.pl.size + y.air.size) : Nat) : Int) ≤ F.limit + ((x.pl.size + x.air.size : Nat) : Int)) : Sound (putF F i y) where
  lim1 := h.lim1
  lim2 := h.lim2
  cnt := by show (F.files.set i y).length ≤ 32; rw [List.length_set]; exact h.cnt
  asc := rising_set h.asc i x y hx hn
  nam z hz := by
    rcases List.mem_or_eq_of_mem_set hz with hz | rfl
    · exact h.nam z hz
    · rw [hn]; exact h.nam x (List.mem_of_getElem? hx)
  sum := by
    have := total_set F.files i x y hx
    show ((total (F.files.set i y) : Nat) : Int) ≤ F.limit
    omega
  lf := h.lf
  kl := h.kl
theorem Sound.ins {F : FR} (h : Sound F) (n : ByteArray) (hn : namedB n = true) (hi : isAt F.files n = false) (hc : F.files.length < 32) : Sound (insF F (place F.files n) (noX n)) where
  lim1 := h.lim1
  lim2 := h.lim2
  cnt := by
    show (insL F.files (place F.files n) (noX n)).length ≤ 32
    unfold insL
    rw [List.length_append, List.length_cons, List.length_take, List.length_drop]; omega
  asc := rising_ins h.asc (noX n) hi
  nam z hz := by
    rcases mem_ins hz with rfl | hz
    · unfold namedB at hn
      simp only [Bool.and_eq_true, decide_eq_true_eq] at hn
      exact ⟨hn.1, hn.2⟩
    · exact h.nam z hz
  sum := by
    show ((total (insL F.files (place F.files n) (noX n)) : Nat) : Int) ≤ F.limit
    rw [total_ins]; exact h.sum
  lf := h.lf
  kl := h.kl
def appX (F : FR) (n s : ByteArray) : FR := if isAt F.files n = true then setX F n fun x => addX x s else putF (insF F (place F.files n) (noX n)) (place F.files n) (addX (noX n) s)
theorem appX_left (F : FR) (n s : ByteArray) : (appX F n s).left = F.left ∧ (appX F n s).off = F.off ∧ (appX F n s).limit = F.limit ∧ (appX F n s).starts = F.starts ∧ (appX F n s).keep = F.keep := by
  unfold appX setX
  split
  · split <;> exact ⟨rfl, rfl, rfl, rfl, rfl⟩
  · exact ⟨rfl, rfl, rfl, rfl, rfl⟩
theorem Sound.app {F : FR} (h : Sound F) (n s : ByteArray) (hn : namedB n = true) (hc : isAt F.files n = false → F.files.length ≠ 32) (hs : ((total F.files + s.size : Nat) : Int) ≤ F.limit) : Sound (appX F n s) := by
  unfold appX
  by_cases hi : isAt F.files n = true
  · rw [if_pos hi]
    obtain ⟨x, hx, _⟩ := isAt_get hi
    unfold setX
    rw [hx]
    refine h.put hx (addX x s) rfl ?_
    have : (addX x s).air.size = x.air.size + s.size := by simp [addX]
    have h2 : (addX x s).pl = x.pl := rfl
    rw [this, h2]; omega
  · have hi' : isAt F.files n = false := by cases e : isAt F.files n; rfl; exact absurd e hi
    rw [if_neg hi]
    have hlt : F.files.length < 32 := by have := hc hi'; have := h.cnt; omega
    have h1 := h.ins n hn hi' hlt
    refine h1.put (x := noX n) (insL_get F.files _ _ (place_le _ _)) (addX (noX n) s) rfl ?_
    have e1 : (addX (noX n) s).air.size = s.size := by simp [addX, noX]
    have e2 : (addX (noX n) s).pl.size = 0 := rfl
    have e3 : (noX n).pl.size = 0 := rfl
    have e4 : (noX n).air.size = 0 := rfl
    have e5 : total (insF F (place F.files n) (noX n)).files = total F.files := by show total (insL F.files _ _) = _; rw [total_ins, e3, e4]; rfl
    rw [e1, e2, e3, e4, e5]
    show ((total F.files + (0 + s.size) : Nat) : Int) ≤ F.limit + _
    omega
end Go.Proofs.Ytmoaecicibjmnaa
