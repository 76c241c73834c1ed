/- SavesClean: plain laws. -/
import Derived.Test.YtmoaecicibjmnaaSR
import Derived.Test.YtmoaecicibjmnaaSD
namespace Go.Proofs.Ytmoaecicibjmnaa
open Go.RowKit

abbrev aN : ByteArray := tx [97]
abbrev nB : ByteArray := ByteArray.empty
theorem ad_lt : ltN aN dN = true := by decide +kernel
theorem a_good : ¬ badN aN := by decide +kernel
theorem b_good : ¬ badN (tx [98]) := by decide +kernel
theorem d_bad : badN dN := by decide +kernel
section
variable (u v : ByteArray)
theorem pa1 : place [⟨aN, u, nB⟩] aN = 0 := by simp [place, ltN_irr]
theorem pd1 : place [⟨aN, u, nB⟩] dN = 1 := by simp [place, List.takeWhile, ad_lt]
theorem pd2 (x y : ByteArray) : place [⟨aN, u, nB⟩, ⟨dN, x, y⟩] dN = 1 := by simp [place, List.takeWhile, ad_lt, ltN_irr]
theorem ia1 : isAt [⟨aN, u, nB⟩] aN = true := by simp [isAt, pa1]
theorem id1 : isAt [⟨aN, u, nB⟩] dN = false := by simp [isAt, pd1]
theorem id2 (x y : ByteArray) : isAt [⟨aN, u, nB⟩, ⟨dN, x, y⟩] dN = true := by simp [isAt, pd2]
variable (s : Int) (keep : List Int)
def cl1 (k : Int) : FR := ⟨5000, s, false, [⟨aN, u, nB⟩], k, keep⟩
def cl2 (k : Int) : FR := ⟨5000, s, false, [⟨aN, u, nB⟩, ⟨dN, nB, v⟩], k, keep⟩
def cl3 (k : Int) : FR := ⟨5000, s, false, [⟨aN, u, nB⟩, ⟨dN, v, nB⟩], k, keep⟩
theorem cl_full (k : Int) (h : u.size ≤ 1000) (h' : v.size ≤ 1000) : fullB (cl1 u s keep k) dN v = false := by
  simp [fullB, total, id1, cl1]
  omega
theorem cl_app (k : Int) : appX (cl1 u s keep k) dN v = cl2 u v s keep k := by
  simp [appX, id1, pd1, insF, insL, putF, noX, addX, cl1, cl2]
theorem cl_appE (k : Int) (h : u.size ≤ 1000) (h' : v.size ≤ 1000) : appE (cl1 u s keep k) dN v = if k = 0 then 51 else 0 := by
  unfold appE
  rw [if_neg (by simp [cl1]), if_neg (by rw [d_named]; simp), if_neg (by rw [cl_full u v s keep k h h']; simp)]
  rfl
theorem cl_appF (k : Int) (h0 : 0 ≤ k) (h : u.size ≤ 1000) (h' : v.size ≤ 1000) : appF (cl1 u s keep k) dN v = if k = 0 then crashF (cl2 u v s keep 0) keep else cl2 u v s keep (k - 1) := by
  unfold appF
  rw [if_neg (by rw [d_named, cl_full u v s keep k h h']; simp [cl1]), cl_app]
  unfold doneA
  by_cases hm : k = 0
  · subst hm; simp [cl2]
  · rw [if_neg (show ¬ (cl2 u v s keep k).left = 0 from hm), if_pos (show 0 < (cl2 u v s keep k).left by show 0 < k; omega), if_neg hm]; rfl
theorem cl_syncE (k : Int) : strokeE (cl2 u v s keep k) dN = if k = 0 then 51 else 0 := by
  by_cases hm : k = 0 <;> simp [strokeE, hasE, cl2, id2, hm]
theorem cl_syncF (k : Int) (h0 : 0 ≤ k) : syncF (cl2 u v s keep k) dN = if k = 0 then crashF (cl2 u v s keep 0) keep else cl3 u v s keep (k - 1) := by
  have hh : hasE (cl2 u v s keep k) dN = 0 := by simp [hasE, cl2, id2]
  have hs : setX (cl2 u v s keep k) dN syncX = cl3 u v s keep k := by simp [setX, cl2, cl3, pd2, putF, syncX, PF.bytes]
  unfold syncF
  rw [if_pos hh, hs]
  unfold doneF
  by_cases hm : k = 0
  · subst hm; simp [cl2]
  · rw [if_neg (show ¬ (cl2 u v s keep k).left = 0 from hm), if_pos (show 0 < (cl2 u v s keep k).left by show 0 < k; omega), if_neg hm]; rfl
theorem cl_ren : renE (cl3 u v s keep 0) dN (tx [98]) = 51 ∧ renameF (cl3 u v s keep 0) dN (tx [98]) = crashF (cl3 u v s keep 0) keep := by
  have hh : hasE (cl3 u v s keep 0) dN = 0 := by simp [hasE, cl3, id2]
  have hn := (good_name b_good).1
  constructor
  · unfold renE; rw [if_pos hh, if_pos hn]; simp [cl3]
  · unfold renameF; rw [if_pos ⟨hh, hn⟩]; simp [doneF, cl3]
/-- Behind the crash, and the start. -/
def cl4 (P : ByteArray) : FR := ⟨5000, wrap64 (s + 1), false, [⟨aN, u, nB⟩, ⟨dN, P, nB⟩], -1, keep⟩
theorem cl_st2 : ∃ P, startF (crashF (cl2 u v s keep 0) keep) = cl4 u s keep P := ⟨_, by simp [startF, crashF, cl2, cl4, crashL, crashTo, cr]; rfl⟩
theorem cl_st3 : ∃ P, startF (crashF (cl3 u v s keep 0) keep) = cl4 u s keep P := ⟨_, by simp [startF, crashF, cl3, cl4, crashL, crashTo, cr]; rfl⟩
/-- The Write that is cut off. -/
theorem cl_write (m : Nat) (hm : m < 3) (hS : Sound (cl1 u s keep m)) (h : u.size ≤ 1000) (h' : v.size ≤ 1000) :
    saveE (cl1 u s keep m) (tx [98]) v = 51 ∧ (saveF (cl1 u s keep m) (tx [98]) v).off = true ∧ ∃ P, startF (saveF (cl1 u s keep m) (tx [98]) v) = cl4 u s keep P := by
  have hw3 : wF3 (cl1 u s keep m) = cl1 u s keep m := clean_none hS rfl fun y hy => by
    have : y = ⟨aN, u, nB⟩ := by simpa [cl1] using hy
    rw [this]; exact (good_name a_good).2
  have e0 : wE (cl1 u s keep m) (tx [98]) v 0 = 0 := by show onE (cl1 u s keep m) = 0; unfold onE; rw [if_neg (by simp [cl1])]
  have e1 : wE (cl1 u s keep m) (tx [98]) v 1 = 0 := by show nameE (tx [98]) = 0; unfold nameE; rw [if_neg b_good]
  have e2 : wE (cl1 u s keep m) (tx [98]) v 2 = 0 := by
    show cleanE (cl1 u s keep m) = 0
    have : strokeE (cl1 u s keep m) dN = 4 := by simp [strokeE, hasE, cl1, id1]
    unfold cleanE; rw [if_pos this]
  have e3 : wE (cl1 u s keep m) (tx [98]) v 3 = if (m : Int) = 0 then 51 else 0 := by
    show appE (wF3 (cl1 u s keep m)) dN v = _
    rw [hw3, cl_appE u v s keep m h h']
  have w4 : wF4 (cl1 u s keep m) v = if (m : Int) = 0 then crashF (cl2 u v s keep 0) keep else cl2 u v s keep ((m : Int) - 1) := by
    show appF (wF3 (cl1 u s keep m)) dN v = _
    rw [hw3, cl_appF u v s keep m (by omega) h h']
  have lt3 : ∀ j, j < 3 → wE (cl1 u s keep m) (tx [98]) v j = 0 := fun j hj => by
    rcases (show j = 0 ∨ j = 1 ∨ j = 2 by omega) with rfl | rfl | rfl
    · exact e0
    · exact e1
    · exact e2
  rcases (show m = 0 ∨ m = 1 ∨ m = 2 by omega) with rfl | rfl | rfl
  · rw [if_pos (by decide)] at e3 w4
    obtain ⟨a1, a2⟩ := saved_at (j := 3) (by omega) lt3 (by rw [e3]; omega)
    have a3 : saveF (cl1 u s keep ((0 : Nat) : Int)) (tx [98]) v = crashF (cl2 u v s keep 0) keep := a2.trans w4
    rw [a1, a3]
    exact ⟨e3, rfl, cl_st2 u v s keep⟩
  · rw [if_neg (by decide)] at e3 w4
    have w4' : wF4 (cl1 u s keep ((1 : Nat) : Int)) v = cl2 u v s keep 0 := w4
    have lt4 : ∀ j, j < 4 → wE (cl1 u s keep ((1 : Nat) : Int)) (tx [98]) v j = 0 := fun j hj => by
      rcases (show j < 3 ∨ j = 3 by omega) with h1 | rfl
      · exact lt3 j h1
      · exact e3
    have e4 : wE (cl1 u s keep ((1 : Nat) : Int)) (tx [98]) v 4 = 51 := by
      show strokeE (wF4 (cl1 u s keep ((1 : Nat) : Int)) v) dN = 51
      rw [w4', cl_syncE, if_pos rfl]
    obtain ⟨a1, a2⟩ := saved_at (j := 4) (by omega) lt4 (by rw [e4]; omega)
    have a3 : saveF (cl1 u s keep ((1 : Nat) : Int)) (tx [98]) v = crashF (cl2 u v s keep 0) keep := a2.trans (by
      show syncF (wF4 (cl1 u s keep ((1 : Nat) : Int)) v) dN = _
      rw [w4', cl_syncF u v s keep 0 (by omega), if_pos rfl])
    rw [a1, a3]
    exact ⟨e4, rfl, cl_st2 u v s keep⟩
  · rw [if_neg (by decide)] at e3 w4
    have w4' : wF4 (cl1 u s keep ((2 : Nat) : Int)) v = cl2 u v s keep 1 := w4
    have w5' : wF5 (cl1 u s keep ((2 : Nat) : Int)) v = cl3 u v s keep 0 := by
      show syncF (wF4 (cl1 u s keep ((2 : Nat) : Int)) v) dN = _
      rw [w4', cl_syncF u v s keep 1 (by omega), if_neg (by omega)]; rfl
    have lt5 : ∀ j, j < 5 → wE (cl1 u s keep ((2 : Nat) : Int)) (tx [98]) v j = 0 := fun j hj => by
      rcases (show j < 3 ∨ j = 3 ∨ j = 4 by omega) with h1 | rfl | rfl
      · exact lt3 j h1
      · exact e3
      · show strokeE (wF4 (cl1 u s keep ((2 : Nat) : Int)) v) dN = 0
        rw [w4', cl_syncE, if_neg (by omega)]
    have e5 : wE (cl1 u s keep ((2 : Nat) : Int)) (tx [98]) v 5 = 51 := by
      show renE (wF5 (cl1 u s keep ((2 : Nat) : Int)) v) dN (tx [98]) = 51
      rw [w5']; exact (cl_ren u v s keep).1
    obtain ⟨a1, a2⟩ := saved_at (j := 5) (by omega) lt5 (by rw [e5]; omega)
    have a3 : saveF (cl1 u s keep ((2 : Nat) : Int)) (tx [98]) v = crashF (cl3 u v s keep 0) keep := a2.trans (by
      show renameF (wF5 (cl1 u s keep ((2 : Nat) : Int)) v) dN (tx [98]) = _
      rw [w5']; exact (cl_ren u v s keep).2)
    rw [a1, a3]
    exact ⟨e5, rfl, cl_st3 u v s keep⟩
/-- Cleaned. -/
theorem cl_clean (P : ByteArray) : cleanE (cl4 u s keep P) = 0 ∧ removeF (cl4 u s keep P) dN = cl1 u (wrap64 (s + 1)) keep (-1) := by
  have hh : hasE (cl4 u s keep P) dN = 0 := by simp [hasE, cl4, id2]
  constructor
  · have hst : strokeE (cl4 u s keep P) dN = 0 := by unfold strokeE; rw [if_pos hh]; simp [cl4]
    unfold cleanE; rw [hst, if_neg (by omega)]
  · unfold removeF
    rw [if_pos hh]
    simp [doneF, dropF, dropL, cl4, id2, pd2, cl1]
theorem cl_clean2 : cleanE (cl1 u s keep (-1)) = 0 ∧ removeF (cl1 u s keep (-1)) dN = cl1 u s keep (-1) := by
  have hh : hasE (cl1 u s keep (-1)) dN = 4 := by simp [hasE, cl1, id1]
  constructor
  · simp [cleanE, strokeE, hh]
  · unfold removeF; rw [if_neg (by rw [hh]; omega)]
theorem cl_load : loadE (cl1 u s keep (-1)) aN = 0 ∧ loadS (cl1 u s keep (-1)) aN = u := by
  have h0 : loadE (cl1 u s keep (-1)) aN = 0 := by
    unfold loadE; rw [if_neg (by simp [cl1]), if_neg a_good]; simp [hasE, cl1, ia1]
  refine ⟨h0, ?_⟩
  unfold loadS; rw [if_pos h0]
  simp [readS, hasE, cl1, ia1, pa1, PF.bytes]
end
theorem cl_first (u : ByteArray) (h : u.size ≤ 1000) : saveE (newF 5000) aN u = 0 ∧ ∃ s keep, saveF (newF 5000) aN u = cl1 u s keep (-1) := by
  have p0 : Plain (newF 5000) := ⟨Sound.new 5000 (by omega) (by omega), rfl, rfl, fun y hy => by cases hy⟩
  obtain ⟨p1, l1, c1⟩ := p0.save aN u ⟨by show (0 : Nat) ≠ 32; omega, by show ((0 : Nat) : Int) + _ ≤ 5000; omega⟩
  rcases c1 with ⟨hb, _⟩ | ⟨_, he, hm⟩
  · exact absurd hb a_good
  · have hx : ∀ y, y ∈ (saveF (newF 5000) aN u).files ↔ y = ⟨aN, u, nB⟩ := fun y => by
      rw [hm]
      constructor
      · rintro (h | ⟨h, _⟩)
        · exact h
        · cases h
      · exact fun h => .inl h
    have hl := one_file p1.snd.asc hx
    have h1 := p1.off
    have h2 := p1.left
    generalize saveF (newF 5000) aN u = F at *
    refine ⟨he, F.starts, F.keep, ?_⟩
    cases F
    simp only at hl h1 h2 l1
    subst hl h1 h2 l1
    rfl
end Go.Proofs.Ytmoaecicibjmnaa
