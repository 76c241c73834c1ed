/- FilesOver: what the strokes make of the two files. Plain. -/
import Derived.Test.YtmoaecicibjmnaaKM
namespace Go.Proofs.Ytmoaecicibjmnaa
open Go.RowKit

abbrev fN : ByteArray := tx [102]
abbrev gN : ByteArray := tx [103]
abbrev noB : ByteArray := ByteArray.empty
theorem fg_lt : ltN fN gN = true := by decide +kernel
theorem gf_lt : ltN gN fN = false := by decide +kernel
theorem f_named : namedB fN = true := by decide +kernel
theorem g_named : namedB gN = true := by decide +kernel
theorem p_f1 (a b : ByteArray) : place [⟨fN, a, b⟩] fN = 0 := by simp [place, ltN_irr]
theorem p_f2 (a b c d : ByteArray) : place [⟨fN, a, b⟩, ⟨gN, c, d⟩] fN = 0 := by simp [place, ltN_irr]
theorem p_g1 (a b : ByteArray) : place [⟨fN, a, b⟩] gN = 1 := by simp [place, List.takeWhile, fg_lt]
theorem p_g2 (a b c d : ByteArray) : place [⟨fN, a, b⟩, ⟨gN, c, d⟩] gN = 1 := by simp [place, List.takeWhile, fg_lt, ltN_irr]
theorem i_f1 (a b : ByteArray) : isAt [⟨fN, a, b⟩] fN = true := by simp [isAt, p_f1]
theorem i_f2 (a b c d : ByteArray) : isAt [⟨fN, a, b⟩, ⟨gN, c, d⟩] fN = true := by simp [isAt, p_f2]
theorem i_g1 (a b : ByteArray) : isAt [⟨fN, a, b⟩] gN = false := by simp [isAt, p_g1]
theorem i_g2 (a b c d : ByteArray) : isAt [⟨fN, a, b⟩, ⟨gN, c, d⟩] gN = true := by simp [isAt, p_g2]
theorem p_0 (n : ByteArray) : place [] n = 0 := rfl
theorem e_app (a : ByteArray) : noB ++ a = a := by simp
theorem app_e (a : ByteArray) : a ++ noB = a := by simp

def ovL (old : ByteArray) : List DoR := [⟨0, fN, tx [], old, 0, []⟩, ⟨3, fN, tx [], tx [], 0, []⟩]
theorem ov_after (old : ByteArray) (h : old.size ≤ 2000) : afterF (1 + 8000) (ovL old) = ⟨8001, 0, false, [⟨fN, old, noB⟩], -1, []⟩ := by
  have h1 : withF (newF 8001) ⟨0, fN, tx [], old, 0, []⟩ = ⟨8001, 0, false, [⟨fN, noB, old⟩], -1, []⟩ := by
    have hf : fullB (newF 8001) fN old = false := by
      simp [fullB, newF, total, isAt, place]
      omega
    show appF (newF 8001) fN old = _
    unfold appF
    rw [if_neg (by rw [f_named, hf]; simp [newF])]
    simp [doneA, appX, newF, isAt, place, insF, insL, putF, noX, addX]
  have h2 : withF ⟨8001, 0, false, [⟨fN, noB, old⟩], -1, []⟩ ⟨3, fN, tx [], tx [], 0, []⟩ = ⟨8001, 0, false, [⟨fN, old, noB⟩], -1, []⟩ := by
    show syncF _ fN = _
    simp [syncF, hasE, i_f1, doneF, setX, p_f1, putF, syncX, PF.bytes]
  unfold afterF afterL ovL
  simp only [List.foldl_cons, List.foldl_nil]
  rw [show (1 + 8000 : Int) = 8001 by rfl, afterStep, if_neg (show ¬ (3 % 12 = 11) by decide), afterStep, if_neg (show ¬ (0 % 12 = 11) by decide), h1, h2]
  rfl
section
variable (old new : ByteArray) (keep : List Int)
def ov2 (k : Int) : FR := ⟨8001, 0, false, [⟨fN, old, noB⟩, ⟨gN, noB, new⟩], k, keep⟩
def ov3 (k : Int) : FR := ⟨8001, 0, false, [⟨fN, old, noB⟩, ⟨gN, new, noB⟩], k, keep⟩
theorem ov_full (m : Int) (h : old.size ≤ 2000) (h' : new.size ≤ 2000) : fullB ⟨8001, 0, false, [⟨fN, old, noB⟩], m, keep⟩ gN new = false := by
  simp [fullB, total, i_g1]
  omega
theorem ov_app (m : Int) : appX ⟨8001, 0, false, [⟨fN, old, noB⟩], m, keep⟩ gN new = ov2 old new keep m := by
  simp [appX, i_g1, p_g1, insF, insL, putF, noX, addX, ov2]
theorem ov_appE (m : Int) (h : old.size ≤ 2000) (h' : new.size ≤ 2000) : appE ⟨8001, 0, false, [⟨fN, old, noB⟩], m, keep⟩ gN new = if m = 0 then 51 else 0 := by
  unfold appE
  rw [if_neg (by simp), if_neg (by rw [g_named]; simp), if_neg (by rw [ov_full old new keep m h h']; simp)]
theorem ov_appF (m : Int) (h0 : 0 ≤ m) (h : old.size ≤ 2000) (h' : new.size ≤ 2000) : appF ⟨8001, 0, false, [⟨fN, old, noB⟩], m, keep⟩ gN new = if m = 0 then crashF (ov2 old new keep 0) keep else ov2 old new keep (m - 1) := by
  unfold appF
  rw [if_neg (by rw [g_named, ov_full old new keep m h h']; simp), ov_app]
  unfold doneA
  by_cases hm : m = 0
  · subst hm; simp [ov2]
  · rw [if_neg (show ¬ (ov2 old new keep m).left = 0 from hm), if_pos (show 0 < (ov2 old new keep m).left by show 0 < m; omega), if_neg hm]; rfl
theorem ov_syncE (m : Int) : strokeE (ov2 old new keep m) gN = if m = 0 then 51 else 0 := by
  by_cases hm : m = 0 <;> simp [strokeE, hasE, ov2, i_g2, hm]
theorem ov_syncF (m : Int) (h0 : 0 ≤ m) : syncF (ov2 old new keep m) gN = if m = 0 then crashF (ov2 old new keep 0) keep else ov3 old new keep (m - 1) := by
  have hh : hasE (ov2 old new keep m) gN = 0 := by simp [hasE, ov2, i_g2]
  have hs : setX (ov2 old new keep m) gN syncX = ov3 old new keep m := by simp [setX, ov2, ov3, p_g2, putF, syncX, PF.bytes]
  unfold syncF
  rw [if_pos hh, hs]
  unfold doneF
  by_cases hm : m = 0
  · subst hm; simp [ov2]
  · rw [if_neg (show ¬ (ov2 old new keep m).left = 0 from hm), if_pos (show 0 < (ov2 old new keep m).left by show 0 < m; omega), if_neg hm]; rfl
theorem ov_renE (m : Int) : renE (ov3 old new keep m) gN fN = if m = 0 then 51 else 0 := by
  by_cases hm : m = 0 <;> simp [renE, hasE, ov3, i_g2, f_named, hm]
theorem ov_renF (m : Int) (h0 : 0 ≤ m) : renameF (ov3 old new keep m) gN fN = if m = 0 then crashF (ov3 old new keep 0) keep else ⟨8001, 0, false, [⟨fN, new, noB⟩], m - 1, keep⟩ := by
  have hh : hasE (ov3 old new keep m) gN = 0 := by simp [hasE, ov3, i_g2]
  have hs : renF (ov3 old new keep m) gN fN (fileX (ov3 old new keep m) gN) = ⟨8001, 0, false, [⟨fN, new, noB⟩], m, keep⟩ := by
    simp [renF, fileX, ov3, p_g2, dropF, dropL, i_g2, i_f1, p_f1, insF, insL, renX, p_0]
  unfold renameF
  rw [if_pos ⟨hh, f_named⟩, hs]
  unfold doneF
  by_cases hm : m = 0
  · subst hm; simp [ov3]
  · rw [if_neg (show ¬ (ov3 old new keep m).left = 0 from hm), if_pos (show 0 < (ov3 old new keep m).left by show 0 < m; omega), if_neg hm]; rfl
theorem ov_readN (m : Int) : hasE ⟨8001, 0, false, [⟨fN, new, noB⟩], m, keep⟩ fN = 0 ∧ readS ⟨8001, 0, false, [⟨fN, new, noB⟩], m, keep⟩ fN = new := by
  simp [hasE, readS, i_f1, p_f1, PF.bytes]
theorem ov_read2 (m : Int) : hasE (startF (crashF (ov2 old new keep m) keep)) fN = 0 ∧ readS (startF (crashF (ov2 old new keep m) keep)) fN = old := by
  simp [startF, crashF, ov2, crashL, crashTo, cr, hasE, readS, i_f2, p_f2, PF.bytes]
theorem ov_read3 (m : Int) : hasE (startF (crashF (ov3 old new keep m) keep)) fN = 0 ∧ readS (startF (crashF (ov3 old new keep m) keep)) fN = old := by
  simp [startF, crashF, ov3, crashL, crashTo, cr, hasE, readS, i_f2, p_f2, PF.bytes]
end
end Go.Proofs.Ytmoaecicibjmnaa
