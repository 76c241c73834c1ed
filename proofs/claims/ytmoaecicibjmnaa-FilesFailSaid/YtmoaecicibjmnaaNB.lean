/- FilesFail: plain laws. -/
import Derived.Test.YtmoaecicibjmnaaKQ
namespace Go.Proofs.Ytmoaecicibjmnaa
open Go.RowKit

/-- A file system with so many strokes left. -/
def wl (G : FR) (m : Int) (K : List Int) : FR := { G with left := m, keep := K }
section
variable (G : FR) (K : List Int)
theorem wl_has (m : Int) (n : ByteArray) : hasE (wl G m K) n = hasE G n := rfl
theorem wl_set (m : Int) (n : ByteArray) (f : PF → PF) : setX (wl G m K) n f = wl (setX G n f) m K := by
  unfold setX
  show (match G.files[place G.files n]? with | some x => putF (wl G m K) (place G.files n) (f x) | none => wl G m K) = _
  cases G.files[place G.files n]? <;> rfl
theorem wl_app (m : Int) (n s : ByteArray) : appX (wl G m K) n s = wl (appX G n s) m K := by
  unfold appX
  show (if isAt G.files n = true then setX (wl G m K) n (fun x => addX x s) else _) = _
  split
  · rw [wl_set]
  · rfl
theorem done_0 (X : FR) : doneF (wl G 0 K) X = crashF (wl G 0 K) K := by unfold doneF; exact if_pos rfl
theorem left_s (m : Nat) : ¬ (wl G ((m + 1 : Nat) : Int) K).left = 0 ∧ 0 < (wl G ((m + 1 : Nat) : Int) K).left := by
  show ¬ ((m + 1 : Nat) : Int) = 0 ∧ (0 : Int) < ((m + 1 : Nat) : Int)
  omega
theorem done_s (X : FR) (m : Nat) : doneF (wl G ((m + 1 : Nat) : Int) K) (wl X ((m + 1 : Nat) : Int) K) = wl X (m : Int) K := by
  unfold doneF
  rw [if_neg (left_s G K m).1, if_pos (left_s G K m).2]
  show wl X (((m + 1 : Nat) : Int) - 1) K = _
  congr 1
  omega
theorem doneA_0 : doneA (wl G 0 K) = crashF (wl G 0 K) K := by unfold doneA; exact if_pos rfl
theorem doneA_s (m : Nat) : doneA (wl G ((m + 1 : Nat) : Int) K) = wl G (m : Int) K := by
  unfold doneA
  rw [if_neg (left_s G K m).1, if_pos (left_s G K m).2]
  show wl G (((m + 1 : Nat) : Int) - 1) K = _
  congr 1
  omega
theorem done_n (X : FR) (h : G.left = -1) : doneF G X = X := by unfold doneF; rw [if_neg (by omega), if_neg (by omega)]
theorem doneA_n (h : G.left = -1) : doneA G = G := by unfold doneA; rw [if_neg (by omega), if_neg (by omega)]
end
/-- What a stroke does: with so many left, and without. -/
structure Stroke (G : FR) (K : List Int) (e : Int) (G' H : FR) (fE : Nat → Int) (fF : Nat → FR) : Prop where
  off : G'.off = false
  left : G'.left = -1
  bad : e ≠ 0 → G' = G ∧ ∀ m, fE m = e ∧ fF m = wl G m K
  good : e = 0 → ∀ m, fE (m + 1) = 0 ∧ fF (m + 1) = wl G' m K
  last : e = 0 → fE 0 = 51 ∧ fF 0 = crashF (wl H 0 K) K
theorem stroke_done (G : FR) (K : List Int) (ho : G.off = false) (hl : G.left = -1) (X : FR) (hx : X.off = G.off) (hxl : X.left = G.left) (e : Int) (c : Prop) [Decidable c] (hc : c → e = 0) (hc' : ¬ c → e ≠ 0) :
    Stroke G K e (if c then doneF G X else G) G (fun m => if c then (if (m : Int) = 0 then 51 else 0) else e) (fun m => if c then doneF (wl G m K) (wl X m K) else wl G m K) := by
  by_cases h : c
  · simp only [if_pos h]
    rw [done_n G X hl]
    refine ⟨hx.trans ho, hxl.trans hl, fun he => absurd (hc h) he, fun _ m => ⟨by rw [if_neg (by omega)], done_s G K X m⟩, fun _ => ⟨rfl, done_0 G K _⟩⟩
  · simp only [if_neg h]
    exact ⟨ho, hl, fun _ => ⟨rfl, fun m => ⟨rfl, rfl⟩⟩, fun he => absurd he (hc' h), fun he => absurd he (hc' h)⟩
theorem fail_step (G : FR) (K : List Int) (ho : G.off = false) (hl : G.left = -1) (d : DoR) (hw : d.what % 12 ≤ 7) :
    Stroke G K (withE G d) (withF G d) (if d.what % 12 < 3 then withF G d else G) (fun m => withE (wl G m K) d) (fun m => withF (wl G m K) d) := by
  have hsync : ∀ n, Stroke G K (strokeE G n) (syncF G n) G (fun m => strokeE (wl G m K) n) (fun m => syncF (wl G m K) n) := fun n => by
    have h := stroke_done G K ho hl (setX G n syncX) (by unfold setX; split <;> rfl) (setX_left _ _ _) (strokeE G n) (hasE G n = 0) (fun h => by unfold strokeE; rw [if_pos h, if_neg (by omega)]) (fun h => by unfold strokeE; rw [if_neg h]; exact h)
    have e1 : (fun m : Nat => strokeE (wl G m K) n) = fun m : Nat => if hasE G n = 0 then (if (m : Int) = 0 then 51 else 0) else strokeE G n := by
      funext m
      show (if hasE G n = 0 then (if (m : Int) = 0 then (51 : Int) else 0) else hasE G n) = _
      by_cases hh : hasE G n = 0
      · rw [if_pos hh, if_pos hh]
      · rw [if_neg hh, if_neg hh]; unfold strokeE; rw [if_neg hh]
    have e2 : (fun m : Nat => syncF (wl G m K) n) = fun m : Nat => if hasE G n = 0 then doneF (wl G m K) (wl (setX G n syncX) m K) else wl G m K := by
      funext m
      unfold syncF
      rw [wl_has, wl_set]
    rw [e1, e2]; exact h
  have hrem : ∀ n, Stroke G K (strokeE G n) (removeF G n) G (fun m => strokeE (wl G m K) n) (fun m => removeF (wl G m K) n) := fun n => by
    have h := stroke_done G K ho hl (dropF G n) rfl rfl (strokeE G n) (hasE G n = 0) (fun h => by unfold strokeE; rw [if_pos h, if_neg (by omega)]) (fun h => by unfold strokeE; rw [if_neg h]; exact h)
    have e1 : (fun m : Nat => strokeE (wl G m K) n) = fun m : Nat => if hasE G n = 0 then (if (m : Int) = 0 then 51 else 0) else strokeE G n := by
      funext m
      show (if hasE G n = 0 then (if (m : Int) = 0 then (51 : Int) else 0) else hasE G n) = _
      by_cases hh : hasE G n = 0
      · rw [if_pos hh, if_pos hh]
      · rw [if_neg hh, if_neg hh]; unfold strokeE; rw [if_neg hh]
    rw [e1]; exact h
  have hcut : Stroke G K (cutE G d.A d.N) (cutF G d.A d.N) G (fun m => cutE (wl G m K) d.A d.N) (fun m => cutF (wl G m K) d.A d.N) := by
    have h := stroke_done G K ho hl (setX G d.A fun x => cutX x d.N) (by unfold setX; split <;> rfl) (setX_left _ _ _) (cutE G d.A d.N) (hasE G d.A = 0 ∧ ¬ cutBad G d.A d.N) (fun h => by unfold cutE; rw [if_pos h.1, if_neg h.2, if_neg (by omega)]) (fun h => by
      unfold cutE
      by_cases hh : hasE G d.A = 0
      · rw [if_pos hh]
        by_cases hb : cutBad G d.A d.N
        · rw [if_pos hb]; omega
        · exact absurd ⟨hh, hb⟩ h
      · rw [if_neg hh]; exact hh)
    have e1 : (fun m : Nat => cutE (wl G m K) d.A d.N) = fun m : Nat => if hasE G d.A = 0 ∧ ¬ cutBad G d.A d.N then (if (m : Int) = 0 then 51 else 0) else cutE G d.A d.N := by
      funext m
      show (if hasE G d.A = 0 then (if cutBad G d.A d.N then (2 : Int) else if (m : Int) = 0 then 51 else 0) else hasE G d.A) = _
      unfold cutE
      by_cases hm : (m : Int) = 0 <;> by_cases hh : hasE G d.A = 0 <;> by_cases hb : cutBad G d.A d.N <;> simp [hm, hh, hb]
    have e2 : (fun m : Nat => cutF (wl G m K) d.A d.N) = fun m : Nat => if hasE G d.A = 0 ∧ ¬ cutBad G d.A d.N then doneF (wl G m K) (wl (setX G d.A fun x => cutX x d.N) m K) else wl G m K := by
      funext m
      unfold cutF
      rw [wl_set]
      rfl
    rw [e1, e2]; exact h
  have hren : Stroke G K (renE G d.A d.B) (renameF G d.A d.B) G (fun m => renE (wl G m K) d.A d.B) (fun m => renameF (wl G m K) d.A d.B) := by
    have h := stroke_done G K ho hl (renF G d.A d.B (fileX G d.A)) rfl rfl (renE G d.A d.B) (hasE G d.A = 0 ∧ namedB d.B = true) (fun h => by unfold renE; rw [if_pos h.1, if_pos h.2, if_neg (by omega)]) (fun h => by
      unfold renE
      by_cases hh : hasE G d.A = 0
      · rw [if_pos hh]
        by_cases hb : namedB d.B = true
        · exact absurd ⟨hh, hb⟩ h
        · rw [if_neg hb]; omega
      · rw [if_neg hh]; exact hh)
    have e1 : (fun m : Nat => renE (wl G m K) d.A d.B) = fun m : Nat => if hasE G d.A = 0 ∧ namedB d.B = true then (if (m : Int) = 0 then 51 else 0) else renE G d.A d.B := by
      funext m
      show (if hasE G d.A = 0 then (if namedB d.B = true then (if (m : Int) = 0 then (51 : Int) else 0) else 2) else hasE G d.A) = _
      unfold renE
      by_cases hm : (m : Int) = 0 <;> by_cases hh : hasE G d.A = 0 <;> by_cases hb : namedB d.B = true <;> simp [hm, hh, hb]
    rw [e1]; exact h
  have happ : Stroke G K (appE G d.A d.S) (appF G d.A d.S) (appF G d.A d.S) (fun m => appE (wl G m K) d.A d.S) (fun m => appF (wl G m K) d.A d.S) := by
    have hoff : ¬ G.off = true := by rw [ho]; simp
    have hoffm : ∀ m : Nat, ¬ (wl G (m : Int) K).off = true := fun _ => hoff
    have hfm : ∀ m : Nat, fullB (wl G (m : Int) K) d.A d.S = fullB G d.A d.S := fun _ => rfl
    obtain ⟨x1, x2, _, _, _⟩ := appX_left G d.A d.S
    by_cases hn : namedB d.A = false
    · have e : ∀ m : Nat, appE (wl G m K) d.A d.S = 2 ∧ appF (wl G m K) d.A d.S = wl G m K := fun m => ⟨by unfold appE; rw [if_neg (hoffm m), if_pos hn], by unfold appF; rw [if_pos (.inr (.inl hn))]⟩
      have e0 : appE G d.A d.S = 2 ∧ appF G d.A d.S = G := ⟨by unfold appE; rw [if_neg hoff, if_pos hn], by unfold appF; rw [if_pos (.inr (.inl hn))]⟩
      rw [e0.1, e0.2]
      exact ⟨ho, hl, fun _ => ⟨rfl, e⟩, fun h => by omega, fun h => by omega⟩
    · by_cases hf : fullB G d.A d.S = true
      · have e : ∀ m : Nat, appE (wl G m K) d.A d.S = 50 ∧ appF (wl G m K) d.A d.S = wl G m K := fun m => ⟨by unfold appE; rw [if_neg (hoffm m), if_neg hn, hfm, if_pos hf], by unfold appF; rw [hfm, if_pos (.inr (.inr hf))]⟩
        have e0 : appE G d.A d.S = 50 ∧ appF G d.A d.S = G := ⟨by unfold appE; rw [if_neg hoff, if_neg hn, if_pos hf], by unfold appF; rw [if_pos (.inr (.inr hf))]⟩
        rw [e0.1, e0.2]
        exact ⟨ho, hl, fun _ => ⟨rfl, e⟩, fun h => by omega, fun h => by omega⟩
      · have hno : ¬ (G.off = true ∨ namedB d.A = false ∨ fullB G d.A d.S = true) := fun h => by rcases h with h | h | h; exact hoff h; exact hn h; exact hf h
        have e : ∀ m : Nat, appE (wl G m K) d.A d.S = (if (m : Int) = 0 then 51 else 0) ∧ appF (wl G m K) d.A d.S = doneA (wl (appX G d.A d.S) m K) := fun m => ⟨by unfold appE; rw [if_neg (hoffm m), if_neg hn, hfm, if_neg hf]; rfl, by unfold appF; rw [hfm, if_neg (show ¬ ((wl G (m : Int) K).off = true ∨ namedB d.A = false ∨ fullB G d.A d.S = true) from hno), wl_app]⟩
        have e0 : appE G d.A d.S = 0 ∧ appF G d.A d.S = appX G d.A d.S := ⟨by unfold appE; rw [if_neg hoff, if_neg hn, if_neg hf, if_neg (by omega)], by unfold appF; rw [if_neg hno]; exact doneA_n _ (x1.trans hl)⟩
        rw [e0.1, e0.2]
        refine ⟨x2.trans ho, x1.trans hl, fun h => absurd rfl h, fun _ m => ?_, fun _ => ?_⟩
        · exact ⟨((e (m + 1)).1).trans (if_neg (by omega)), ((e (m + 1)).2).trans (doneA_s _ K m)⟩
        · exact ⟨((e 0).1).trans (if_pos rfl), ((e 0).2).trans (doneA_0 _ K)⟩
  unfold withE withF
  generalize d.what % 12 = r at *
  rcases (show r = 0 ∨ r = 1 ∨ r = 2 ∨ r = 3 ∨ r = 4 ∨ r = 5 ∨ r = 6 ∨ r = 7 by omega) with rfl | rfl | rfl | rfl | rfl | rfl | rfl | rfl
  · exact happ
  · exact happ
  · exact happ
  · exact hsync _
  · exact hsync _
  · exact hcut
  · exact hren
  · exact hrem _
theorem wl_sound {G : FR} (h : Sound G) (m : Nat) (hm : m ≤ 1000) (K : List Int) (hK : K.length ≤ 1000000) : Sound (wl G (m : Int) K) :=
  ⟨h.lim1, h.lim2, h.cnt, h.asc, h.nam, h.sum, by show (m : Int) ≤ _; omega, by show K.length ≤ _; omega⟩
/-- Behind the crash, and a start: the names; each file a beginning. -/
theorem wl_crash (H : FR) (K : List Int) : (startF (crashF (wl H 0 K) K)).files.map PF.name = H.files.map PF.name ∧ (startF (crashF (wl H 0 K) K)).files = crashL H.files K := by
  have h : (startF (crashF (wl H 0 K) K)).files = crashL H.files K := rfl
  exact ⟨by rw [h, crash_names], h⟩
theorem cut_prefix (x : PF) (k : Int) : (cr x k).bytes.size ≤ x.bytes.size ∧ x.bytes.extract 0 (cr x k).bytes.size = (cr x k).bytes := by
  have h1 : (cr x k).bytes = x.pl ++ x.air.extract 0 (min k.toNat x.air.size) := by simp [cr, PF.bytes]
  have h2 : (cr x k).bytes.size = x.pl.size + min k.toNat x.air.size := by
    rw [h1, ByteArray.size_append, ByteArray.size_extract]; omega
  refine ⟨?_, ?_⟩
  · rw [h2]
    show _ ≤ (x.pl ++ x.air).size
    rw [ByteArray.size_append]; omega
  · rw [h2, h1]
    exact ext_app x.pl x.air _
end Go.Proofs.Ytmoaecicibjmnaa
