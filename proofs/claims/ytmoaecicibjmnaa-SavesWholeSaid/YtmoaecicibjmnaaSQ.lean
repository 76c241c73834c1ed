/- Plain laws of a Write, step by step. -/
import Derived.Test.YtmoaecicibjmnaaSP
namespace Go.Proofs.Ytmoaecicibjmnaa
open Go.RowKit

theorem done_cases {F F2 : FR} (h2 : F2.left = F.left) : (F.left = 0 ∧ doneF F F2 = crashF F F.keep) ∨ (F.left ≠ 0 ∧ (doneF F F2).files = F2.files ∧ (doneF F F2).off = F2.off ∧ (doneF F F2).limit = F2.limit ∧ (F.left = -1 → (doneF F F2).left = -1)) := by
  unfold doneF
  by_cases h : F.left = 0
  · rw [if_pos h]; exact .inl ⟨h, rfl⟩
  · rw [if_neg h]
    by_cases h3 : 0 < F.left
    · rw [if_pos h3]; exact .inr ⟨h, rfl, rfl, rfl, fun e => by omega⟩
    · rw [if_neg h3]; exact .inr ⟨h, rfl, rfl, rfl, fun e => by rw [h2, e]⟩
theorem doneA_cases (F : FR) : (F.left = 0 ∧ doneA F = crashF F F.keep) ∨ (F.left ≠ 0 ∧ (doneA F).files = F.files ∧ (doneA F).off = F.off ∧ (doneA F).limit = F.limit ∧ (F.left = -1 → (doneA F).left = -1)) := by
  unfold doneA
  by_cases h : F.left = 0
  · rw [if_pos h]; exact .inl ⟨h, rfl⟩
  · rw [if_neg h]
    by_cases h3 : 0 < F.left
    · rw [if_pos h3]; exact .inr ⟨h, rfl, rfl, rfl, fun e => by omega⟩
    · rw [if_neg h3]; exact .inr ⟨h, rfl, rfl, rfl, fun e => e⟩
theorem Mid.self {F : FR} (hG : Sound F) (ho : F.off = false) : Mid F F := ⟨ho, rfl, fun h => h, fun _ _ => Iff.rfl, hG⟩
theorem clean_law {F : FR} (hG : Sound F) (ho : F.off = false) (hs : Synced F) :
    (cleanE F = 51 ∧ Cut F (wF3 F)) ∨ (cleanE F = 0 ∧ Mid F (wF3 F) ∧ (∀ y ∈ (wF3 F).files, y.name ≠ dN)) := by
  rcases hasE_on hG ho dN with ⟨h0, _⟩ | ⟨h4, hno⟩
  · have hw : wF3 F = doneF F (dropF F dN) := by unfold wF3 removeF; rw [if_pos h0]
    have hst : strokeE F dN = if F.left = 0 then 51 else 0 := by unfold strokeE; rw [if_pos h0]
    rcases done_cases (F := F) (F2 := dropF F dN) rfl with ⟨hl, hd⟩ | ⟨hl, d1, d2, d3, d4⟩
    · refine .inl ⟨?_, ?_⟩
      · unfold cleanE; rw [hst, if_pos hl, if_neg (by omega)]
      · rw [hw, hd]; exact (Mid.self hG ho).cut hs hl _
    · refine .inr ⟨?_, ?_, ?_⟩
      · unfold cleanE; rw [hst, if_neg hl, if_neg (by omega)]
      · refine ⟨?_, ?_, ?_, ?_, hG.w3⟩
        · rw [hw, d2]; exact ho
        · rw [hw, d3]; rfl
        · rw [hw]; exact d4
        · intro y hy
          rw [hw, d1]
          show y ∈ dropL F.files dN ↔ _
          rw [mem_drop hG.asc]
          exact ⟨fun h => h.1, fun h => ⟨h, hy⟩⟩
      · intro y hy
        rw [hw, d1] at hy
        exact ((mem_drop hG.asc dN y).1 hy).2
  · have hw : wF3 F = F := by unfold wF3 removeF; rw [if_neg (by rw [h4]; omega)]
    have hst : strokeE F dN = 4 := by unfold strokeE; rw [if_neg (by rw [h4]; omega), h4]
    refine .inr ⟨?_, ?_, ?_⟩
    · unfold cleanE; rw [hst, if_pos rfl]
    · rw [hw]; exact Mid.self hG ho
    · rw [hw]; exact hno
theorem rising_insL {F : FR} (hG : Sound F) (hno : ∀ y ∈ F.files, y.name ≠ dN) : Rising (insL F.files (place F.files dN) (noX dN)) := by
  refine rising_ins hG.asc (noX dN) ?_
  cases h : isAt F.files dN with
  | false => exact h
  | true =>
    obtain ⟨x, hx, hn⟩ := (mem_isAt hG.asc dN).1 h
    exact absurd hn (hno x hx)
theorem appX_mem {F : FR} (hG : Sound F) (hno : ∀ y ∈ F.files, y.name ≠ dN) (t : ByteArray) (y : PF) : y ∈ (appX F dN t).files ↔ y = ⟨dN, ByteArray.empty, t⟩ ∨ y ∈ F.files := by
  have hi : ¬ isAt F.files dN = true := fun h => by
    obtain ⟨x, hx, hn⟩ := (mem_isAt hG.asc dN).1 h
    exact hno x hx hn
  have hg : (insL F.files (place F.files dN) (noX dN))[place F.files dN]? = some (noX dN) := insL_get F.files _ _ (place_le _ _)
  have ha : addX (noX dN) t = ⟨dN, ByteArray.empty, t⟩ := by simp [addX, noX]
  unfold appX
  rw [if_neg hi]
  show y ∈ (insL F.files (place F.files dN) (noX dN)).set (place F.files dN) (addX (noX dN) t) ↔ _
  rw [mem_setL (rising_insL hG hno) hg, mem_insL, ha]
  constructor
  · rintro (h | ⟨h | h, hn⟩)
    · exact .inl h
    · exact absurd (by rw [h]) hn
    · exact .inr h
  · rintro (h | h)
    · exact .inl h
    · exact .inr ⟨.inr h, hno y h⟩
theorem append_law {F G : FR} (hm : Mid F G) (hs : Synced F) (hno : ∀ y ∈ G.files, y.name ≠ dN) (t : ByteArray) :
    (appE G dN t = 50 ∧ appF G dN t = G ∧ (G.files.length = 32 ∨ F.limit < (total G.files : Int) + (t.size : Int))) ∨ (appE G dN t = 51 ∧ Cut F (appF G dN t)) ∨
    (appE G dN t = 0 ∧ Mid F (appF G dN t) ∧ (⟨dN, ByteArray.empty, t⟩ : PF) ∈ (appF G dN t).files) := by
  have hoff : ¬ G.off = true := by rw [hm.off]; simp
  have hnd : ¬ namedB dN = false := by rw [d_named]; simp
  by_cases hf : fullB G dN t = true
  · refine .inl ⟨?_, ?_, ?_⟩
    · unfold appE; rw [if_neg hoff, if_neg hnd, if_pos hf]
    · unfold appF; rw [if_pos (.inr (.inr hf))]
    · unfold fullB at hf
      simp only [Bool.or_eq_true, Bool.and_eq_true, decide_eq_true_eq] at hf
      rcases hf with h | h
      · exact .inl h.2
      · have := hm.lim; exact .inr (by omega)
  · have hE : appE G dN t = if G.left = 0 then 51 else 0 := by unfold appE; rw [if_neg hoff, if_neg hnd, if_neg hf]
    have hF : appF G dN t = doneA (appX G dN t) := by
      unfold appF
      rw [if_neg (fun h => by rcases h with h | h | h; exact hoff h; exact hnd h; exact hf h)]
    obtain ⟨x1, x2, x3, _, _⟩ := appX_left G dN t
    have hsnd : Sound (appF G dN t) := hm.snd.with' ⟨0, dN, tx [], t, 0, []⟩ (by show (0 : Int) ≤ _; omega) (Nat.zero_le _)
    have hrest : ∀ y : PF, y.name ≠ dN → (y ∈ (appX G dN t).files ↔ y ∈ F.files) := fun y hy => by
      rw [appX_mem hm.snd hno]
      constructor
      · rintro (h | h)
        · exact absurd (by rw [h]) hy
        · exact (hm.rest y hy).1 h
      · exact fun h => .inr ((hm.rest y hy).2 h)
    rcases doneA_cases (appX G dN t) with ⟨hl, hd⟩ | ⟨hl, d1, d2, d3, d4⟩
    · refine .inr (.inl ⟨by rw [hE, if_pos (by rw [← x1]; exact hl)], ?_⟩)
      rw [hF, hd]
      have hsy : Synced (appX G dN t) := fun y hy hn => hs y ((hrest y hn).1 hy) hn
      exact ⟨fun e => by have := hm.neg e; omega, rfl, rfl, x3.trans hm.lim, fun y hy => (crash_rest hsy _ y hy).trans (hrest y hy)⟩
    · refine .inr (.inr ⟨by rw [hE, if_neg (by rw [← x1]; exact hl)], ⟨?_, ?_, ?_, ?_, hsnd⟩, ?_⟩)
      · rw [hF, d2, x2]; exact hm.off
      · rw [hF, d3, x3]; exact hm.lim
      · intro h; rw [hF]; exact d4 (x1.trans (hm.neg h))
      · intro y hy; rw [hF, d1]; exact hrest y hy
      · rw [hF, d1, appX_mem hm.snd hno]; exact .inl rfl
theorem sync_law {F G : FR} (hm : Mid F G) (hs : Synced F) {t : ByteArray} (hd : (⟨dN, ByteArray.empty, t⟩ : PF) ∈ G.files) :
    (strokeE G dN = 51 ∧ Cut F (syncF G dN)) ∨ (strokeE G dN = 0 ∧ Mid F (syncF G dN) ∧ (⟨dN, t, ByteArray.empty⟩ : PF) ∈ (syncF G dN).files) := by
  have h0 : hasE G dN = 0 := by
    rcases hasE_on hm.snd hm.off dN with ⟨h, _⟩ | ⟨_, h⟩
    · exact h
    · exact absurd rfl (h _ hd)
  have hst : strokeE G dN = if G.left = 0 then 51 else 0 := by unfold strokeE; rw [if_pos h0]
  have hw : syncF G dN = doneF G (setX G dN syncX) := by unfold syncF; rw [if_pos h0]
  obtain ⟨k, hk⟩ := List.mem_iff_getElem?.1 hd
  have hp : place G.files dN = k := place_self hm.snd.asc hk
  have hset : setX G dN syncX = putF G k ⟨dN, t, ByteArray.empty⟩ := by
    unfold setX
    rw [hp, hk]
    simp [syncX, PF.bytes]
  have hsnd : Sound (syncF G dN) := hm.snd.with' ⟨3, dN, tx [], tx [], 0, []⟩ (by show (0 : Int) ≤ _; omega) (Nat.zero_le _)
  rcases done_cases (F := G) (F2 := setX G dN syncX) (by rw [hset]; rfl) with ⟨hl, hd'⟩ | ⟨hl, d1, d2, d3, d4⟩
  · refine .inl ⟨by rw [hst, if_pos hl], ?_⟩
    rw [hw, hd']; exact hm.cut hs hl _
  · have hmem : ∀ y, y ∈ (syncF G dN).files ↔ y = ⟨dN, t, ByteArray.empty⟩ ∨ (y ∈ G.files ∧ y.name ≠ dN) := fun y => by
      rw [hw, d1, hset]
      exact mem_setL hm.snd.asc hk y
    refine .inr ⟨by rw [hst, if_neg hl], ⟨?_, ?_, ?_, ?_, hsnd⟩, (hmem _).2 (.inl rfl)⟩
    · rw [hw, d2, hset]; exact hm.off
    · rw [hw, d3, hset]; exact hm.lim
    · intro h; rw [hw]; exact d4 (hm.neg h)
    · intro y hy
      rw [hmem, ← hm.rest y hy]
      exact ⟨fun h => by rcases h with h | h; exact absurd (by rw [h]) hy; exact h.1, fun h => .inr ⟨h, hy⟩⟩
/-- What a Write that was done leaves. -/
structure Done (F : FR) (n t : ByteArray) (G : FR) : Prop where
  off : G.off = false
  lim : G.limit = F.limit
  neg : F.left = -1 → G.left = -1
  files : ∀ y, y ∈ G.files ↔ y = ⟨n, t, ByteArray.empty⟩ ∨ (y ∈ F.files ∧ y.name ≠ n ∧ y.name ≠ dN)
theorem good_name {n : ByteArray} (h : ¬ badN n) : namedB n = true ∧ n ≠ dN := by
  unfold badN at h
  refine ⟨?_, fun e => h (.inr (.inr e))⟩
  unfold namedB
  rw [Bool.and_eq_true, decide_eq_true_eq, decide_eq_true_eq]
  refine ⟨?_, ?_⟩
  · have : ¬ n.size = 0 := fun e => h (.inl e)
    omega
  · have : ¬ 16 < n.size := fun e => h (.inr (.inl e))
    omega
theorem rename_law {F G : FR} (hm : Mid F G) (hs : Synced F) {n t : ByteArray} (hd : (⟨dN, t, ByteArray.empty⟩ : PF) ∈ G.files) (hn : ¬ badN n) :
    (renE G dN n = 51 ∧ Cut F (renameF G dN n)) ∨ (renE G dN n = 0 ∧ Done F n t (renameF G dN n)) := by
  obtain ⟨hnm, hne⟩ := good_name hn
  have h0 : hasE G dN = 0 := by
    rcases hasE_on hm.snd hm.off dN with ⟨h, _⟩ | ⟨_, h⟩
    · exact h
    · exact absurd rfl (h _ hd)
  have hst : renE G dN n = if G.left = 0 then 51 else 0 := by unfold renE; rw [if_pos h0, if_pos hnm]
  have hw : renameF G dN n = doneF G (renF G dN n (fileX G dN)) := by unfold renameF; rw [if_pos ⟨h0, hnm⟩]
  obtain ⟨k, hk⟩ := List.mem_iff_getElem?.1 hd
  have hp : place G.files dN = k := place_self hm.snd.asc hk
  have hx : fileX G dN = ⟨dN, t, ByteArray.empty⟩ := by unfold fileX; rw [hp, hk]; rfl
  rcases done_cases (F := G) (F2 := renF G dN n (fileX G dN)) rfl with ⟨hl, hd'⟩ | ⟨hl, d1, d2, d3, d4⟩
  · refine .inl ⟨by rw [hst, if_pos hl], ?_⟩
    rw [hw, hd']; exact hm.cut hs hl _
  · refine .inr ⟨by rw [hst, if_neg hl], ?_, ?_, ?_, ?_⟩
    · rw [hw, d2]; exact hm.off
    · rw [hw, d3]; exact hm.lim
    · intro h; rw [hw]; exact d4 (hm.neg h)
    · intro y
      rw [hw, d1, hx]
      show y ∈ insL (dropL (dropL G.files dN) n) _ (renX _ n) ↔ _
      rw [mem_insL, mem_drop (rising_drop hm.snd.asc dN), mem_drop hm.snd.asc]
      show (y = ⟨n, t, ByteArray.empty⟩ ∨ _) ↔ _
      constructor
      · rintro (h | ⟨⟨h1, h2⟩, h3⟩)
        · exact .inl h
        · exact .inr ⟨(hm.rest y h2).1 h1, h3, h2⟩
      · rintro (h | ⟨h1, h2, h3⟩)
        · exact .inl h
        · exact .inr ⟨⟨(hm.rest y h3).2 h1, h3⟩, h2⟩
/-- WHAT A WRITE DOES: it is done, or there is no room, or it is cut off. -/
theorem save_law {F : FR} (hG : Sound F) (ho : F.off = false) (hs : Synced F) {n : ByteArray} (hn : ¬ badN n) (t : ByteArray) :
    (saveE F n t = 0 ∧ Done F n t (saveF F n t)) ∨
    (saveE F n t = 50 ∧ Mid F (saveF F n t) ∧ saveF F n t = wF3 F ∧ ((wF3 F).files.length = 32 ∨ F.limit < (total (wF3 F).files : Int) + (t.size : Int))) ∨
    (saveE F n t = 51 ∧ Cut F (saveF F n t)) := by
  have e0 : wE F n t 0 = 0 := by show onE F = 0; unfold onE; rw [if_neg (by rw [ho]; simp)]
  have e1 : wE F n t 1 = 0 := by show nameE n = 0; unfold nameE; rw [if_neg hn]
  have e2 : wE F n t 2 = cleanE F := rfl
  have e3 : wE F n t 3 = appE (wF3 F) dN t := rfl
  have e4 : wE F n t 4 = strokeE (wF4 F t) dN := rfl
  have e5 : wE F n t 5 = renE (wF5 F t) dN n := rfl
  have lt1 : ∀ j, j < 2 → wE F n t j = 0 := fun j hj => by
    rcases (show j = 0 ∨ j = 1 by omega) with rfl | rfl
    · exact e0
    · exact e1
  rcases clean_law hG ho hs with ⟨h, hc⟩ | ⟨h, hm3, hno⟩
  · obtain ⟨a1, a2⟩ := saved_at (j := 2) (by omega) lt1 (by rw [e2, h]; omega)
    rw [a1, a2, e2, h]
    exact .inr (.inr ⟨rfl, hc⟩)
  · have lt2 : ∀ j, j < 3 → wE F n t j = 0 := fun j hj => by
      rcases (show j < 2 ∨ j = 2 by omega) with h1 | rfl
      · exact lt1 j h1
      · rw [e2, h]
    rcases append_law hm3 hs hno t with ⟨h, hf, hr⟩ | ⟨h, hc⟩ | ⟨h, hm4, hd⟩
    · obtain ⟨a1, a2⟩ := saved_at (j := 3) (by omega) lt2 (by rw [e3, h]; omega)
      have hf' : wF F n t (3 + 1) = wF3 F := hf
      rw [a1, a2, e3, h, hf']
      exact .inr (.inl ⟨rfl, hm3, rfl, hr⟩)
    · obtain ⟨a1, a2⟩ := saved_at (j := 3) (by omega) lt2 (by rw [e3, h]; omega)
      rw [a1, a2, e3, h]
      exact .inr (.inr ⟨rfl, hc⟩)
    · have lt3 : ∀ j, j < 4 → wE F n t j = 0 := fun j hj => by
        rcases (show j < 3 ∨ j = 3 by omega) with h1 | rfl
        · exact lt2 j h1
        · rw [e3, h]
      have hm4' : Mid F (wF4 F t) := hm4
      rcases sync_law hm4' hs hd with ⟨h, hc⟩ | ⟨h, hm5, hd5⟩
      · obtain ⟨a1, a2⟩ := saved_at (j := 4) (by omega) lt3 (by rw [e4, h]; omega)
        rw [a1, a2, e4, h]
        exact .inr (.inr ⟨rfl, hc⟩)
      · have lt4 : ∀ j, j < 5 → wE F n t j = 0 := fun j hj => by
          rcases (show j < 4 ∨ j = 4 by omega) with h1 | rfl
          · exact lt3 j h1
          · rw [e4, h]
        have hm5' : Mid F (wF5 F t) := hm5
        rcases rename_law hm5' hs hd5 hn with ⟨h, hc⟩ | ⟨h, hdone⟩
        · obtain ⟨a1, a2⟩ := saved_at (j := 5) (by omega) lt4 (by rw [e5, h]; omega)
          rw [a1, a2, e5, h]
          exact .inr (.inr ⟨rfl, hc⟩)
        · obtain ⟨a1, a2⟩ := saved_ok (F := F) (n := n) (t := t) (fun j hj => by
            rcases (show j < 5 ∨ j = 5 by omega) with h1 | rfl
            · exact lt4 j h1
            · rw [e5, h])
          rw [a1, a2]
          exact .inl ⟨rfl, hdone⟩
end Go.Proofs.Ytmoaecicibjmnaa
