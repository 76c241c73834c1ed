/- slices.Delete of one file. -/
import Derived.Test.YtmoaecicibjmnaaFK
import Derived.Laws.IdiomCopy
import Derived.Deep.RegionLaw
import Derived.Shelf.RegionOpenPlain
import Derived.Lib.SliceRun
namespace Go.Proofs.Ytmoaecicibjmnaa
open Go.RowKit

theorem setCells_size (b : Nat) : ∀ (vs : List Value) (o : Nat) (w : World), (w.setCells b o vs).heap.size = w.heap.size
  | [], _, _ => rfl
  | v :: r, o, w => by rw [World.setCells, setCells_size b r, size_set]
theorem setCells_other (b : Nat) : ∀ (vs : List Value) (o : Nat) (w : World) (c : Nat), c ≠ b → (w.setCells b o vs).heap[c]? = w.heap[c]?
  | [], _, _, _, _ => rfl
  | v :: r, o, w, c, h => by rw [World.setCells, setCells_other b r _ _ c h, setCell_heap_other _ _ _ _ _ h]
theorem setCells_rest (b : Nat) : ∀ (vs : List Value) (o : Nat) (w : World), (w.setCells b o vs).os = w.os ∧ (w.setCells b o vs).tape = w.tape ∧ (w.setCells b o vs).output = w.output
  | [], _, _ => ⟨rfl, rfl, rfl⟩
  | v :: r, o, w => by rw [World.setCells]; exact setCells_rest b r _ _
theorem setCells_out (b o : Nat) (vs : List Value) (w : World) : Out (fun k => k = b) w (w.setCells b o vs) :=
  ⟨(setCells_rest b vs o w).1, (setCells_rest b vs o w).2.1, (setCells_rest b vs o w).2.2, Nat.le_of_eq (setCells_size b vs o w).symm, fun k _ hn => setCells_other b vs o w k hn⟩
/-- A list with others laid over it from o on. -/
def over (cur : List Value) (o : Nat) (vs : List Value) : List Value := cur.take o ++ (vs ++ cur.drop (o + vs.length))
theorem over_len (cur : List Value) (o : Nat) (vs : List Value) (h : o + vs.length ≤ cur.length) : (over cur o vs).length = cur.length := by
  simp only [over, List.length_append, List.length_take, List.length_drop]; omega
theorem over_get (cur : List Value) (o : Nat) (vs : List Value) (h : o + vs.length ≤ cur.length) (j : Nat) : (over cur o vs)[j]? = if j < o then cur[j]? else if j < o + vs.length then vs[j - o]? else cur[j]? := by
  unfold over
  have h1 : (cur.take o).length = o := by rw [List.length_take]; omega
  by_cases c1 : j < o
  · rw [if_pos c1, List.getElem?_append_left (by omega), List.getElem?_take, if_pos c1]
  · rw [if_neg c1, List.getElem?_append_right (by omega), h1]
    by_cases c2 : j < o + vs.length
    · rw [if_pos c2, List.getElem?_append_left (by omega)]
    · rw [if_neg c2, List.getElem?_append_right (by omega), List.getElem?_drop]
      congr 1; omega
theorem setCells_block {b : Nat} {t : TypeId} : ∀ (vs : List Value) (o : Nat) (w : World) (cur : List Value), w.heap[b]? = some (.cells cur.toArray t (0, 0)) → o + vs.length ≤ cur.length → (w.setCells b o vs).heap[b]? = some (.cells (over cur o vs).toArray t (0, 0))
  | [], o, w, cur, h, _ => by
    have e : over cur o [] = cur := by simp [over]
    rw [e]; exact h
  | v :: r, o, w, cur, h, hl => by
    simp only [List.length_cons] at hl
    rw [World.setCells]
    have h1 : (w.setCell ⟨b, o, none⟩ v).heap[b]? = some (.cells (cur.set o v).toArray t (0, 0)) := by
      rw [setCell_heap_same w b o v _ t h]
      congr 2
      simp [Array.setIfInBounds]
      intro h; omega
    have h2 := setCells_block r (o + 1) _ (cur.set o v) h1 (by rw [List.length_set]; omega)
    rw [h2]
    have e : over (cur.set o v) (o + 1) r = over cur o (v :: r) := by
      apply List.ext_getElem?
      intro j
      rw [over_get _ _ _ (by rw [List.length_set]; omega), over_get _ _ _ (by simp only [List.length_cons]; omega)]
      simp only [List.length_cons]
      by_cases c1 : j < o
      · rw [if_pos (by omega), if_pos c1, List.getElem?_set_ne (by omega)]
      · by_cases c0 : j = o
        · subst c0
          rw [if_pos (by omega), if_neg c1, if_pos (by omega), List.getElem?_set_self (by omega), Nat.sub_self]; rfl
        · rw [if_neg (by omega), if_neg c1]
          by_cases c2 : j < o + 1 + r.length
          · rw [if_pos c2, if_pos (by omega), show j - o = (j - (o + 1)) + 1 by omega]; rfl
          · rw [if_neg c2, if_neg (by omega), List.getElem?_set_ne (by omega)]
    rw [e]
/-- An own row out of its block's cells. -/
theorem own_mk {w : World} {B g cap n : Nat} {t : TypeId} {cur xs : List Value} (hB : B ≤ g) (hg : w.heap[g]? = some (.cells cur.toArray t (0, 0))) (hn : n ≤ cap) (hc : cap ≤ maxLen) (hs : cur.length = cap * 3) (hx : xs.length = n * 3) (ht : cur.take (n * 3) = xs) :
    w.ownsRow B t 3 (.slice (some ⟨g, 0, none⟩) n cap) n xs :=
  ⟨hx, .inr ⟨g, cap, cur.toArray, rfl, hB, hg, hn, hc, by simpa using hs, by simpa using ht⟩⟩
def noStr : Value := .string ⟨#[]⟩
theorem run_clear3 {P : Program} (w : World) (t e ty : TypeId) (ht : P.underlying t = some (.slice e)) (hv : ∀ w, (zeroValue e).run P w = .ok (.agg #[noStr, noStr, noStr]) w) (b o c : Nat)
    (hc : ∀ j, j < 3 → (w.cell? ⟨b, o + j, none⟩).isSome = true) (hf : ∀ j, j < 3 → w.frozen? ⟨b, o + j, none⟩ = false) :
    (Builtin.clear_ #[t] ty #[.slice (some ⟨b, o, none⟩) 1 c]).run P w = .ok (.tuple #[]) (w.setCells b o [noStr, noStr, noStr]) := by
  have hst := run_storeCells_cells (P := P) b o [noStr, noStr, noStr] 0 w (by simpa using hc) (by simpa using hf) (by intro v hv'; simp only [List.mem_cons, List.not_mem_nil, or_false] at hv'; rcases hv' with rfl | rfl | rfl <;> rfl)
  simp only [Nat.add_zero] at hst
  have hzc : (Builtin.zeroCells (Value.agg #[noStr, noStr, noStr]).cells 1).toList = [noStr, noStr, noStr] := by kernel_rfl
  simp [Builtin.clear_, run_underlying ht, hv, hzc, hst]
theorem erase_cs (L : List PF) (i : Nat) (hi : i < L.length) (cur : List Value) (cap : Nat) (hl : cur.length = cap * 3) (hn : L.length ≤ cap) (hc : cur.take (L.length * 3) = cs L) :
    (over (over cur (i * 3) (cs (L.drop (i + 1)))) ((L.length - 1) * 3) [noStr, noStr, noStr]).take ((L.eraseIdx i).length * 3) = cs (L.eraseIdx i) := by
  have e1 : (L.eraseIdx i).length = L.length - 1 := by rw [List.length_eraseIdx, if_pos hi]
  have e2 : L.eraseIdx i = L.take i ++ L.drop (i + 1) := List.eraseIdx_eq_take_drop_succ L i
  have e3 : (List.drop ((i + 1) * 3) (List.take (L.length * 3) cur)).length = (L.length - (i + 1)) * 3 := by rw [List.length_drop, List.length_take]; omega
  rw [e1, e2, cs_append, cs_take, cs_drop, ← hc]
  apply List.ext_getElem?
  intro j
  rw [List.getElem?_take]
  by_cases hj : j < (L.length - 1) * 3
  · rw [if_pos hj, over_get _ _ _ (by rw [over_len _ _ _ (by rw [e3]; omega)]; simp only [List.length_cons, List.length_nil]; omega), if_pos hj, over_get _ _ _ (by rw [e3]; omega)]
    by_cases c1 : j < i * 3
    · rw [if_pos c1, List.getElem?_append_left (by rw [List.length_take, List.length_take]; omega), List.getElem?_take, if_pos c1, List.getElem?_take, if_pos (by omega)]
    · rw [if_neg c1, if_pos (by rw [e3]; omega), List.getElem?_append_right (by rw [List.length_take, List.length_take]; omega), List.length_take, List.length_take]
      rw [show min (i * 3) (min (L.length * 3) cur.length) = i * 3 by omega]
  · rw [if_neg hj, List.getElem?_eq_none]
    rw [List.length_append, List.length_take, List.length_drop, List.length_take]
    omega

set_option maxHeartbeats 4000000 in
set_option maxRecDepth 100000 in
theorem delete_any (w : World) (v : Value) (L : List PF) (i : Nat) (hi : i < L.length) (hown : w.ownsRow 0 82 3 v L.length (cs L)) :
    Calls Try.prog 98 #[v, .int .i64 (i : Nat), .int .i64 ((i : Int) + 1)] w fun e w' =>
      ∃ g cap, v = .slice (some ⟨g, 0, none⟩) L.length cap ∧ e = .returned (.slice (some ⟨g, 0, none⟩) (L.length - 1) cap) ∧ w'.ownsRow 0 82 3 (.slice (some ⟨g, 0, none⟩) (L.length - 1) cap) (L.eraseIdx i).length (cs (L.eraseIdx i)) ∧ Out (fun k => k = g) w w' := by
  obtain ⟨g, cap, cur, rfl, hg, h1, h2, h3, h4⟩ : ∃ g cap cur, v = .slice (some ⟨g, 0, none⟩) L.length cap ∧ w.heap[g]? = some (.cells cur 82 (0, 0)) ∧ L.length ≤ cap ∧ cap ≤ maxLen ∧ cur.size = cap * 3 ∧ cur.toList.take (L.length * 3) = cs L := by
    rcases hown.2 with ⟨_, h0⟩ | ⟨g, cap, cur, hv, _, hg, h1, h2, h3, h4⟩
    · omega
    · exact ⟨g, cap, cur, hv, hg, h1, h2, h3, h4⟩
  obtain ⟨cur, rfl⟩ : ∃ cl : List Value, cur = cl.toArray := ⟨cur.toList, by simp⟩
  simp only [List.size_toArray] at h3 h4
  obtain ⟨n, hn⟩ : ∃ n, n = L.length := ⟨_, rfl⟩
  have HN := Lib.hid hn
  have H3 := Lib.hid h3
  have H4 := Lib.hid h4
  have HG := Lib.hid hg
  rw [← hn] at hi h1 ⊢
  unfold maxLen at h2
  clear h3 h4 hg hown hn
  obtain ⟨i0, hi0, hz1⟩ := Option.map_eq_some_iff.1 (show (Try.prog.info? 82).map (fun i => i.size) = some 3 by kernel_rfl)
  have t56 : Try.prog.underlying 56 = some (.slice 82) := by kernel_rfl
  obtain ⟨news, hnews⟩ : ∃ news, news = cs (L.drop (i + 1)) := ⟨_, rfl⟩
  have HW := Lib.hid hnews
  have s1 : Hid (news.length = (n - (i + 1)) * 3) := by rw [hnews, cs_len, List.length_drop, HN.out]; exact Lib.hid rfl
  have s2 : Hid (∀ u ∈ news, u.oneCell' = true) := by rw [hnews]; exact Lib.hid (cs_one _)
  have hcl : ∀ j, w.cell? ⟨g, j, none⟩ = cur[j]? := fun j => by rw [cell_at HG.out j]; simp
  have HC := Lib.hid hcl
  obtain ⟨A, hA, hsrc⟩ : ∃ A : Addr, (if cap = i + 1 then (some ⟨g, 0, none⟩ : Option Addr) else some ⟨g, (i + 1) * 3, none⟩) = some A ∧ Hid (∀ t u, news[t]? = some u → w.drew.cell? (A.add t) = some u) := by
    by_cases h : cap = i + 1
    · refine ⟨_, by rw [if_pos h], fun t u hu => ?_⟩
      have h0 : news.length = 0 := by rw [s1.out]; omega
      rw [List.length_eq_zero_iff.1 h0] at hu
      simp at hu
    · refine ⟨_, by rw [if_neg h], fun t u hu => ?_⟩
      have ht := (List.getElem?_eq_some_iff.1 hu).1
      rw [s1.out] at ht
      rw [add_plain]
      show w.cell? ⟨g, (i + 1) * 3 + t, none⟩ = some u
      rw [HC.out, ← hu, HW.out, cs_drop, ← H4.out, List.getElem?_drop, List.getElem?_take, if_pos (by rw [← HN.out]; omega)]
  have hsp : Hid (∀ j, j < cap * 3 → (w.cell? ⟨g, j, none⟩).isSome = true) := fun j hj => by rw [HC.out, List.getElem?_eq_getElem (by rw [H3.out]; exact hj)]; rfl
  have hfr : Hid (∀ j, w.frozen? ⟨g, j, none⟩ = false) := fun j => free_at HG.out j
  have s3 : Hid (∀ t, t < news.length → (w.drew.cell? ⟨g, 0 + i * 3 + t, none⟩).isSome = true ∧ w.drew.frozen? ⟨g, 0 + i * 3 + t, none⟩ = false) := fun t ht => by
    rw [s1.out] at ht
    exact ⟨hsp.out _ (by omega), hfr.out _⟩
  obtain ⟨W1, hW1⟩ : ∃ W1, W1 = w.drew.setCells g (0 + i * 3) news := ⟨_, rfl⟩
  have hb1 : W1.heap[g]? = some (.cells (over cur (0 + i * 3) news).toArray 82 (0, 0)) := by
    rw [hW1]; exact setCells_block news _ w.drew cur HG.out (by rw [s1.out, H3.out]; omega)
  have hbl := over_len cur (0 + i * 3) news (by rw [s1.out, H3.out]; omega)
  have hcl : ∀ ty, (Builtin.clear_ #[56] ty #[.slice (some ⟨g, (n - 1) * 3, none⟩) 1 (cap - (n - 1))]).run Try.prog W1 = .ok (.tuple #[]) (W1.setCells g ((n - 1) * 3) [noStr, noStr, noStr]) := fun ty =>
    run_clear3 W1 _ _ ty t56 (fun w => by kernel_rfl) g ((n - 1) * 3) _ (fun j hj => by rw [cell_at hb1]; simp only [List.getElem?_toArray]; rw [List.getElem?_eq_getElem (by rw [hbl, H3.out]; omega)]; rfl) (fun j _ => free_at hb1 _)
  have HB1 := Lib.hid hb1
  have HBL := Lib.hid hbl
  have HW1 := Lib.hid hW1
  have en : i + (n - (i + 1)) = n - 1 := by omega
  have mixed : Try.prog.follows .mixedOrders = true := by kernel_rfl
  have ib : 0 ≤ (i : Int) + 1 ∧ (i : Int) + 1 ≤ (n : Int) := by omega
  have hn1 : ¬ cap = n - 1 := by omega
  have hn2 : n - (n - 1) = 1 := by omega
  have hn3 : n - 1 ≤ n := by omega
  have ic : i ≤ cap := by omega
  have jc : i + 1 ≤ cap := by omega
  clear hnews hb1 hbl hW1
  go_enter Try.func98, Try.ntmps98
  go_wp2_with fail
  go_region_law_o (refine step_append_room rfl (.tmp 22) (.tmp 25) 56 rfl 82 i0 3 t56 hi0 hz1 g 0 i cap (by simp [Act.eval, Act.put]) A (n - (i + 1)) (cap - (i + 1)) news (by simp [Act.eval, Act.put]) s1.out hsrc.out s2.out (by omega) s3.out ?_; rw [← HW1.out])
  go_wp2_with fail
  go_ret
  have hb1 := HB1.out
  have e1 : (L.eraseIdx i).length = n - 1 := by rw [List.length_eraseIdx, if_pos (by rw [← HN.out]; exact hi), HN.out]
  have hb2 := setCells_block [noStr, noStr, noStr] ((n - 1) * 3) W1 _ hb1 (by rw [HBL.out, H3.out]; simp only [List.length_cons, List.length_nil]; omega)
  refine ⟨g, cap, rfl, rfl, ?_, ?_⟩
  · rw [e1]
    refine own_mk (Nat.zero_le _) hb2 (by omega) (by unfold maxLen; omega) (by rw [over_len _ _ _ (by rw [HBL.out, H3.out]; simp only [List.length_cons, List.length_nil]; omega), HBL.out, H3.out]) (by rw [cs_len, e1]) ?_
    have e2 := erase_cs L i (by rw [← HN.out]; exact hi) cur cap H3.out (by rw [← HN.out]; exact h1) H4.out
    rw [← HW.out, e1, ← HN.out] at e2
    rw [Nat.zero_add]
    exact e2
  · have o1 := setCells_out g (0 + i * 3) news w.drew
    rw [← HW1.out] at o1
    exact (Out.drewL o1).trans (setCells_out g _ _ W1) fun k hk => .inl hk
end Go.Proofs.Ytmoaecicibjmnaa
