/- slices.Insert of one file inside a row that has room. -/
import Derived.Test.YtmoaecicibjmnaaFQ
namespace Go.Proofs.Ytmoaecicibjmnaa
open Go.RowKit

theorem ins_cs (L : List PF) (x : PF) (i : Nat) (hi : i < L.length) (cur : List Value) (cap : Nat) (hl : cur.length = cap * 3) (hn : L.length + 1 ≤ cap) (hc : cur.take (L.length * 3) = cs L) :
    (over (over cur ((i + 1) * 3) (cs (L.drop i))) (i * 3) x.cs).take ((L.length + 1) * 3) = cs (L.take i ++ x :: L.drop i) := by
  have e3 : (List.drop (i * 3) (List.take (L.length * 3) cur)).length = (L.length - i) * 3 := by rw [List.length_drop, List.length_take]; omega
  have e4 : (List.take (i * 3) (List.take (L.length * 3) cur)).length = i * 3 := by rw [List.length_take, List.length_take]; omega
  rw [cs_append, cs_cons, cs_take, cs_drop, ← hc]
  have h1 := over_len cur ((i + 1) * 3) (List.drop (i * 3) (List.take (L.length * 3) cur)) (by rw [e3]; omega)
  apply List.ext_getElem?
  intro j
  rw [List.getElem?_take]
  by_cases hj : j < (L.length + 1) * 3
  · rw [if_pos hj, over_get _ _ _ (by rw [h1, pcs_len]; omega)]
    by_cases c1 : j < i * 3
    · rw [if_pos c1, over_get _ _ _ (by rw [e3]; omega), if_pos (by omega), List.getElem?_append_left (by rw [e4]; exact c1), List.getElem?_take, if_pos c1, List.getElem?_take, if_pos (by omega)]
    · rw [if_neg c1, List.getElem?_append_right (by rw [e4]; omega), e4]
      by_cases c2 : j < i * 3 + 3
      · rw [if_pos (by rw [pcs_len]; exact c2), List.getElem?_append_left (by rw [pcs_len]; omega)]
      · rw [if_neg (by rw [pcs_len]; exact c2), List.getElem?_append_right (by rw [pcs_len]; omega), pcs_len, over_get _ _ _ (by rw [e3]; omega), if_neg (by omega), if_pos (by rw [e3]; omega)]
        congr 1; omega
  · rw [if_neg hj, List.getElem?_eq_none]
    simp only [List.length_append, e3, e4, pcs_len]
    omega
set_option maxHeartbeats 4000000 in
set_option maxRecDepth 100000 in
theorem insert_room (w : World) (g cap : Nat) (cur : List Value) (L : List PF) (x : PF) (i vb vc : Nat) (hi : i < L.length) (hroom : L.length + 1 ≤ cap) (h2 : cap ≤ maxLen) (hne : vb ≠ g)
    (hg : w.heap[g]? = some (.cells cur.toArray 82 (0, 0))) (h3 : cur.length = cap * 3) (h4 : cur.take (L.length * 3) = cs L) (hvb : w.heap[vb]? = some (.cells x.cs.toArray 82 (0, 0))) :
    Calls Try.prog 58 #[.slice (some ⟨g, 0, none⟩) L.length cap, .int .i64 (i : Nat), .slice (some ⟨vb, 0, none⟩) 1 vc] w fun e w' => InsPost w (.slice (some ⟨g, 0, none⟩) L.length cap) L i x e w' := by
  have t56 : Try.prog.underlying 56 = some (.slice 82) := by kernel_rfl
  have hs3 : (Try.prog.info? 82).map (·.size) = some 3 := by kernel_rfl
  have mixed : Try.prog.follows .mixedOrders = true := by kernel_rfl
  obtain ⟨n, hn⟩ : ∃ n, n = L.length := ⟨_, rfl⟩
  have HN := Lib.hid hn
  have hdl : (cs (L.drop i)).length = (n - i) * 3 := by rw [cs_len, List.length_drop, hn]
  rw [← hn] at hi hroom
  have H4 := Lib.hid h4
  have H3 := Lib.hid h3
  have HG := Lib.hid hg
  have HV := Lib.hid hvb
  have hov : ∀ lb cb, (callFunc 96 #[.slice (some ⟨vb, 0, none⟩) 1 vc, .slice (some ⟨g, (i + 1) * 3, none⟩) lb cb]).run Try.prog w = .ok (.value (.bool false)) w := fun lb cb => by
    rw [run_callFunc_extern Try.func96 (by kernel_rfl) (by kernel_rfl) (by kernel_rfl) (e := Extern.SlicesOverlaps.overlaps #[56, 56] #[4]) (by kernel_rfl),
      Lib.run_overlaps_apart w 56 4 82 t56 3 (fun w => by kernel_rfl) ⟨vb, 0, none⟩ ⟨g, (i + 1) * 3, none⟩ 1 vc lb cb hne 82 82 3 cur.length (by unfold World.shape?; rw [HV.out]; rfl) (by unfold World.shape?; rw [HG.out]; simp) (by rw [H3.out]; omega) (free_at HV.out 0) (free_at HV.out 3)]
    rfl
  have hcp1 : ∀ ty dc sc, (Builtin.copy_ #[56, 56] ty #[.slice (some ⟨g, (i + 1) * 3, none⟩) (n - i) dc, .slice (some ⟨g, i * 3, none⟩) (n + 1 - i) sc]).run Try.prog w.drew = .ok (goInt (n - i : Nat)) (w.drew.setCells g ((i + 1) * 3) (cs (L.drop i))) := fun ty dc sc =>
    run_copy3 w.drew _ _ ty 82 g ((i + 1) * 3) _ dc ⟨g, i * 3, none⟩ _ sc (n - i) _ t56 hs3 (by simp only [Nat.min_def]; split <;> omega) hdl
      (fun j v hj => by
        have hjl := (List.getElem?_eq_some_iff.1 hj).1
        rw [hdl] at hjl
        rw [add_plain]
        show w.cell? ⟨g, i * 3 + j, none⟩ = some v
        rw [cell_at HG.out, List.getElem?_toArray, ← hj, cs_drop, ← H4.out, List.getElem?_drop, List.getElem?_take, if_pos (by rw [← HN.out]; omega)])
      (fun j hj => by rw [hdl] at hj; show (w.cell? ⟨g, (i + 1) * 3 + j, none⟩).isSome = true; rw [cell_at HG.out, List.getElem?_toArray, List.getElem?_eq_getElem (by rw [H3.out]; omega)]; rfl)
      (fun j _ => free_at (w := w.drew) HG.out _) (cs_one _)
  obtain ⟨W1, hW1⟩ : ∃ W1, W1 = w.drew.setCells g ((i + 1) * 3) (cs (L.drop i)) := ⟨_, rfl⟩
  have hb1 : W1.heap[g]? = some (.cells (over cur ((i + 1) * 3) (cs (L.drop i))).toArray 82 (0, 0)) := by
    rw [hW1]; exact setCells_block _ _ w.drew cur HG.out (by rw [hdl, H3.out]; omega)
  have hbl := over_len cur ((i + 1) * 3) (cs (L.drop i)) (by rw [hdl, H3.out]; omega)
  have hbv : W1.heap[vb]? = some (.cells x.cs.toArray 82 (0, 0)) := by rw [hW1, setCells_other _ _ _ _ _ hne]; exact HV.out
  have hcp2 : ∀ ty dc, (Builtin.copy_ #[56, 56] ty #[.slice (some ⟨g, i * 3, none⟩) (n + 1 - i) dc, .slice (some ⟨vb, 0, none⟩) 1 vc]).run Try.prog W1 = .ok (goInt (1 : Nat)) (W1.setCells g (i * 3) x.cs) := fun ty dc =>
    run_copy3 W1 _ _ ty 82 g (i * 3) _ dc ⟨vb, 0, none⟩ 1 vc 1 _ t56 hs3 (by simp only [Nat.min_def]; split <;> omega) (pcs_len x)
      (fun j v hj => by rw [add_plain, Nat.zero_add, cell_at hbv, List.getElem?_toArray]; exact hj)
      (fun j hj => by rw [pcs_len] at hj; rw [cell_at hb1, List.getElem?_toArray, List.getElem?_eq_getElem (by rw [hbl, H3.out]; omega)]; rfl)
      (fun j _ => free_at hb1 _) (pcs_one x)
  have HB1 := Lib.hid hb1
  have HBL := Lib.hid hbl
  have HW1 := Lib.hid hW1
  have HDL := Lib.hid hdl
  rw [← hW1] at hcp1
  rw [← hn]
  have ib : (0 : Int) ≤ (i : Int) + 1 := by omega
  have ib2 : (i : Int) ≤ (n : Int) := by omega
  have ib3 : (i : Int) ≤ (n : Int) + 1 := by omega
  have hw1 : IntKind.i64.wrap ((i : Int) + 1) = (i : Int) + 1 := by rw [IntKind.wrap_i64]; unfold maxLen at h2; omega
  have htn : ((i : Int) + 1).toNat = i + 1 := by omega
  have hni : ((i : Int) == (n : Int)) = false := by simp; omega
  have hc1 : ¬ cap = i + 1 := by omega
  have hc2 : ¬ cap = i := by omega
  have hc3 : ¬ (cap : Int) < (n : Int) + 1 := by omega
  have hmx : cap ≤ 9223372036854775807 := by unfold maxLen at h2; omega
  obtain ⟨K, hK⟩ : ∃ K : Ending → World → Prop, K = fun e w' => InsPost w (.slice (some ⟨g, 0, none⟩) n cap) L i x e w' := ⟨_, rfl⟩
  have HK : Hid (K (.returned (.slice (some ⟨g, 0, none⟩) (n + 1) cap)) (W1.setCells g (i * 3) x.cs)) := Lib.hid (by
    rw [hK]
    refine ⟨_, rfl, ?_, fun k hk => .inl hk, ?_⟩
    · have e1 : (L.take i ++ x :: L.drop i).length = n + 1 := by rw [List.length_append, List.length_cons, List.length_take, List.length_drop, hn]; omega
      have hb2 := setCells_block x.cs (i * 3) W1 _ hb1 (by rw [HBL.out, H3.out, pcs_len]; omega)
      rw [e1]
      refine own_mk (Nat.zero_le _) hb2 hroom h2 (by rw [over_len _ _ _ (by rw [HBL.out, H3.out, pcs_len]; omega), HBL.out, H3.out]) (by rw [cs_len, e1]) ?_
      have e2 := ins_cs L x i (by rw [← hn]; exact hi) cur cap H3.out (by rw [← hn]; exact hroom) H4.out
      rw [← hn] at e2
      exact e2
    · have o1 := setCells_out g ((i + 1) * 3) (cs (L.drop i)) w.drew
      rw [← hW1] at o1
      exact ((Out.drewL o1).trans (setCells_out g _ _ W1) fun k hk => .inl hk).mono fun k _ hk => by rw [hk]; rfl)
  rw [← hK]
  clear h2 hg h3 h4 hvb hdl hb1 hbl hbv hW1 hK hn hne
  go_enter Try.func58, Try.ntmps58
  go_wp2_with (simp only [hov])
  go_region_law_o (refine step_copy_runI rfl _ _ 56 56 rfl _ _ (by simp [Act.eval, Act.put]) (by simp [Act.eval, Act.put]) (hcp1 _ _ _) ?_)
  go_wp2_with (at_builtin; refine wpList_copy_runI _ rfl _ _ 56 56 rfl _ _ rfl rfl (hcp2 _ _) ?_)
  all_goals exact HK.out
end Go.Proofs.Ytmoaecicibjmnaa
