/- slices.Insert of one file inside a full row. -/
import Derived.Test.YtmoaecicibjmnaaFR
namespace Go.Proofs.Ytmoaecicibjmnaa
open Go.RowKit

theorem ins_cs2 (L : List PF) (x : PF) (i : Nat) (hi : i < L.length) (cur : List Value) (cap : Nat) (hl : cur.length = cap * 3) (hn : L.length + 1 ≤ cap) (hc : cur.take (i * 3) = cs (L.take i)) :
    (over (over cur (i * 3) x.cs) ((i + 1) * 3) (cs (L.drop i))).take ((L.length + 1) * 3) = cs (L.take i ++ x :: L.drop i) := by
  have e3 : (cs (L.drop i)).length = (L.length - i) * 3 := by rw [cs_len, List.length_drop]
  have e4 : (cs (L.take i)).length = i * 3 := by rw [cs_len, List.length_take]; omega
  rw [cs_append, cs_cons]
  have h1 := over_len cur (i * 3) x.cs (by rw [pcs_len]; omega)
  apply List.ext_getElem?
  intro j
  rw [List.getElem?_take]
  by_cases hj : j < (L.length + 1) * 3
  · rw [if_pos hj, over_get _ _ _ (by rw [h1, e3]; omega)]
    by_cases c0 : j < (i + 1) * 3
    · rw [if_pos c0, over_get _ _ _ (by rw [pcs_len]; omega)]
      by_cases c1 : j < i * 3
      · rw [if_pos c1, List.getElem?_append_left (by rw [e4]; exact c1), ← hc, List.getElem?_take, if_pos c1]
      · rw [if_neg c1, if_pos (by rw [pcs_len]; omega), List.getElem?_append_right (by rw [e4]; omega), e4, List.getElem?_append_left (by rw [pcs_len]; omega)]
    · rw [if_neg c0, if_pos (by rw [e3]; omega), List.getElem?_append_right (by rw [e4]; omega), e4, List.getElem?_append_right (by rw [pcs_len]; omega), pcs_len]
      congr 1; omega
  · rw [if_neg hj, List.getElem?_eq_none]
    simp only [List.length_append, e3, e4, pcs_len]
    omega
set_option maxHeartbeats 4000000 in
set_option maxRecDepth 100000 in
theorem insert_grow (w : World) (g cap : Nat) (L : List PF) (x : PF) (i vb vc : Nat) (hL : L.length ≤ 40) (hi : i < L.length) (hfull : cap < L.length + 1) (hle : L.length ≤ cap) (hown : w.ownsRow 0 82 3 (.slice (some ⟨g, 0, none⟩) L.length cap) L.length (cs L))
    (hvb : w.heap[vb]? = some (.cells x.cs.toArray 82 (0, 0))) :
    Calls Try.prog 58 #[.slice (some ⟨g, 0, none⟩) L.length cap, .int .i64 (i : Nat), .slice (some ⟨vb, 0, none⟩) 1 vc] w fun e w' => InsPost w (.slice (some ⟨g, 0, none⟩) L.length cap) L i x e w' := by
  obtain ⟨i0, hi0, hz1, hz2, hz3⟩ := fileInfo
  have t56 : Try.prog.underlying 56 = some (.slice 82) := by kernel_rfl
  have t3 : Try.prog.underlying 3 = some (.int .i64) := by kernel_rfl
  have hs3 : (Try.prog.info? 82).map (·.size) = some 3 := by kernel_rfl
  have mixed : Try.prog.follows .mixedOrders = true := by kernel_rfl
  obtain ⟨n, hn⟩ : ∃ n, n = L.length := ⟨_, rfl⟩
  have HN := Lib.hid hn
  have hdl : (cs (L.drop i)).length = (n - i) * 3 := by rw [cs_len, List.length_drop, hn]
  have htl : (cs (L.take i)).length = i * 3 := by rw [cs_len, List.length_take]; omega
  have hgl : g < w.heap.size := (hown.lt g rfl).2
  have hvl : vb < w.heap.size := (Array.getElem?_eq_some_iff.1 hvb).1
  have hcell : ∀ j, j < n * 3 → w.cell? ⟨g, j, none⟩ = (cs L)[j]? := fun j hj => hown.cellAt j (by rw [← hn]; exact hj)
  rw [← hn] at hi hfull hle hL
  have hold : (Builtin.firstCells i0.size i (.slice (some ⟨g, 0, none⟩) i cap)).run Try.prog w.drew = .ok (cs (L.take i)).toArray w.drew := by
    rw [hz2]
    refine run_firstCells_some w.drew 3 i ⟨g, 0, none⟩ i cap (cs (L.take i)) htl (fun j v hj => ?_)
    have hjl := (List.getElem?_eq_some_iff.1 hj).1
    rw [htl] at hjl
    rw [add_plain, Nat.zero_add]
    show w.cell? ⟨g, j, none⟩ = some v
    rw [hcell j (by omega), ← hj, cs_take, List.getElem?_take, if_pos hjl]
  have hik : i + (n + 1 - i) = n + 1 := by omega
  have hrz : ∀ ty, ∃ W1 G, (Builtin.append_ #[56, 3] ty #[.slice (some ⟨g, 0, none⟩) i cap, .int .i64 ((n : Int) + 1 - (i : Int))]).run Try.prog w = .ok (.slice (some ⟨w.heap.size, 0, none⟩) (n + 1) G) W1 ∧ n + 1 ≤ G ∧ G ≤ maxLen ∧
      ∃ cur : List Value, W1 = w.drew.alloc (.cells cur.toArray 82) ∧ cur.length = G * 3 ∧ cur.take (i * 3) = cs (L.take i) := by
    intro ty
    have h := Lib.run_append_grow_zeros w 56 3 ty 82 i0 _ .i64 .i64 t56 t3 hi0 hz1 (some ⟨g, 0, none⟩) i cap (cs (L.take i)) hold (n + 1 - i) (by omega) (by rw [hz2]; omega) (by omega) (by omega) (by rw [hz3]; omega) (by rw [hz3, hik]; exact growslice_fits (by omega) (by omega))
    rw [hik, show ((n + 1 - i : Nat) : Int) = (n : Int) + 1 - (i : Int) by omega] at h
    have hge := grownCap_ge w (n + 1) cap 82
    refine ⟨_, _, h, hge, grownCap_le_maxLen w (n + 1) cap 82 (by unfold maxLen; omega),
      cs (L.take i) ++ (Builtin.zeroCells (Value.agg #[noStr, noStr, noStr]).cells (n + 1 - i)).toList ++ (Builtin.zeroCells (Value.agg #[noStr, noStr, noStr]).cells (grownCap w (n + 1) cap 82 - (n + 1))).toList, ?_, ?_, ?_⟩
    · congr 2
      simp
    · rw [List.length_append, List.length_append, htl, zeros_len, zeros_len]; omega
    · rw [List.append_assoc, List.take_append_of_le_length (by rw [htl]; exact Nat.le_refl _), List.take_of_length_le (by rw [htl]; exact Nat.le_refl _)]
  obtain ⟨W1, G, hrun, hG1, hG2, cur, hW1, hcl, hct⟩ := hrz 56
  have hb1 : W1.heap[w.heap.size]? = some (.cells cur.toArray 82 (0, 0)) := by rw [hW1, heap_alloc, if_pos (by rfl)]
  have hb1v : W1.heap[vb]? = some (.cells x.cs.toArray 82 (0, 0)) := by rw [hW1, heap_alloc, if_neg (by show vb ≠ w.heap.size; omega)]; exact hvb
  have hb1g : W1.heap[g]? = w.heap[g]? := by rw [hW1, heap_alloc, if_neg (by show g ≠ w.heap.size; omega)]; rfl
  have hcpA : ∀ ty dc, (Builtin.copy_ #[56, 56] ty #[.slice (some ⟨w.heap.size, i * 3, none⟩) (n + 1 - i) dc, .slice (some ⟨vb, 0, none⟩) 1 vc]).run Try.prog W1 = .ok (goInt (1 : Nat)) (W1.setCells w.heap.size (i * 3) x.cs) := fun ty dc =>
    run_copy3 W1 _ _ ty 82 w.heap.size (i * 3) _ dc ⟨vb, 0, none⟩ 1 vc 1 _ t56 hs3 (by simp only [Nat.min_def]; split <;> omega) (pcs_len x)
      (fun j v hj => by rw [add_plain, Nat.zero_add, cell_at hb1v, List.getElem?_toArray]; exact hj)
      (fun j hj => by rw [pcs_len] at hj; rw [cell_at hb1, List.getElem?_toArray, List.getElem?_eq_getElem (by rw [hcl]; omega)]; rfl)
      (fun j _ => free_at hb1 _) (pcs_one x)
  obtain ⟨W2, hW2⟩ : ∃ W2, W2 = W1.setCells w.heap.size (i * 3) x.cs := ⟨_, rfl⟩
  have hb2 := setCells_block x.cs (i * 3) W1 cur hb1 (by rw [hcl, pcs_len]; omega)
  have hbl2 := over_len cur (i * 3) x.cs (by rw [hcl, pcs_len]; omega)
  rw [← hW2] at hb2 hcpA
  have hb2g : W2.heap[g]? = w.heap[g]? := by rw [hW2, setCells_other _ _ _ _ _ (by omega)]; exact hb1g
  have hcpB : ∀ ty dc sc, (Builtin.copy_ #[56, 56] ty #[.slice (some ⟨w.heap.size, (i + 1) * 3, none⟩) (n - i) dc, .slice (some ⟨g, i * 3, none⟩) (n - i) sc]).run Try.prog W2.drew = .ok (goInt (n - i : Nat)) (W2.drew.setCells w.heap.size ((i + 1) * 3) (cs (L.drop i))) := fun ty dc sc =>
    run_copy3 W2.drew _ _ ty 82 w.heap.size ((i + 1) * 3) _ dc ⟨g, i * 3, none⟩ _ sc (n - i) _ t56 hs3 (by simp) hdl
      (fun j v hj => by
        have hjl := (List.getElem?_eq_some_iff.1 hj).1
        rw [hdl] at hjl
        rw [add_plain]
        show W2.cell? ⟨g, i * 3 + j, none⟩ = some v
        rw [World.cell?_of_block (w := w) (a := ⟨g, i * 3 + j, none⟩) hb2g, hcell _ (by omega), ← hj, cs_drop, List.getElem?_drop])
      (fun j hj => by rw [hdl] at hj; rw [cell_at (w := W2.drew) hb2, List.getElem?_toArray, List.getElem?_eq_getElem (by rw [hbl2, hcl]; omega)]; rfl)
      (fun j _ => free_at (w := W2.drew) hb2 _) (cs_one _)
  obtain ⟨W3, hW3⟩ : ∃ W3, W3 = W2.drew.setCells w.heap.size ((i + 1) * 3) (cs (L.drop i)) := ⟨_, rfl⟩
  have hb3 := setCells_block (cs (L.drop i)) ((i + 1) * 3) W2.drew _ hb2 (by rw [hbl2, hcl, hdl]; omega)
  have hbl3 := over_len (over cur (i * 3) x.cs) ((i + 1) * 3) (cs (L.drop i)) (by rw [hbl2, hcl, hdl]; omega)
  rw [← hW3] at hb3 hcpB
  rw [← hn]
  have hw1 : IntKind.i64.wrap ((i : Int) + 1) = (i : Int) + 1 := by rw [IntKind.wrap_i64]; omega
  have htn : ((i : Int) + 1).toNat = i + 1 := by omega
  have ib : (0 : Int) ≤ (i : Int) + 1 := by omega
  have ib2 : (i : Int) ≤ (n : Int) := by omega
  have ib3 : (i : Int) ≤ (n : Int) + 1 := by omega
  have hni : ((i : Int) == (n : Int)) = false := by simp; omega
  have hc2 : ¬ cap = i := by omega
  have hc3 : (cap : Int) < (n : Int) + 1 := by omega
  have hGi : ¬ G = i := by omega
  have hGi1 : ¬ G = i + 1 := by omega
  have hmx : G ≤ 9223372036854775807 := by unfold maxLen at hG2; omega
  obtain ⟨K, hK⟩ : ∃ K : Ending → World → Prop, K = fun e w' => InsPost w (.slice (some ⟨g, 0, none⟩) n cap) L i x e w' := ⟨_, rfl⟩
  have HK : Hid (K (.returned (.slice (some ⟨w.heap.size, 0, none⟩) (n + 1) G)) W3) := Lib.hid (by
    rw [hK]
    refine ⟨_, rfl, ?_, fun k hk => by injection hk with hk; exact .inr (Nat.le_of_eq hk), ?_⟩
    · have e1 : (L.take i ++ x :: L.drop i).length = n + 1 := by rw [List.length_append, List.length_cons, List.length_take, List.length_drop, hn]; omega
      rw [e1]
      refine own_mk (Nat.zero_le _) hb3 hG1 hG2 (by rw [hbl3, hbl2, hcl]) (by rw [cs_len, e1]) ?_
      have e2 := ins_cs2 L x i (by rw [← hn]; exact hi) cur G hcl (by rw [← hn]; exact hG1) hct
      rw [← hn] at e2
      exact e2
    · have o1 : Out (fun k => (Value.slice (some ⟨g, 0, none⟩) n cap).ownBlock = some k) w W1 := by rw [hW1]; exact ((Out.refl _ _).drew).alloc _
      have o2 := setCells_out w.heap.size (i * 3) x.cs W1
      have o3 := setCells_out w.heap.size ((i + 1) * 3) (cs (L.drop i)) W2.drew
      rw [← hW2] at o2
      rw [← hW3] at o3
      exact (o1.trans o2 fun k hk => .inr (Nat.le_of_eq hk.symm)).trans (Out.drewL o3) fun k hk => .inr (Nat.le_of_eq hk.symm))
  rw [← hK]
  clear hown hvb hn hdl htl hcell hold hik hrz hW1 hb1 hb1v hb1g hW2 hb2 hbl2 hb2g hW3 hb3 hbl3 hK hcl hct hG2 hz1 hz2 hz3 hi0
  go_enter Try.func58, Try.ntmps58
  go_wp2_with (first
    | (at_builtin; refine Lib.wpList_append_run _ rfl _ _ _ _ rfl _ _ rfl rfl _ _ hrun ?_)
    | (at_builtin; refine wpList_copy_runI _ rfl _ _ 56 56 rfl _ _ rfl rfl (hcpA _ _) ?_))
  go_region_law_o (refine step_copy_runI rfl _ _ 56 56 rfl _ _ (by simp [Act.eval, Act.put]) (by simp [Act.eval, Act.put]) (hcpB _ _ _) ?_)
  go_wp2
  all_goals exact HK.out
theorem insert_any (w : World) (v : Value) (L : List PF) (x : PF) (i vb vc : Nat) (hL : L.length ≤ 40) (hi : i ≤ L.length) (hown : w.ownsRow 0 82 3 v L.length (cs L)) (hvb : w.heap[vb]? = some (.cells x.cs.toArray 82 (0, 0))) (hne : v.ownBlock ≠ some vb) :
    Calls Try.prog 58 #[v, .int .i64 (i : Nat), .slice (some ⟨vb, 0, none⟩) 1 vc] w fun e w' => InsPost w v L i x e w' := by
  by_cases he : i = L.length
  · subst he
    exact insert_end w v L x vb vc hL hown hvb
  · rcases hown.2 with ⟨_, h0⟩ | ⟨g, cap, cur, rfl, _, hg, h1, h2, h3, h4⟩
    · omega
    · by_cases hr : L.length + 1 ≤ cap
      · obtain ⟨cur, rfl⟩ : ∃ cl : List Value, cur = cl.toArray := ⟨cur.toList, by simp⟩
        simp only [List.size_toArray] at h3 h4
        exact insert_room w g cap cur L x i vb vc (by omega) hr h2 (fun e => hne (by rw [e]; rfl)) hg h3 h4 hvb
      · exact insert_grow w g cap L x i vb vc hL (by omega) (by omega) h1 hown hvb
end Go.Proofs.Ytmoaecicibjmnaa
