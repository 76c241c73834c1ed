/- slices.Insert of one file: at the end; inside, where there is room. -/
import Derived.Test.YtmoaecicibjmnaaFP
import Derived.Shelf.Spec.SlicesInsertGrow
namespace Go.Proofs.Ytmoaecicibjmnaa
open Go.RowKit

theorem run_copy3 {P : Program} (w : World) (dT sT ty elem : TypeId) (b o dLen dCap : Nat) (a : Addr) (sLen sCap k : Nat) (vs : List Value)
    (hu : P.underlying dT = some (.slice elem)) (hs : (P.info? elem).map (·.size) = some 3) (hk : Nat.min sLen dLen = k) (hn : vs.length = k * 3)
    (hsrc : ∀ j v, vs[j]? = some v → w.cell? (a.add j) = some v) (hc : ∀ j, j < vs.length → (w.cell? ⟨b, o + j, none⟩).isSome = true) (hf : ∀ j, j < vs.length → w.frozen? ⟨b, o + j, none⟩ = false) (h1 : ∀ v ∈ vs, v.oneCell' = true) :
    (Builtin.copy_ #[dT, sT] ty #[.slice (some ⟨b, o, none⟩) dLen dCap, .slice (some a) sLen sCap]).run P w = .ok (goInt k) (w.setCells b o vs) := by
  have hl := run_loadCells_list (P := P) w a vs hsrc
  have hst := run_storeCells_cells (P := P) b o vs 0 w (by simpa using hc) (by simpa using hf) h1
  cases hq : P.info? elem with
  | none => simp [hq] at hs
  | some i =>
    have hi : i.size = 3 := by simpa [hq] using hs
    rw [hn] at hl
    simp [Builtin.copy_, run_underlying hu, Builtin.lenOf, Builtin.firstCells, sizeOf, typeInfo, hq, hi, hk, hl, hst]
/-- What an insert leaves of a row. -/
def InsPost (w : World) (v : Value) (L : List PF) (i : Nat) (x : PF) (e : Ending) (w' : World) : Prop :=
  ∃ fv', e = .returned fv' ∧ w'.ownsRow 0 82 3 fv' (L.take i ++ x :: L.drop i).length (cs (L.take i ++ x :: L.drop i)) ∧ (∀ k, fv'.ownBlock = some k → v.ownBlock = some k ∨ w.heap.size ≤ k) ∧ Out (fun k => v.ownBlock = some k) w w'
theorem grown_out {w w' : World} {row : Option Nat} (h : w.grownBy w' row) : Out (fun k => row = some k) w w' :=
  ⟨h.os, h.tape, h.output, h.size, fun k hk hn => h.block k hk (fun e => hn e.symm)⟩
theorem fileInfo : ∃ i0, Try.prog.info? 82 = some i0 ∧ i0.zero = some (.agg #[noStr, noStr, noStr]) ∧ i0.size = 3 ∧ i0.bytes = 48 := by
  obtain ⟨i0, hi0, hz⟩ := Option.map_eq_some_iff.1 (show (Try.prog.info? 82).map (fun i => (i.zero, i.size, i.bytes)) = some (some (.agg #[noStr, noStr, noStr]), 3, 48) by kernel_rfl)
  simp only [Prod.mk.injEq] at hz
  exact ⟨i0, hi0, hz⟩
theorem zeros_len (n : Nat) : (Builtin.zeroCells (Value.agg #[noStr, noStr, noStr]).cells n).toList.length = n * 3 := by
  rw [Array.length_toList]
  show (Builtin.zeroCells (Value.agg #[noStr, noStr, noStr]).cells n).size = n * 3
  rw [size_zeroCells]; rfl
/-- A new row that holds files. -/
theorem own_new (w : World) (L : List PF) (cur : Array Value) (cap : Nat) (h1 : L.length ≤ cap) (h2 : cap ≤ maxLen) (h3 : cur.size = cap * 3) (h4 : cur.toList.take (L.length * 3) = cs L) :
    (w.alloc (.cells cur 82)).ownsRow 0 82 3 (.slice (some ⟨w.heap.size, 0, none⟩) L.length cap) L.length (cs L) :=
  ⟨cs_len L, .inr ⟨w.heap.size, cap, cur, rfl, Nat.zero_le _, by rw [heap_alloc, if_pos rfl], h1, h2, h3, h4⟩⟩
/-- One file more at the end. -/
theorem append_file (w : World) (v : Value) (L : List PF) (x : PF) (vb vc : Nat) (hL : L.length ≤ 40) (hown : w.ownsRow 0 82 3 v L.length (cs L)) (hvb : w.heap[vb]? = some (.cells x.cs.toArray 82 (0, 0))) (ty : TypeId) :
    ∃ v' w', (Builtin.append_ #[56, 56] ty #[v, .slice (some ⟨vb, 0, none⟩) 1 vc]).run Try.prog w = .ok v' w' ∧ InsPost w v L L.length x (.returned v') w' := by
  obtain ⟨i0, hi0, hz1, hz2, hz3⟩ := fileInfo
  have t56 : Try.prog.underlying 56 = some (.slice 82) := by kernel_rfl
  have hnews : ∀ j u, x.cs[j]? = some u → w.cell? ((⟨vb, 0, none⟩ : Addr).add j) = some u := fun j u hj => by rw [add_plain, Nat.zero_add, cell_at hvb, List.getElem?_toArray]; exact hj
  have hl : x.cs.length = 1 * i0.size := by rw [hz2]; rfl
  have e1 : L.take L.length ++ x :: L.drop L.length = L ++ [x] := by rw [List.take_of_length_le (Nat.le_refl _), List.drop_of_length_le (Nat.le_refl _)]
  have e2 : cs (L ++ [x]) = cs L ++ x.cs := by rw [cs_append, cs_cons, cs_nil, List.append_nil]
  have e3 : (L ++ [x]).length = L.length + 1 := by simp
  unfold InsPost
  rw [e1]
  have hnew : ∀ old, old < L.length + 1 → (w.drew.alloc (.cells ((cs L).toArray ++ x.cs.toArray ++ Builtin.zeroCells (Value.agg #[noStr, noStr, noStr]).cells (grownCap w (L.length + 1) old 82 - (L.length + 1))) 82)).ownsRow 0 82 3 (.slice (some ⟨w.heap.size, 0, none⟩) (L.length + 1) (grownCap w (L.length + 1) old 82)) (L ++ [x]).length (cs (L ++ [x])) := by
    intro old _
    have hge := grownCap_ge w (L.length + 1) old 82
    have hcm := grownCap_le_maxLen w (L.length + 1) old 82 (by unfold maxLen; omega)
    have := own_new w.drew (L ++ [x]) ((cs L).toArray ++ x.cs.toArray ++ Builtin.zeroCells (Value.agg #[noStr, noStr, noStr]).cells (grownCap w (L.length + 1) old 82 - (L.length + 1))) (grownCap w (L.length + 1) old 82) (by rw [e3]; exact hge) hcm
      (by rw [← Array.length_toList]; simp only [Array.toList_append, List.length_append, cs_len, zeros_len, pcs_len]; omega)
      (by simp only [Array.toList_append]; rw [← e2, List.take_append_of_le_length (by rw [cs_len]; exact Nat.le_refl _), List.take_of_length_le (by rw [cs_len]; exact Nat.le_refl _)])
    rw [e3] at this ⊢
    exact this
  have hout : ∀ o, Out (fun k => v.ownBlock = some k) w (w.drew.alloc o) := fun o => ((Out.refl _ _).drew).alloc o
  rcases hown.2 with ⟨rfl, h0⟩ | ⟨g, cap, cur, rfl, _, hg, h1, h2, h3, h4⟩
  · have hnil : L = [] := List.eq_nil_of_length_eq_zero h0
    subst hnil
    have hr := run_append_nil (P := Try.prog) w 56 ty 82 i0 _ t56 hi0 hz1 ⟨vb, 0, none⟩ 1 vc x.cs hl hnews (by omega) (by omega) (by rw [hz3]; omega)
    have hn := hnew 0 (by omega)
    simp only [cs_nil, List.nil_append, List.length_nil, Nat.zero_add] at hn
    refine ⟨_, _, hr, _, rfl, ?_, fun k hk => ?_, hout _⟩
    · simpa using hn
    · injection hk with hk; exact .inr (Nat.le_of_eq hk)
  · obtain ⟨cur, rfl⟩ : ∃ cl : List Value, cur = cl.toArray := ⟨cur.toList, by simp⟩
    simp only [List.size_toArray] at h3 h4
    by_cases hroom : L.length + 1 ≤ cap
    · have hsz : ∀ j, j < x.cs.length → 0 + L.length * i0.size + j < cur.length := fun j hj => by rw [hz2, h3]; rw [pcs_len] at hj; omega
      have hr := run_append_room_cells (P := Try.prog) w 56 ty 82 i0 t56 hi0 g 0 L.length cap ⟨vb, 0, none⟩ 1 vc x.cs hl hnews (pcs_one x) hroom
        (fun j hj => by rw [cell_at hg, List.getElem?_toArray, List.getElem?_eq_getElem (hsz j hj)]; rfl) (fun j _ => free_at hg _)
      refine ⟨_, _, hr, _, rfl, ?_, fun k hk => .inl hk, (setCells_out g _ _ w).mono fun k _ hk => by rw [hk]; rfl⟩
      have hb := setCells_block x.cs (0 + L.length * i0.size) w cur hg (by rw [pcs_len, hz2, h3]; omega)
      rw [e3]
      refine own_mk (Nat.zero_le _) hb hroom h2 (by rw [over_len _ _ _ (by rw [pcs_len, hz2, h3]; omega), h3]) (by rw [cs_len, e3]) ?_
      rw [e2, hz2, Nat.zero_add, over, h4, ← List.append_assoc, List.take_append_of_le_length (by rw [List.length_append, cs_len, pcs_len]; omega), List.take_of_length_le (by rw [List.length_append, cs_len, pcs_len]; omega)]
    · have hr := run_append_grow (P := Try.prog) w 56 ty 82 i0 _ t56 hi0 hz1 ⟨g, 0, none⟩ L.length cap (cs L) (by rw [hz2]; exact cs_len L) (hown.cells (g := g) rfl) ⟨vb, 0, none⟩ 1 vc x.cs hl hnews (by omega) (by omega) (by rw [hz3]; exact growslice_fits (by omega) (by omega))
      refine ⟨_, _, hr, _, rfl, hnew cap (by omega), fun k hk => ?_, hout _⟩
      injection hk with hk; exact .inr (Nat.le_of_eq hk)
set_option maxHeartbeats 4000000 in
set_option maxRecDepth 100000 in
theorem insert_end (w : World) (v : Value) (L : List PF) (x : PF) (vb vc : Nat) (hL : L.length ≤ 40) (hown : w.ownsRow 0 82 3 v L.length (cs L)) (hvb : w.heap[vb]? = some (.cells x.cs.toArray 82 (0, 0))) :
    Calls Try.prog 58 #[v, .int .i64 (L.length : Nat), .slice (some ⟨vb, 0, none⟩) 1 vc] w fun e w' => InsPost w v L L.length x e w' := by
  obtain ⟨v', w', hrun, hpost⟩ := append_file w v L x vb vc hL hown hvb 56
  have HP := Lib.hid hpost
  obtain ⟨n, hn⟩ : ∃ n, n = L.length := ⟨_, rfl⟩
  obtain ⟨fa, fc, rfl⟩ : ∃ fa fc, v = .slice fa n fc := by
    rcases hown.2 with ⟨rfl, h0⟩ | ⟨g, cap, cur, rfl, _⟩
    · exact ⟨none, 0, by rw [hn, h0]⟩
    · exact ⟨_, _, by rw [hn]⟩
  have hfc : n ≤ fc ∧ fc ≤ maxLen := by
    rcases hown.2 with ⟨h, h0⟩ | ⟨g, cap, cur, h, _, _, h1, h2, _⟩
    · injection h with _ e1 e2
      rw [e1, e2]; exact ⟨Nat.le_refl _, Nat.zero_le _⟩
    · injection h with _ e1 e2
      rw [hn, e2]; exact ⟨h1, h2⟩
  obtain ⟨hf1, hf2⟩ := hfc
  unfold maxLen at hf2
  obtain ⟨K, hK⟩ : ∃ K : Ending → World → Prop, K = fun e w' => InsPost w (.slice fa n fc) L L.length x e w' := ⟨_, rfl⟩
  have HK : Hid (K (.returned v') w') := Lib.hid (by rw [hK]; exact HP.out)
  show Calls _ _ _ _ fun e w' => InsPost w (.slice fa n fc) L L.length x e w'
  rw [← hK, ← hn]
  clear hpost HP hK hown hvb hn
  go_enter Try.func58, Try.ntmps58
  go_wp2_with (at_builtin; refine Lib.wpList_append_run _ rfl _ _ _ _ rfl _ _ rfl rfl _ _ hrun ?_)
  all_goals exact HK.out
end Go.Proofs.Ytmoaecicibjmnaa
