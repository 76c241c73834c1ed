/- grids.New: its memory, and what it says; condition: none. -/
import Derived.Test.YtnpdpfkoghhioaaDoorGD
namespace Go.Proofs.YtnpdpfkoghhioaaDoor
open Go.RowKit

set_option maxRecDepth 100000 in
set_option maxHeartbeats 2000000 in
theorem new_any (r c : Int) (w : World) : Calls Tryd.prog 38 #[.int .i64 r, .int .i64 c] w fun e w' => (∃ gv, e = .returned (.tuple #[gv, .int .i64 (if sizedB r c = true then 0 else 2)]) ∧
      OwnGrid w.heap.size w' gv (if sizedB r c = true then newG r c else zeroG)) ∧ Below w.heap.size w w' := by
  have C1 : ∀ w, Hid (Calls Tryd.prog 48 #[.int .i64 r, .int .i64 c] w fun e w' => e = .returned (.bool (sizedB r c)) ∧ w = w') := fun w => Lib.hid (sized_any r c w)
  go_enter Tryd.func38, Tryd.ntmps38
  go_wp2_with fail
  (with_reducible refine (C1 _).out.mono ?_); rintro e w' ⟨rfl, rfl⟩
  by_cases hs : sizedB r c = true
  · have hs2 : 2 ≤ r ∧ r ≤ 60 ∧ 8 ≤ c ∧ c ≤ 132 := by simpa [sizedB, and_assoc] using hs
    obtain ⟨r1, r2, c1, c2⟩ := hs2
    obtain ⟨n, rfl⟩ := Int.eq_ofNat_of_zero_le (show 0 ≤ r by omega)
    obtain ⟨m, rfl⟩ := Int.eq_ofNat_of_zero_le (show 0 ≤ c by omega)
    have hs' := Lib.hid hs
    have en : n ≤ 60 := by omega
    have em : m ≤ 132 := by omega
    have e1 : n * m ≤ 60 * 132 := Nat.mul_le_mul en em
    have e2 : 2 * 8 ≤ n * m := Nat.mul_le_mul (by omega) (by omega)
    have e3 : IntKind.i64.wrap ((n : Int) * (m : Int)) = ((n * m : Nat) : Int) := by rw [IntKind.wrap_i64, ← Int.natCast_mul]; omega
    have C2 : ∀ w sb, w.cell? ⟨sb, 0, none⟩ = some (.int .u8 32) → Hid (Calls Tryd.prog 55 #[.slice (some ⟨sb, 0, none⟩) 1 1, .int .i64 ((n : Int) * (m : Int))] w fun e w' => ∃ cur : List Value, e = .returned (.slice (some ⟨w.heap.size, 0, none⟩) (n * m) (n * m)) ∧
        w'.heap[w.heap.size]? = some (.cells cur.toArray 5 (0, 0)) ∧ (∀ k, k < n * m → cur[k]? = some (.int .u8 32)) ∧ Below w.heap.size w w') := by
      intro w sb h
      have := repeat_any sb 0 32 (n * m) w h (by omega) (by omega)
      rw [Int.natCast_mul] at this
      exact this
    go_wp2_with fail
    generalize hW0 : World.alloc (World.alloc (World.alloc _ _) _) _ = W0
    obtain ⟨hsz, hb4, hb6, hc⟩ : W0.heap.size = w.heap.size + 3 ∧ Box5 W0 w.heap.size 37 (.int .i64 0) (.int .i64 0) (.slice none 0 0) (.int .i64 0) (.int .i64 0) ∧
        Box5 W0 (w.heap.size + 1) 37 (.int .i64 n) (.int .i64 m) (.slice none 0 0) (.int .i64 0) (.int .i64 0) ∧ W0.heap[w.heap.size + 1 + 1]? = some (.cells #[.int .u8 32] 5 (0, 0)) := by
      rw [← hW0]; exact heap3 _ _ _ _
    replace hc : W0.cell? ⟨w.heap.size + 1 + 1, 0, none⟩ = some (.int .u8 32) := by unfold World.cell?; rw [hc]; rfl
    have hB0 : Below w.heap.size w W0 := by subst hW0; go_grown
    have H4 := Lib.hid hb4
    have H6 := Lib.hid hb6
    clear hb4 hb6 hW0
    (with_reducible refine (C2 _ _ hc).out.mono ?_); rintro e W1 ⟨cur, rfl, hg, hk, hbW⟩
    rw [hsz] at hg ⊢
    obtain ⟨N, hN⟩ : ∃ N, N = n * m := ⟨_, rfl⟩
    rw [← hN] at e1 e2 e3 hk ⊢
    have hba : w.heap.size + 3 < W1.heap.size := (Array.getElem?_eq_some_iff.1 hg).1
    have h4 := Lib.hid (H4.out.below hbW (by omega))
    have h6 := Lib.hid (H6.out.below hbW (by omega))
    have Hg := Lib.hid hg
    have Hk := Lib.hid hk
    have hNm := Lib.hid hN
    have hB1 : Below w.heap.size w W1 := hB0.trans (hbW.mono (by omega))
    clear hg hk C2 hc hbW H4 H6 hN hs C1
    go_wp2_with fail
    go_loopw [8] (fun f wr => ∃ i q : Nat, ∃ ha hc, i ≤ n ∧ f = .int .i64 q ∧ Hid (q = i * m) ∧ Hid (Box5 wr w.heap.size 37 (.int .i64 0) (.int .i64 0) (.slice none 0 0) (.int .i64 0) (.int .i64 0)) ∧
        Hid (Box5 wr (w.heap.size + 1) 37 (.int .i64 n) (.int .i64 m) (.slice ha i hc) (.int .i64 0) (.int .i64 0)) ∧ Hid (wr.heap[w.heap.size + 3]? = some (.cells cur.toArray 5 (0, 0))) ∧
        Hid (wr.ownsRow W1.heap.size 44 1 (.slice ha i hc) i ((List.range i).map fun j => .slice (some ⟨w.heap.size + 3, j * m, none⟩) m m)) ∧ Below w.heap.size w wr ∧ W1.heap.size ≤ wr.heap.size) (fun f _ => N - (intOf f).toNat)
    case atStart => exact ⟨0, 0, none, 0, by omega, rfl, Lib.hid (by omega), h4, h6, Hg, Lib.hid (World.ownsRow_nil _ _ _ _), hB1, Nat.le_refl _⟩
    case round =>
      obtain ⟨i, q, ha, hc, hin, rfl, hq, hb4, hb6, hg, hown, hbel, hsize⟩ := hrel
      by_cases h : i < n
      · have hqm : q + m ≤ N := by
          have h1 := hq.out
          have h2 := hNm.out
          have h3 : (i + 1) * m ≤ n * m := Nat.mul_le_mul_right m (by omega)
          rw [Nat.add_mul, Nat.one_mul] at h3
          omega
        have hqN : q < N := by omega
        have ew : IntKind.i64.wrap ((q : Int) + (m : Int)) = ((q + m : Nat) : Int) := by rw [IntKind.wrap_i64]; omega
        have hc2 := hb6.out.c2
        have f2 := hb6.out.free 2
        have t1 : ((q : Int) + (m : Int)).toNat = q + m := by omega
        have t2 : max ((q : Int) + (m : Int)) 0 = ((q + m : Nat) : Int) := by omega
        have t3 : (0 : Int) ≤ (q : Int) + (m : Int) := by omega
        have t4 : (q : Int) + (m : Int) ≤ (N : Int) := by omega
        have t5 : m ≠ 0 := by omega
        have hc3 : (wr.alloc (.cells #[.slice (some ⟨w.heap.size + 3, q, none⟩) m m] 44)).cell? ⟨w.heap.size + 1, 2, none⟩ = some (.slice ha i hc) := (hb6.out.alloc _).c2
        have hlt6 : w.heap.size + 1 < W1.heap.size := by omega
        have hnew : (wr.drew.alloc (.cells #[.slice (some ⟨w.heap.size + 3, q, none⟩) m m] 44)).cell? ⟨wr.heap.size, 0, none⟩ = some (.slice (some ⟨w.heap.size + 3, q, none⟩) m m) := new_cell wr _ _
        have hBs : W1.heap.size ≤ (wr.drew.alloc (.cells #[.slice (some ⟨w.heap.size + 3, q, none⟩) m m] 44)).heap.size := by rw [size_alloc]; exact Nat.le_succ_of_le hsize
        go_wp2_with fail
        go_region_law (refine step_append_one rfl (.tmp 30) (.tmp 40) 35 rfl 44 (.slice none 0 0) 24 (by kernel_rfl) (by kernel_rfl) rfl W1.heap.size (.slice ha i hc) i ((List.range i).map fun j => .slice (some ⟨w.heap.size + 3, j * m, none⟩) m m) (by simp [Act.eval]) (ownsRow_alloc hown.out _) wr.heap.size 1 (by simp [Act.eval]) (.slice (some ⟨w.heap.size + 3, q, none⟩) m m) hnew rfl (by omega) (by decide) hBs ?_; intro g c w4 hown4 hbel4; have k6 := Lib.hid (Box5.below (hb6.out.alloc _) hbel4 hlt6); have k2 := Box5.c2 k6.out; have kf := Box5.free k6.out 2)
        all_goals
          go_wp2_with fail
          go_roundw
          case rel =>
            refine ⟨i + 1, q + m, some ⟨g, 0, none⟩, c, by omega, by rw [← Int.natCast_add], Lib.hid (by rw [hq.out, Nat.add_mul, Nat.one_mul]), Lib.hid (Box5.other (Box5.below (hb4.out.alloc _) hbel4 (by omega)) _ _ _ (by omega)), Lib.hid (k6.out.set2 _), Lib.hid ?_, Lib.hid ?_, ?_, ?_⟩
            · rw [setCell_heap_other _ _ _ _ _ (by omega), hbel4.block _ (by omega)]; exact alloc_other hg.out
            · have hx := ownsRow_setCell hown4.out (w.heap.size + 1) 2 (.slice (some ⟨g, 0, none⟩) (i + 1) c) hlt6
              rw [hq.out] at hx
              rw [List.range_succ, List.map_append]
              exact hx
            · exact Below_setCell ((hbel.drew.alloc (by have := hbel.size; exact this) _).trans (hbel4.mono (by omega))) _ _ _ (by omega)
            · have h2 : (w4.setCell ⟨w.heap.size + 1, 2, none⟩ (.slice (some ⟨g, 0, none⟩) (i + 1) c)).heap.size = w4.heap.size := by simp [World.setCell]
              exact Nat.le_trans (Nat.le_trans hBs hbel4.size) (Nat.le_of_eq h2.symm)
          case measure => simp only [intOf]; omega
      · obtain rfl : i = n := by omega
        have hqN : q = N := by rw [hq.out, hNm.out]
        have a0 := hb6.out.c0
        have a1 := hb6.out.c1
        have a2 := hb6.out.c2
        have a3 := hb6.out.c3
        have a4 := hb6.out.c4
        have f0 := hb4.out.free 0
        have f1 := hb4.out.free 1
        have f2 := hb4.out.free 2
        have f3 := hb4.out.free 3
        have f4 := hb4.out.free 4
        have b0 := hb4.out.c0
        have b1 := hb4.out.c1
        have b2 := hb4.out.c2
        have b3 := hb4.out.c3
        have b4 := hb4.out.c4
        go_wp2_with fail
        generalize hW' : World.setCell (World.setCell (World.setCell (World.setCell (World.setCell _ _ _) _ _) _ _) _ _) _ _ = W'
        have hbox : Box5 W' w.heap.size 37 (.int .i64 i) (.int .i64 m) (.slice ha i hc) (.int .i64 0) (.int .i64 0) := by rw [← hW']; exact hb4.out.sets _ _ _ _ _
        have hoth : ∀ c, c ≠ w.heap.size → W'.heap[c]? = wr.heap[c]? := fun c hc => by rw [← hW']; exact sets_other _ _ _ _ _ _ _ _ hc
        have hbelW : Below w.heap.size w W' := by rw [← hW']; exact Below_sets hbel _ (Nat.le_refl _) _ _ _ _ _
        clear hW' f0 f1 f2 f3 f4 b0 b1 b2 b3 b4 a0 a1 a2 a3 a4
        have a0 := hbox.c0
        have a1 := hbox.c1
        have a2 := hbox.c2
        have a3 := hbox.c3
        have a4 := hbox.c4
        have Hoth := Lib.hid hoth
        clear hoth
        (try simp only [Exit.inBlock, Exit.then])
        refine bodyPost_ret (by simp [results, Tryd.results38, go_sem, a0, a1, a2, a3, a4]; try rfl) rfl ?_
        refine ⟨⟨_, rfl, ?_⟩, hbelW⟩
        have hw : W'.heap[w.heap.size + 3]? = some (.cells cur.toArray 5 (0, 0)) := by rw [Hoth.out _ (by omega)]; exact hg.out
        obtain ⟨g, rfl, ho⟩ := own_fill W' w.heap.size W1.heap.size (w.heap.size + 3) i m 5 44 ha hc cur (by omega) (ownsRow_other hown.out _ Hoth.out (by omega)) hw (by rw [← hNm.out]; exact Hk.out) (by omega) (by omega)
        exact ⟨some ⟨g, 0, none⟩, hc, by simp [newG], fun _ => ⟨g, _, _, _, rfl, ho⟩⟩
  · go_wp2_with fail
    go_returns
    refine ⟨⟨_, rfl, own_zero _ _⟩, by go_grown⟩
end Go.Proofs.YtnpdpfkoghhioaaDoor
