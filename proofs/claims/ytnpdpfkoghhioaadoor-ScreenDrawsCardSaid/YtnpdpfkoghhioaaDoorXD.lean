/- The chapter's New. -/
import Derived.Test.YtnpdpfkoghhioaaDoorXC
namespace Go.Proofs.YtnpdpfkoghhioaaDoor
open Go.RowKit

theorem OwnRows.frame {B : Nat} {w w' : World} {hb : Nat} {rb ro rc : Nat → Nat} {L : List (List UInt8)} (h : OwnRows B w hb rb ro rc L) (ho : ∀ c, B ≤ c → c < w.heap.size → w'.heap[c]? = w.heap[c]?) (hs : w.heap.size ≤ w'.heap.size) : OwnRows B w' hb rb ro rc L where
  head j hj := by
    have h1 := h.head j hj
    exact (World.cell?_of_block (ho hb h.base (lt_of_cell h1))).trans h1
  base := h.base
  low := h.low
  lt j hj := Nat.lt_of_lt_of_le (h.lt j hj) hs
  off := h.off
  cell j hj k hk := (World.cell?_of_block (ho (rb j) (h.low j hj) (h.lt j hj))).trans (h.cell j hj k hk)
  free j hj k hk := (World.frozen?_of_block (ho (rb j) (h.low j hj) (h.lt j hj))).trans (h.free j hj k hk)
  apart := h.apart
theorem OwnRows.mono {B B' : Nat} {w : World} {hb : Nat} {rb ro rc : Nat → Nat} {L : List (List UInt8)} (h : OwnRows B w hb rb ro rc L) (hB : B' ≤ B) : OwnRows B' w hb rb ro rc L :=
  { h with base := Nat.le_trans hB h.base, low := fun j hj => Nat.le_trans hB (h.low j hj) }

theorem put_of {g : G} {i k : Int} {ch : UInt8} (h : putB g i k ch = false) : putG g i k ch = g := by unfold putG; rw [h]; rfl
theorem Box5.alloc' {w : World} {b : Nat} {t : TypeId} {v0 v1 v2 v3 v4 : Value} (h : Box5 w b t v0 v1 v2 v3 v4) (o : Obj) : Box5 (w.alloc o) b t v0 v1 v2 v3 v4 := h.alloc o


theorem new_one (w : World) (v : Value) (t : TypeId) : (w.alloc (.cells #[v] t (0, 0))).cell? ⟨w.heap.size, 0, none⟩ = some v := new_box w #[v] t 0
theorem own_fact {w : World} {B : Nat} {e : TypeId} {g n c : Nat} {xs : List Value} (h : w.ownsRow B e 1 (.slice (some ⟨g, 0, none⟩) n c) n xs) : ∃ cur : List Value, w.heap[g]? = some (.cells cur.toArray e (0, 0)) ∧ cur.take n = xs ∧ B ≤ g := by
  rcases h.2 with ⟨h0, _⟩ | ⟨g', cap, cu, hv, hB, hg, _, _, _, ht⟩
  · cases h0
  · injection hv with e1 _ _
    injection e1 with e1
    injection e1 with e1 _ _
    subst e1
    exact ⟨cu.toList, by rw [Array.toArray_toList]; exact hg, by rw [← ht, Nat.mul_one], hB⟩

theorem Built.setLow {B : Nat} {w : World} {v : Value} {L : List (List UInt8)} {rb rc : Nat → Nat} (h : Built B w v L rb rc) (b k : Nat) (u : Value) (hb : b < B) : Built B (w.setCell ⟨b, k, none⟩ u) v L rb rc where
  head := ownsRow_setCell h.head b k u hb
  row j hj := by
    obtain ⟨cur, h1, h2⟩ := h.row j hj
    have := h.low j hj
    exact ⟨cur, by rw [setCell_heap_other _ _ _ _ _ (by omega)]; exact h1, h2⟩
  low := h.low
  inj := h.inj
theorem ownsRow_len {w : World} {B : Nat} {e : TypeId} {v : Value} {n m : Nat} {xs : List Value} (h : w.ownsRow B e 1 v n xs) (hn : n = m) (o : Obj) : (w.alloc o).ownsRow B e 1 v m xs := by subst hn; exact h.alloc o

set_option maxRecDepth 100000 in
set_option maxHeartbeats 4000000 in
theorem rnew_any (r c : Int) (w : World) : Calls Tryd.prog 41 #[.int .i64 r, .int .i64 c] w fun e w' => (∃ gv, e = .returned (.tuple #[gv, .int .i64 (if sizedB r c = true then 0 else 2)]) ∧
      OwnGrid w.heap.size w' gv (if sizedB r c = true then newG r c else zeroG)) ∧ Below w.heap.size w w' := by
  have C1 : ∀ w, Hid (Calls Tryd.prog 56 #[.int .i64 r, .int .i64 c] w fun e w' => e = .returned (.bool (sizedB r c)) ∧ w = w') := fun w => Lib.hid (rsized_any r c w)
  go_enter Tryd.func41, Tryd.ntmps41
  go_wp2_with fail
  (with_reducible refine (C1 _).out.mono ?_); rintro e w' ⟨rfl, rfl⟩
  by_cases hs : sizedB r c = true
  · have hs2 : 2 ≤ r ∧ r ≤ 60 ∧ 8 ≤ c ∧ c ≤ 132 := by simpa [sizedB, and_assoc] using hs
    obtain ⟨r1, r2, c1, c2⟩ := hs2
    obtain ⟨n, rfl⟩ := Int.eq_ofNat_of_zero_le (show 0 ≤ r by omega)
    obtain ⟨m, rfl⟩ := Int.eq_ofNat_of_zero_le (show 0 ≤ c by omega)
    have hs' := Lib.hid hs
    go_wp2_with fail
    generalize hW0 : World.alloc (World.alloc _ _) _ = W0
    obtain ⟨hsz, hb4, hb6⟩ : W0.heap.size = w.heap.size + 2 ∧ Box5 W0 w.heap.size 37 (.int .i64 0) (.int .i64 0) (.slice none 0 0) (.int .i64 0) (.int .i64 0) ∧
        Box5 W0 (w.heap.size + 1) 37 (.int .i64 n) (.int .i64 m) (.slice none 0 0) (.int .i64 0) (.int .i64 0) := by
      rw [← hW0]
      refine ⟨by rw [size_alloc, size_alloc], ?_, ?_⟩
      · unfold Box5; rw [heap_alloc, if_neg (by rw [size_alloc]; omega), heap_alloc, if_pos rfl]
      · unfold Box5; rw [heap_alloc, if_pos (by rw [size_alloc])]
    have hB0 : Below w.heap.size w W0 := by subst hW0; go_grown
    have H4 := Lib.hid hb4
    have H6 := Lib.hid hb6
    clear hb4 hb6 hW0 C1 hs
    generalize hM : List.replicate m (32 : UInt8) = row
    go_loopw [7, 8, 9] (fun f _ _ wr => ∃ i : Nat, ∃ ha hc, ∃ rb rc : Nat → Nat, i ≤ n ∧ f = .int .i64 i ∧ Hid (Box5 wr w.heap.size 37 (.int .i64 0) (.int .i64 0) (.slice none 0 0) (.int .i64 0) (.int .i64 0)) ∧
        Hid (Box5 wr (w.heap.size + 1) 37 (.int .i64 n) (.int .i64 m) (.slice ha i hc) (.int .i64 0) (.int .i64 0)) ∧
        Hid (Built W0.heap.size wr (.slice ha i hc) (List.replicate i row) rb rc) ∧ Below w.heap.size w wr ∧ W0.heap.size ≤ wr.heap.size) (fun f _ _ _ => n - (intOf f).toNat)
    case atStart => exact ⟨0, none, 0, fun _ => 0, fun _ => 0, by omega, rfl, H4, H6, Lib.hid (Built.nil _ _), hB0, Nat.le_refl _⟩
    case round =>
      obtain ⟨i, ha, hc, rb, rc, hin, rfl, hb4, hb6, hbu, hbel, hsize⟩ := hrel
      by_cases h : i < n
      · go_wp2_with fail
        obtain ⟨wo, rfl⟩ : ∃ wo : World, wo = wr := ⟨_, rfl⟩
        go_loopw [8, 9] (fun lv kk wr => ∃ k : Nat, k ≤ m ∧ kk = .int .i64 k ∧ Hid (wr.ownsRow wo.heap.size 5 1 lv k (List.replicate k (.int .u8 32))) ∧ Below wo.heap.size wo wr) (fun _ kk _ => m - (intOf kk).toNat)
        case atStart => exact ⟨0, Nat.zero_le _, rfl, Lib.hid (World.ownsRow_nil _ _ _ _), Below.refl _ _⟩
        case round =>
          obtain ⟨k, hk, rfl, hl, hbl⟩ := hrel
          by_cases hkm : k < m
          · have hB : wo.heap.size ≤ (wr.alloc (.cells #[.int .u8 32] 5)).heap.size := by rw [size_alloc]; have := hbl.size; omega
            go_wp2_with (at_builtin; refine wpList_append_one rfl (.tmp 28) (.tmp 29) 44 rfl 5 (.int .u8 0) 1 (by kernel_rfl) (by kernel_rfl) rfl wo.heap.size u8 k (List.replicate k (.int .u8 32)) (by simp [Act.eval]) (hl.out.alloc _) wr.heap.size 1 (by simp [Act.eval]) (.int .u8 32) (new_one _ _ _) rfl (by omega) (by decide) hB ?_; intro g c w1 hown1 hgr1 hb1)
            go_roundw
            case rel => exact ⟨k + 1, by omega, by go_num, Lib.hid (by rw [List.replicate_succ']; exact hown1.out), (hbl.alloc hbl.size _).trans hb1⟩
            case measure => simp [intOf]; omega
          · obtain rfl : k = m := by omega
            have hbu2 := Lib.hid (hbu.out.later hbl)
            have k4 := Lib.hid (hb4.out.below hbl hb4.out.lt)
            have k6' := Lib.hid (hb6.out.below hbl hb6.out.lt)
            rcases hl.out.2 with ⟨_, h0⟩ | ⟨lg, lc, cu, rfl, hBg, hgg, _, _, _, htk⟩
            · omega
            have Hgg := Lib.hid hgg
            have Htk := Lib.hid htk
            clear hgg htk hl
            have b2 := (k6'.out.alloc' (.cells #[.slice (some ⟨lg, 0, none⟩) k lc] 44)).c2
            have b2' := k6'.out.c2
            have hlt6 : w.heap.size + 1 < W0.heap.size := by omega
            have hB : W0.heap.size ≤ (wr.alloc (.cells #[.slice (some ⟨lg, 0, none⟩) k lc] 44)).heap.size := by rw [size_alloc]; have := hbl.size; omega
            have hs9 := hbl.size
            go_wp2_with (at_builtin; refine wpList_append_one rfl (.tmp 32) (.tmp 34) 35 rfl 44 (.slice none 0 0) 24 (by kernel_rfl) (by kernel_rfl) rfl W0.heap.size (.slice ha i hc) i _ (by simp [Act.eval]) (ownsRow_len hbu2.out.head (by simp) _) wr.heap.size 1 (by simp [Act.eval]) (.slice (some ⟨lg, 0, none⟩) k lc) (new_one _ _ _) rfl (by omega) (by decide) hB ?_; intro g c w1 hown1 hgr1 hb1; have k6 := Lib.hid (Box5.below (k6'.out.alloc' _) hb1 hlt6); have kc := Box5.c2 k6.out; have kf := Box5.free k6.out 2)
            obtain ⟨rb2, rc2, hsn⟩ : ∃ rb2 rc2, Built W0.heap.size w1 (.slice (some ⟨g, 0, none⟩) (i + 1) c) (List.replicate i row ++ [row]) rb2 rc2 := by
              refine ⟨_, _, Built.snoc (W := wo) (W1 := wr) hbu.out hsize hbl (.cells #[.slice (some ⟨lg, 0, none⟩) k lc] 44) lg lc cu.toList row (by rw [Array.toArray_toList]; exact Hgg.out) hBg (fun q hq => ?_) ?_ hgr1.out⟩
              · rw [← hM, List.length_replicate] at hq
                have h2 : (cu.toList.take (k * 1))[q]? = some (.int .u8 32) := by rw [Htk.out]; simp [hq]
                rw [List.getElem?_take] at h2
                split at h2
                · rw [h2, ← hM]; simp [hq]
                · cases h2
              · have hx := hown1.out
                rw [List.length_replicate]
                rw [show row.length = k from by rw [← hM]; simp]
                simp only [List.length_replicate] at hx
                exact hx
            rw [← List.replicate_succ'] at hsn
            go_roundw
            case rel =>
              refine ⟨i + 1, some ⟨g, 0, none⟩, c, _, _, by omega, by go_num, Lib.hid (Box5.other (Box5.below (k4.out.alloc' _) hb1 (by omega)) _ _ _ (by omega)), Lib.hid (k6.out.set2 _), Lib.hid (hsn.setLow _ _ _ hlt6), ?_, ?_⟩
              · exact Below_setCell (((hbel.trans (hbl.mono (by omega))).alloc (by omega) _).trans (hb1.mono (by omega))) _ _ _ (by omega)
              · have h2 : (w1.setCell ⟨w.heap.size + 1, 2, none⟩ (.slice (some ⟨g, 0, none⟩) (i + 1) c)).heap.size = w1.heap.size := by simp [World.setCell]
                exact Nat.le_trans (Nat.le_trans hB hb1.size) (Nat.le_of_eq h2.symm)
            case measure => simp only [intOf]; omega
      · obtain rfl : i = n := by omega
        have a0 := hb6.out.c0
        have a1 := hb6.out.c1
        have a2 := hb6.out.c2
        have a3 := hb6.out.c3
        have a4 := hb6.out.c4
        have f0 := hb4.out.free 0
        have f1 := hb4.out.free 1
        have f2 := hb4.out.free 2
        have f3 := hb4.out.free 3
        have f4 := hb4.out.free 4
        have b0 := hb4.out.c0
        have b1 := hb4.out.c1
        have b2 := hb4.out.c2
        have b3 := hb4.out.c3
        have b4 := hb4.out.c4
        go_wp2_with fail
        generalize hW' : World.setCell (World.setCell (World.setCell (World.setCell (World.setCell _ _ _) _ _) _ _) _ _) _ _ = W'
        have hbox : Box5 W' w.heap.size 37 (.int .i64 i) (.int .i64 m) (.slice ha i hc) (.int .i64 0) (.int .i64 0) := by rw [← hW']; exact hb4.out.sets _ _ _ _ _
        have hoth : ∀ c, c ≠ w.heap.size → W'.heap[c]? = wr.heap[c]? := fun c hc => by rw [← hW']; exact sets_other _ _ _ _ _ _ _ _ hc
        have hsW : W'.heap.size = wr.heap.size := by rw [← hW']; simp [World.setCell]
        have hbelW : Below w.heap.size w W' := by rw [← hW']; exact Below_sets hbel _ (Nat.le_refl _) _ _ _ _ _
        clear hW' f0 f1 f2 f3 f4 b0 b1 b2 b3 b4 a0 a1 a2 a3 a4
        have a0 := hbox.c0
        have a1 := hbox.c1
        have a2 := hbox.c2
        have a3 := hbox.c3
        have a4 := hbox.c4
        have Hoth := Lib.hid hoth
        clear hoth
        (try simp only [Exit.inBlock, Exit.then])
        refine bodyPost_ret (by simp [results, Tryd.results41, go_sem, a0, a1, a2, a3, a4]; try rfl) rfl ?_
        refine ⟨⟨_, rfl, ?_⟩, hbelW⟩
        obtain ⟨ha', hc', hv, ho⟩ := hbu.out.own
        injection hv with e1 _ e3
        subst e1 e3
        have hnew : (newG (i : Int) (m : Int)).cells = List.replicate i row := by simp [newG, hM]
        refine ⟨ha, hc, by rw [hnew, List.length_replicate]; rfl, fun hne => ?_⟩
        rw [hnew] at hne ⊢
        obtain ⟨hbk, rb', ro', rc', e, hr⟩ := ho hne
        exact ⟨hbk, rb', ro', rc', e, (hr.frame (w' := W') (fun c hc1 _ => Hoth.out c (by omega)) (by omega)).mono (by omega)⟩
  · go_wp2_with fail
    go_returns
    refine ⟨⟨_, rfl, own_zero _ _⟩, by go_grown⟩
end Go.Proofs.YtnpdpfkoghhioaaDoor
