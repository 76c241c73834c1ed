/- grids.Put. -/
import Derived.Test.YtnpdpfkoghhioaaGK
namespace Go.Proofs.Ytnpdpfkoghhioaa
open Go.RowKit

theorem OwnRows.frame {B : Nat} {w w' : World} {hb : Nat} {rb ro rc : Nat → Nat} {L : List (List UInt8)} (h : OwnRows B w hb rb ro rc L) (ho : ∀ c, B ≤ c → c < w.heap.size → w'.heap[c]? = w.heap[c]?) (hs : w.heap.size ≤ w'.heap.size) : OwnRows B w' hb rb ro rc L where
  head j hj := by
    have h1 := h.head j hj
    exact (World.cell?_of_block (ho hb h.base (lt_of_cell h1))).trans h1
  base := h.base
  low := h.low
  lt j hj := Nat.lt_of_lt_of_le (h.lt j hj) hs
  off := h.off
  cell j hj k hk := (World.cell?_of_block (ho (rb j) (h.low j hj) (h.lt j hj))).trans (h.cell j hj k hk)
  free j hj k hk := (World.frozen?_of_block (ho (rb j) (h.low j hj) (h.lt j hj))).trans (h.free j hj k hk)
  apart := h.apart
theorem OwnRows.mono {B B' : Nat} {w : World} {hb : Nat} {rb ro rc : Nat → Nat} {L : List (List UInt8)} (h : OwnRows B w hb rb ro rc L) (hB : B' ≤ B) : OwnRows B' w hb rb ro rc L :=
  { h with base := Nat.le_trans hB h.base, low := fun j hj => Nat.le_trans hB (h.low j hj) }

theorem put_of {g : G} {i k : Int} {ch : UInt8} (h : putB g i k ch = false) : putG g i k ch = g := by unfold putG; rw [h]; rfl
theorem Box5.alloc' {w : World} {b : Nat} {t : TypeId} {v0 v1 v2 v3 v4 : Value} (h : Box5 w b t v0 v1 v2 v3 v4) (o : Obj) : Box5 (w.alloc o) b t v0 v1 v2 v3 v4 := h.alloc o

set_option maxRecDepth 100000 in
set_option maxHeartbeats 4000000 in
theorem put_any (v : Value) (g : G) (i k : Int) (ch : UInt8) (w : World) (h : GridAt w.heap.size w v g) (hb : Small g) :
    Calls Try.prog 16 #[v, .int .i64 i, .int .i64 k, .int .u8 (ch.toNat : Int)] w fun e w' => (∃ v', e = .returned v' ∧ OwnGrid w.heap.size w' v' (putG g i k ch)) ∧ Below w.heap.size w w' := by
  obtain ⟨r, c, L, x, y⟩ := g
  have C1 : ∀ w1, Below w.heap.size w w1 → Hid (Calls Try.prog 15 #[v] w1 fun e w' => (∃ v', e = .returned v' ∧ OwnGrid w1.heap.size w' v' ⟨r, c, L, x, y⟩) ∧ Below w1.heap.size w1 w') := fun w1 hw => Lib.hid (clone_any v _ w1 (h.later hw) hb)
  have C2 : ∀ w1, Below w.heap.size w w1 → Hid (Calls Try.prog 17 #[v] w1 fun e w' => e = .returned (.int .i64 (if mayB ⟨r, c, L, x, y⟩ = true then 0 else 2)) ∧ Below w1.heap.size w1 w') := fun w1 hw => Lib.hid (check_any v _ w1 (h.later hw) hb)
  have C3 : ∀ w1, Hid (Calls Try.prog 28 #[.int .u8 (ch.toNat : Int)] w1 fun e w' => e = .returned (.bool (!plainC ch)) ∧ w1 = w') := fun w1 => Lib.hid (odd_any ch w1)
  obtain ⟨cv, rfl, hc⟩ := h
  clear hc
  simp only at C1 C2
  obtain ⟨p, hp⟩ : ∃ p, p = mayB ⟨r, c, L, x, y⟩ := ⟨_, rfl⟩
  simp only [← hp] at C2
  obtain ⟨z, hz⟩ : ∃ z : Int, z = if p = true then 0 else 2 := ⟨_, rfl⟩
  simp only [← hz] at C2
  have Hp := Lib.hid hp
  have Hz := Lib.hid hz
  obtain ⟨u, hu⟩ : ∃ u : Int, u = (ch.toNat : Int) := ⟨_, rfl⟩
  have Hu := Lib.hid hu
  rw [← hu]
  simp only [← hu] at C3
  obtain ⟨o, ho⟩ : ∃ o, o = plainC ch := ⟨_, rfl⟩
  have Ho := Lib.hid ho
  simp only [← ho] at C3
  obtain ⟨res, hres⟩ : ∃ res, res = putG ⟨r, c, L, x, y⟩ i k ch := ⟨_, rfl⟩
  rw [← hres]
  have Hres := Lib.hid hres
  clear hp hz hu ho hres
  go_enter Try.func16, Try.ntmps16
  go_wp2_with fail
  generalize hW1 : World.alloc (World.alloc _ _) _ = W1
  have hB1 : Below w.heap.size w W1 := by rw [← hW1]; go_grown
  have k1 : Box5 W1 w.heap.size 24 (.int .i64 r) (.int .i64 c) cv (.int .i64 x) (.int .i64 y) := by
    rw [← hW1]; unfold Box5; rw [heap_alloc, if_neg (by rw [size_alloc]; omega), heap_alloc, if_pos rfl]
  have k2 : Box5 W1 (w.heap.size + 1) 24 (.int .i64 0) (.int .i64 0) (.slice none 0 0) (.int .i64 0) (.int .i64 0) := by
    rw [← hW1]; unfold Box5; rw [heap_alloc, if_pos (by rw [size_alloc])]
  have hs1 : W1.heap.size = w.heap.size + 2 := by rw [← hW1, size_alloc, size_alloc]
  clear hW1
  (with_reducible refine (C1 _ hB1).out.mono ?_); rintro e w2 ⟨⟨v2, rfl, hown⟩, hb2⟩
  obtain ⟨ha, hc, rfl, hown⟩ := hown
  have K1 := Lib.hid (k1.below hb2 (by omega))
  have K2 := Lib.hid (k2.below hb2 (by omega))
  have Hown := Lib.hid hown
  clear k1 k2 hown
  simp only at Hown
  have A0 := fun o => (K1.out.alloc' o).c0
  have A1 := fun o => (K1.out.alloc' o).c1
  have A2 := fun o => (K1.out.alloc' o).c2
  have A3 := fun o => (K1.out.alloc' o).c3
  have A4 := fun o => (K1.out.alloc' o).c4
  go_wp2_with fail
  clear A0 A1 A2 A3 A4
  generalize hW3 : World.alloc w2 _ = W3
  have hs2 := hb2.size
  have hB3 : Below w.heap.size w W3 := by rw [← hW3]; exact (hB1.trans (hb2.mono (by omega))).alloc (by omega) _
  have k3 : Box5 W3 w2.heap.size 24 (.int .i64 r) (.int .i64 c) (.slice ha L.length hc) (.int .i64 x) (.int .i64 y) := by rw [← hW3]; unfold Box5; rw [heap_alloc, if_pos rfl]
  have e3 : ∀ c, c < w2.heap.size → W3.heap[c]? = w2.heap[c]? := fun c hc => by rw [← hW3, heap_alloc, if_neg (by omega)]
  have hs3 : W3.heap.size = w2.heap.size + 1 := by rw [← hW3, size_alloc]
  clear hW3
  have k1 := K1.out
  have k1 : Box5 W3 w.heap.size 24 (.int .i64 r) (.int .i64 c) cv (.int .i64 x) (.int .i64 y) := (e3 _ (by omega)).trans K1.out
  have k2 : Box5 W3 (w.heap.size + 1) 24 (.int .i64 0) (.int .i64 0) (.slice none 0 0) (.int .i64 0) (.int .i64 0) := (e3 _ (by omega)).trans K2.out
  (with_reducible refine (C2 _ hB3).out.mono ?_); rintro e w4 ⟨rfl, hb4⟩
  have J1 := Lib.hid (k1.below hb4 (by omega))
  have J2 := Lib.hid (k2.below hb4 (by omega))
  have J3 := Lib.hid (k3.below hb4 (by omega))
  have hB4 : Below w.heap.size w w4 := hB3.trans (hb4.mono (by omega))
  have e4 : ∀ c, c < w2.heap.size → w4.heap[c]? = w2.heap[c]? := fun c hc => (hb4.block c (by omega)).trans (e3 c hc)
  have hs4 := hb4.size
  have E4 := Lib.hid e4
  clear k1 k2 k3 e3 e4 K1 K2 C1 C2 hB1 hB3
  have c0 := J1.out.c0
  have c1 := J1.out.c1
  have d0 := J3.out.c0
  have d1 := J3.out.c1
  have d2 := J3.out.c2
  have d3 := J3.out.c3
  have d4 := J3.out.c4
  have b0 := J2.out.c0
  have b1 := J2.out.c1
  have b2 := J2.out.c2
  have b3 := J2.out.c3
  have b4 := J2.out.c4
  have f0 := J2.out.free 0
  have f1 := J2.out.free 1
  have f2 := J2.out.free 2
  have f3 := J2.out.free 3
  have f4 := J2.out.free 4
  cases p with
  | false =>
    obtain rfl : z = 2 := Hz.out
    have hno : Hid (res = ⟨r, c, L, x, y⟩) := Lib.hid (Hres.out.trans (put_of (by unfold putB; rw [← Hp.out]; simp)))
    go_wp2_with fail
    generalize hW' : World.setCell (World.setCell (World.setCell (World.setCell (World.setCell _ _ _) _ _) _ _) _ _) _ _ = W'
    have hbox : Box5 W' (w.heap.size + 1) 24 (.int .i64 r) (.int .i64 c) (.slice ha L.length hc) (.int .i64 x) (.int .i64 y) := by rw [← hW']; exact J2.out.sets _ _ _ _ _
    have hoth : ∀ c, c ≠ w.heap.size + 1 → W'.heap[c]? = w4.heap[c]? := fun c hc => by rw [← hW']; exact sets_other _ _ _ _ _ _ _ _ hc
    have hbelW : Below w.heap.size w W' := by rw [← hW']; exact Below_sets hB4 _ (by omega) _ _ _ _ _
    have hsW : W'.heap.size = w4.heap.size := by rw [← hW']; simp [World.setCell]
    clear hW' f0 f1 f2 f3 f4 b0 b1 b2 b3 b4 d0 d1 d2 d3 d4
    have a0 := hbox.c0
    have a1 := hbox.c1
    have a2 := hbox.c2
    have a3 := hbox.c3
    have a4 := hbox.c4
    (try simp only [Exit.inBlock, Exit.then])
    refine bodyPost_ret (by simp [results, Try.results16, go_sem, a0, a1, a2, a3, a4]; try rfl) rfl ?_
    refine ⟨⟨_, rfl, ?_⟩, hbelW⟩
    rw [hno.out]
    refine ⟨ha, hc, rfl, fun hne => ?_⟩
    obtain ⟨hb, rb, ro, rc, e, ho⟩ := Hown.out hne
    exact ⟨hb, rb, ro, rc, e, (ho.frame (w' := W') (fun c hc1 hc2 => (hoth c (by omega)).trans (E4.out c hc2)) (by omega)).mono (by omega)⟩
  | true =>
    obtain rfl : z = 0 := Hz.out
    by_cases t1 : i < 0
    · have hh : decide (0 ≤ i) = false := by simp; omega
      have hno : Hid (res = ⟨r, c, L, x, y⟩) := Lib.hid (Hres.out.trans (put_of (by unfold putB; simp only [hh]; simp)))
      clear hh
      go_wp2_with fail
      generalize hW' : World.setCell (World.setCell (World.setCell (World.setCell (World.setCell _ _ _) _ _) _ _) _ _) _ _ = W'
      have hbox : Box5 W' (w.heap.size + 1) 24 (.int .i64 r) (.int .i64 c) (.slice ha L.length hc) (.int .i64 x) (.int .i64 y) := by rw [← hW']; exact J2.out.sets _ _ _ _ _
      have hoth : ∀ c, c ≠ w.heap.size + 1 → W'.heap[c]? = w4.heap[c]? := fun c hc => by rw [← hW']; exact sets_other _ _ _ _ _ _ _ _ hc
      have hbelW : Below w.heap.size w W' := by rw [← hW']; exact Below_sets hB4 _ (by omega) _ _ _ _ _
      have hsW : W'.heap.size = w4.heap.size := by rw [← hW']; simp [World.setCell]
      clear hW' f0 f1 f2 f3 f4 b0 b1 b2 b3 b4 d0 d1 d2 d3 d4
      have a0 := hbox.c0
      have a1 := hbox.c1
      have a2 := hbox.c2
      have a3 := hbox.c3
      have a4 := hbox.c4
      (try simp only [Exit.inBlock, Exit.then])
      refine bodyPost_ret (by simp [results, Try.results16, go_sem, a0, a1, a2, a3, a4]; try rfl) rfl ?_
      refine ⟨⟨_, rfl, ?_⟩, hbelW⟩
      rw [hno.out]
      refine ⟨ha, hc, rfl, fun hne => ?_⟩
      obtain ⟨hb, rb, ro, rc, e, ho⟩ := Hown.out hne
      exact ⟨hb, rb, ro, rc, e, (ho.frame (w' := W') (fun c hc1 hc2 => (hoth c (by omega)).trans (E4.out c hc2)) (by omega)).mono (by omega)⟩
    · skip
      by_cases t2 : r ≤ i
      · have hh : decide (i < r) = false := by simp; omega
        have hno : Hid (res = ⟨r, c, L, x, y⟩) := Lib.hid (Hres.out.trans (put_of (by unfold putB; simp only [hh]; simp)))
        clear hh
        go_wp2_with fail
        generalize hW' : World.setCell (World.setCell (World.setCell (World.setCell (World.setCell _ _ _) _ _) _ _) _ _) _ _ = W'
        have hbox : Box5 W' (w.heap.size + 1) 24 (.int .i64 r) (.int .i64 c) (.slice ha L.length hc) (.int .i64 x) (.int .i64 y) := by rw [← hW']; exact J2.out.sets _ _ _ _ _
        have hoth : ∀ c, c ≠ w.heap.size + 1 → W'.heap[c]? = w4.heap[c]? := fun c hc => by rw [← hW']; exact sets_other _ _ _ _ _ _ _ _ hc
        have hbelW : Below w.heap.size w W' := by rw [← hW']; exact Below_sets hB4 _ (by omega) _ _ _ _ _
        have hsW : W'.heap.size = w4.heap.size := by rw [← hW']; simp [World.setCell]
        clear hW' f0 f1 f2 f3 f4 b0 b1 b2 b3 b4 d0 d1 d2 d3 d4
        have a0 := hbox.c0
        have a1 := hbox.c1
        have a2 := hbox.c2
        have a3 := hbox.c3
        have a4 := hbox.c4
        (try simp only [Exit.inBlock, Exit.then])
        refine bodyPost_ret (by simp [results, Try.results16, go_sem, a0, a1, a2, a3, a4]; try rfl) rfl ?_
        refine ⟨⟨_, rfl, ?_⟩, hbelW⟩
        rw [hno.out]
        refine ⟨ha, hc, rfl, fun hne => ?_⟩
        obtain ⟨hb, rb, ro, rc, e, ho⟩ := Hown.out hne
        exact ⟨hb, rb, ro, rc, e, (ho.frame (w' := W') (fun c hc1 hc2 => (hoth c (by omega)).trans (E4.out c hc2)) (by omega)).mono (by omega)⟩
      · skip
        by_cases t3 : k < 0
        · have hh : decide (0 ≤ k) = false := by simp; omega
          have hno : Hid (res = ⟨r, c, L, x, y⟩) := Lib.hid (Hres.out.trans (put_of (by unfold putB; simp only [hh]; simp)))
          clear hh
          go_wp2_with fail
          generalize hW' : World.setCell (World.setCell (World.setCell (World.setCell (World.setCell _ _ _) _ _) _ _) _ _) _ _ = W'
          have hbox : Box5 W' (w.heap.size + 1) 24 (.int .i64 r) (.int .i64 c) (.slice ha L.length hc) (.int .i64 x) (.int .i64 y) := by rw [← hW']; exact J2.out.sets _ _ _ _ _
          have hoth : ∀ c, c ≠ w.heap.size + 1 → W'.heap[c]? = w4.heap[c]? := fun c hc => by rw [← hW']; exact sets_other _ _ _ _ _ _ _ _ hc
          have hbelW : Below w.heap.size w W' := by rw [← hW']; exact Below_sets hB4 _ (by omega) _ _ _ _ _
          have hsW : W'.heap.size = w4.heap.size := by rw [← hW']; simp [World.setCell]
          clear hW' f0 f1 f2 f3 f4 b0 b1 b2 b3 b4 d0 d1 d2 d3 d4
          have a0 := hbox.c0
          have a1 := hbox.c1
          have a2 := hbox.c2
          have a3 := hbox.c3
          have a4 := hbox.c4
          (try simp only [Exit.inBlock, Exit.then])
          refine bodyPost_ret (by simp [results, Try.results16, go_sem, a0, a1, a2, a3, a4]; try rfl) rfl ?_
          refine ⟨⟨_, rfl, ?_⟩, hbelW⟩
          rw [hno.out]
          refine ⟨ha, hc, rfl, fun hne => ?_⟩
          obtain ⟨hb, rb, ro, rc, e, ho⟩ := Hown.out hne
          exact ⟨hb, rb, ro, rc, e, (ho.frame (w' := W') (fun c hc1 hc2 => (hoth c (by omega)).trans (E4.out c hc2)) (by omega)).mono (by omega)⟩
        · skip
          by_cases t4 : c ≤ k
          · have hh : decide (k < c) = false := by simp; omega
            have hno : Hid (res = ⟨r, c, L, x, y⟩) := Lib.hid (Hres.out.trans (put_of (by unfold putB; simp only [hh]; simp)))
            clear hh
            go_wp2_with fail
            generalize hW' : World.setCell (World.setCell (World.setCell (World.setCell (World.setCell _ _ _) _ _) _ _) _ _) _ _ = W'
            have hbox : Box5 W' (w.heap.size + 1) 24 (.int .i64 r) (.int .i64 c) (.slice ha L.length hc) (.int .i64 x) (.int .i64 y) := by rw [← hW']; exact J2.out.sets _ _ _ _ _
            have hoth : ∀ c, c ≠ w.heap.size + 1 → W'.heap[c]? = w4.heap[c]? := fun c hc => by rw [← hW']; exact sets_other _ _ _ _ _ _ _ _ hc
            have hbelW : Below w.heap.size w W' := by rw [← hW']; exact Below_sets hB4 _ (by omega) _ _ _ _ _
            have hsW : W'.heap.size = w4.heap.size := by rw [← hW']; simp [World.setCell]
            clear hW' f0 f1 f2 f3 f4 b0 b1 b2 b3 b4 d0 d1 d2 d3 d4
            have a0 := hbox.c0
            have a1 := hbox.c1
            have a2 := hbox.c2
            have a3 := hbox.c3
            have a4 := hbox.c4
            (try simp only [Exit.inBlock, Exit.then])
            refine bodyPost_ret (by simp [results, Try.results16, go_sem, a0, a1, a2, a3, a4]; try rfl) rfl ?_
            refine ⟨⟨_, rfl, ?_⟩, hbelW⟩
            rw [hno.out]
            refine ⟨ha, hc, rfl, fun hne => ?_⟩
            obtain ⟨hb, rb, ro, rc, e, ho⟩ := Hown.out hne
            exact ⟨hb, rb, ro, rc, e, (ho.frame (w' := W') (fun c hc1 hc2 => (hoth c (by omega)).trans (E4.out c hc2)) (by omega)).mono (by omega)⟩
          · skip
            go_wp2_with fail
            (with_reducible refine (C3 _).out.mono ?_); rintro e w5 ⟨rfl, rfl⟩
            cases o with
            | false =>
              have hno : Hid (res = ⟨r, c, L, x, y⟩) := Lib.hid (Hres.out.trans (put_of (by unfold putB; rw [← Ho.out]; simp)))
              go_wp2_with fail
              generalize hW' : World.setCell (World.setCell (World.setCell (World.setCell (World.setCell _ _ _) _ _) _ _) _ _) _ _ = W'
              have hbox : Box5 W' (w.heap.size + 1) 24 (.int .i64 r) (.int .i64 c) (.slice ha L.length hc) (.int .i64 x) (.int .i64 y) := by rw [← hW']; exact J2.out.sets _ _ _ _ _
              have hoth : ∀ c, c ≠ w.heap.size + 1 → W'.heap[c]? = w4.heap[c]? := fun c hc => by rw [← hW']; exact sets_other _ _ _ _ _ _ _ _ hc
              have hbelW : Below w.heap.size w W' := by rw [← hW']; exact Below_sets hB4 _ (by omega) _ _ _ _ _
              have hsW : W'.heap.size = w4.heap.size := by rw [← hW']; simp [World.setCell]
              clear hW' f0 f1 f2 f3 f4 b0 b1 b2 b3 b4 d0 d1 d2 d3 d4
              have a0 := hbox.c0
              have a1 := hbox.c1
              have a2 := hbox.c2
              have a3 := hbox.c3
              have a4 := hbox.c4
              (try simp only [Exit.inBlock, Exit.then])
              refine bodyPost_ret (by simp [results, Try.results16, go_sem, a0, a1, a2, a3, a4]; try rfl) rfl ?_
              refine ⟨⟨_, rfl, ?_⟩, hbelW⟩
              rw [hno.out]
              refine ⟨ha, hc, rfl, fun hne => ?_⟩
              obtain ⟨hb, rb, ro, rc, e, ho⟩ := Hown.out hne
              exact ⟨hb, rb, ro, rc, e, (ho.frame (w' := W') (fun c hc1 hc2 => (hoth c (by omega)).trans (E4.out c hc2)) (by omega)).mono (by omega)⟩

            | true =>
              obtain ⟨iN, rfl⟩ := Int.eq_ofNat_of_zero_le (show 0 ≤ i by omega)
              obtain ⟨kN, rfl⟩ := Int.eq_ofNat_of_zero_le (show 0 ≤ k by omega)
              have hyes : res = ⟨r, c, putL L iN kN ch, x, y⟩ := by
                have e1 : decide ((0 : Int) ≤ (iN : Int)) = true := by simp
                have e2 : decide ((iN : Int) < r) = true := by simp; omega
                have e3 : decide ((0 : Int) ≤ (kN : Int)) = true := by simp
                have e4 : decide ((kN : Int) < c) = true := by simp; omega
                rw [Hres.out]
                unfold putG putB
                rw [← Hp.out, ← Ho.out]
                simp only [e1, e2, e3, e4]
                rfl
              have Hyes := Lib.hid hyes
              clear hyes
              have hm := Hp.out
              rw [mayB_eq] at hm
              have hm2 := hm.symm
              simp only [Bool.and_eq_true, decide_eq_true_eq] at hm2
              obtain ⟨⟨⟨⟨_, hrow⟩, _⟩, _⟩, hall⟩ := hm2
              have hiL : iN < L.length := by omega
              have hlen : ((L[iN]?.getD []).length : Int) = c := by
                rw [List.getElem?_eq_getElem hiL, Option.getD_some]
                have := List.all_eq_true.1 hall _ (List.getElem_mem hiL)
                unfold lineB at this
                simp only [Bool.and_eq_true, decide_eq_true_eq] at this
                exact this.1
              have hkL : kN < (L[iN]?.getD []).length := by omega
              obtain ⟨hbk, rb, ro, rc, rfl, ho⟩ := Hown.out (by intro e; rw [e] at hiL; simp at hiL)
              have ho4 := ho.frame (w' := w4) (fun c hc1 hc2 => E4.out c hc2) (by omega)
              have m1 := ho4.head iN hiL
              have m2 := ho4.cell iN hiL kN hkL
              have m3 := ho4.free iN hiL kN hkL
              have hlow := ho.low iN hiL
              have hlt := ho.lt iN hiL
              have hset := Lib.hid (ho4.set iN kN hiL hkL ch)
              rw [← Hu.out] at hset
              have HO4 := Lib.hid ho4
              clear ho4 ho hm hall
              obtain ⟨nl, hnl⟩ : ∃ nl, nl = (L[iN]?.getD []).length := ⟨_, rfl⟩
              rw [← hnl] at m1 hkL hlen
              have HNL := Lib.hid hnl
              obtain ⟨nr, hnr⟩ : ∃ nr, nr = L.length := ⟨_, rfl⟩
              have HNR := Lib.hid hnr
              have d2' : w4.cell? ⟨w2.heap.size, 2, none⟩ = some (.slice (some ⟨hbk, 0, none⟩) nr hc) := by rw [hnr]; exact d2
              rw [← hnr] at hiL hrow
              clear hnl d2
              have q0 := fun v => (J3.out.other (rb iN) (ro iN + kN) v (by omega)).c0
              have q1 := fun v => (J3.out.other (rb iN) (ro iN + kN) v (by omega)).c1
              have q2 := fun v => (J3.out.other (rb iN) (ro iN + kN) v (by omega)).c2
              have q3 := fun v => (J3.out.other (rb iN) (ro iN + kN) v (by omega)).c3
              have q4 := fun v => (J3.out.other (rb iN) (ro iN + kN) v (by omega)).c4
              have n0 := fun v => (J2.out.other (rb iN) (ro iN + kN) v (by omega)).c0
              have n1 := fun v => (J2.out.other (rb iN) (ro iN + kN) v (by omega)).c1
              have n2 := fun v => (J2.out.other (rb iN) (ro iN + kN) v (by omega)).c2
              have n3 := fun v => (J2.out.other (rb iN) (ro iN + kN) v (by omega)).c3
              have n4 := fun v => (J2.out.other (rb iN) (ro iN + kN) v (by omega)).c4
              have hiI : (iN : Int) < (nr : Int) := by omega
              have hkI : (kN : Int) < (nl : Int) := by omega
              clear hnr
              go_wp2_with fail
              generalize hW' : World.setCell (World.setCell (World.setCell (World.setCell (World.setCell _ _ _) _ _) _ _) _ _) _ _ = W'
              have hbox : Box5 W' (w.heap.size + 1) 24 (.int .i64 r) (.int .i64 c) (.slice (some ⟨hbk, 0, none⟩) L.length hc) (.int .i64 x) (.int .i64 y) := by rw [← hW']; exact (J2.out.other _ _ _ (by omega)).sets _ _ _ _ _
              have hoth : ∀ c, c ≠ w.heap.size + 1 → W'.heap[c]? = (w4.setCell ⟨rb iN, ro iN + kN, none⟩ (.int .u8 u)).heap[c]? := fun c hc => by rw [← hW']; exact sets_other _ _ _ _ _ _ _ _ hc
              have hbelW : Below w.heap.size w W' := by rw [← hW']; exact Below_sets (Below_setCell hB4 _ _ _ (by omega)) _ (by omega) _ _ _ _ _
              have hsW : W'.heap.size = w4.heap.size := by rw [← hW']; simp [World.setCell]
              have hsW5 : (w4.setCell ⟨rb iN, ro iN + kN, none⟩ (.int .u8 u)).heap.size = w4.heap.size := by simp [World.setCell]
              clear hW' f0 f1 f2 f3 f4 b0 b1 b2 b3 b4 d0 d1 d2' d3 d4 q0 q1 q2 q3 q4 n0 n1 n2 n3 n4
              have a0 := hbox.c0
              have a1 := hbox.c1
              have a2 := hbox.c2
              have a3 := hbox.c3
              have a4 := hbox.c4
              (try simp only [Exit.inBlock, Exit.then])
              refine bodyPost_ret (by simp [results, Try.results16, go_sem, a0, a1, a2, a3, a4]; try rfl) rfl ?_
              refine ⟨⟨_, rfl, ?_⟩, hbelW⟩
              rw [Hyes.out]
              refine ⟨some ⟨hbk, 0, none⟩, hc, by simp [putL_length], fun hne => ?_⟩
              exact ⟨hbk, rb, ro, rc, rfl, (hset.out.frame (w' := W') (fun c hc1 hc2 => hoth c (by omega)) (by omega)).mono (by omega)⟩
end Go.Proofs.Ytnpdpfkoghhioaa
