/- GridsMay: a grid that may be, with one number or one cell changed. -/
import Derived.Test.YtnpdpfkoghhioaaHA
import Derived.Test.YtnpdpfkoghhioaaHC
import Derived.Test.YtnpdpfkoghhioaaHQ
import Derived.BigRegion
namespace Go.Proofs.Ytnpdpfkoghhioaa
open Go.RowKit

set_option maxRecDepth 100000 in
set_option maxHeartbeats 8000000 in
theorem may_law (a0 a1 : Int) (x y : Int) (ch : UInt8) (w : World) (h0 : 0 ≤ a0 ∧ a0 < 256) (h1 : 0 ≤ a1 ∧ a1 < 256) :
    Calls Try.prog 8 #[.int .u8 a0, .int .u8 a1, .agg #[.int .i64 x, .int .i64 y, .int .u8 (ch.toNat : Int)]] w fun e w' => e = .returned (.bool true) ∧ Below w.heap.size w w' := by
  obtain ⟨h0a, h0b⟩ := h0
  obtain ⟨h1a, h1b⟩ := h1
  obtain ⟨u, hu⟩ : ∃ u : Int, u = (ch.toNat : Int) := ⟨_, rfl⟩
  have Hu := Lib.hid hu
  rw [← hu]
  clear hu
  go_enter Try.func8, Try.ntmps8
  go_wp2_with fail
  obtain ⟨n, hn⟩ : ∃ n : Nat, 2 + a0 % 59 = (n : Int) := ⟨(2 + a0 % 59).toNat, by omega⟩
  obtain ⟨m, hm⟩ : ∃ m : Nat, 8 + a1 % 125 = (m : Int) := ⟨(8 + a1 % 125).toNat, by omega⟩
  simp only [hn, hm]
  have n1 : 2 ≤ n := by omega
  have n2 : n ≤ 60 := by omega
  have m1 : 8 ≤ m := by omega
  have m2 : m ≤ 132 := by omega
  clear hn hm
  generalize hW1 : World.alloc _ _ = W1
  have hB1 : Below w.heap.size w W1 := by rw [← hW1]; go_grown
  have hs1 : W1.heap.size = w.heap.size + 1 := by rw [← hW1, size_alloc]
  have q1 : W1.heap[w.heap.size]? = some (.cells [.int .i64 x, .int .i64 y, .int .u8 u].toArray 42 (0, 0)) := by rw [← hW1, heap_alloc, if_pos rfl]
  have Q1 := Lib.hid q1
  clear q1 hW1
  obtain ⟨L, hL⟩ : ∃ L, L = List.replicate n (List.replicate m (32 : UInt8)) := ⟨_, rfl⟩
  have hLl : L.length = n := by rw [hL, List.length_replicate]
  have HL := Lib.hid hL
  have C1 : ∀ w, Hid (Calls Try.prog 9 #[.int .i64 n, .int .i64 m] w fun e w' => (∃ gv, e = .returned (.tuple #[gv, .int .i64 0]) ∧ OwnGrid w.heap.size w' gv ⟨n, m, L, 0, 0⟩) ∧ Below w.heap.size w w') := by
    intro w
    have hx := new_any n m w
    rw [if_pos (size_ok ⟨n1, n2⟩ ⟨m1, m2⟩), if_pos (size_ok ⟨n1, n2⟩ ⟨m1, m2⟩), newG_eq, ← hL] at hx
    exact Lib.hid hx
  clear hL
  (with_reducible refine (C1 _).out.mono ?_); rintro e w2 ⟨⟨v2, rfl, ho2⟩, hb2⟩
  obtain ⟨ha, hc, rfl, hown0⟩ := ho2
  simp only at hown0
  obtain ⟨hbk, rb, ro, rc, rfl, hown⟩ := hown0 (by intro e; rw [e] at hLl; simp at hLl; omega)
  simp only [hLl]
  have hrow : (L[n - 1]?.getD []).length = m := by rw [HL.out, rep_row n m (n - 1) 32 (by omega), List.length_replicate]
  have i0 := hown.head (n - 1) (by omega)
  rw [hrow] at i0
  have hhl : hbk < w2.heap.size := lt_of_cell i0
  have i1 := fun o => (((Below.refl w2.heap.size w2).alloc (Nat.le_refl _) o).cell (p := ⟨hbk, n - 1, none⟩) hhl).trans i0
  have ii : ((n : Int) - 1).toNat = n - 1 := by omega
  have jj : (0 : Int) ≤ (n : Int) - 1 := by omega
  have kk : (n : Int) - 1 < (n : Int) := by omega
  have HI0 := Lib.hid i0
  have gr2 : GridAt w2.heap.size w2 (.agg #[.int .i64 n, .int .i64 m, .slice (some ⟨hbk, 0, none⟩) n hc, .int .i64 0, .int .i64 0]) ⟨n, m, L, 0, 0⟩ :=
    OwnGrid.at (B := W1.heap.size) ⟨_, hc, by simp only [hLl], fun _ => ⟨hbk, rb, ro, rc, rfl, hown⟩⟩
  have Gr2 := Lib.hid gr2
  have HR := Lib.hid hrow
  have HN := Lib.hid hLl
  have Hii := Lib.hid ii
  clear i0 hown hown0 gr2 hrow hLl
  go_wp2_with fail
  clear i1
  generalize hW2 : World.alloc w2 _ = W2
  have hB2 : Below w2.heap.size w2 W2 := by rw [← hW2]; exact (Below.refl _ _).alloc (Nat.le_refl _) _
  have hs2 : W2.heap.size = w2.heap.size + 1 := by rw [← hW2, size_alloc]
  have x2 : Box5 W2 w2.heap.size 24 (.int .i64 n) (.int .i64 m) (.slice (some ⟨hbk, 0, none⟩) n hc) (.int .i64 0) (.int .i64 0) := by rw [← hW2]; unfold Box5; rw [heap_alloc, if_pos rfl]
  have X2 := Lib.hid x2
  have GR := Lib.hid (Gr2.out.later hB2)
  have HB2 : Below w.heap.size w W2 := below_tr (below_tr hB1 hb2) hB2
  have hs12 := hb2.size
  have Q2 := Lib.hid ((hB2.block w.heap.size (by omega)).trans ((hb2.block w.heap.size (by omega)).trans Q1.out))
  clear hW2 x2 Q1
  have CL : ∀ w5, Below W2.heap.size W2 w5 → Hid (Calls Try.prog 15 #[.agg #[.int .i64 n, .int .i64 m, .slice (some ⟨hbk, 0, none⟩) n hc, .int .i64 0, .int .i64 0]] w5 fun e w' => (∃ hb rb ro rc, e = .returned (.agg #[.int .i64 n, .int .i64 m, .slice (some ⟨hb, 0, none⟩) n n, .int .i64 0, .int .i64 0]) ∧ OwnRows w5.heap.size w' hb rb ro rc L) ∧ Below w5.heap.size w5 w') := by
    intro w5 hb
    refine Lib.hid ((clone_cap _ ⟨n, m, L, 0, 0⟩ w5 (GR.out.later hb) (by rw [HL.out]; exact small_of ⟨n1, n2⟩ ⟨m1, m2⟩ 0 0)).mono ?_)
    rintro e w' ⟨⟨ha, rfl, ho⟩, hb'⟩
    obtain ⟨ha', hc', hv, hr⟩ := ho
    simp only [HN.out] at hr hv ⊢
    obtain ⟨hb0, rb0, ro0, rc0, e0, hr0⟩ := hr (by intro e; have := HN.out; rw [e] at this; simp at this; omega)
    injection hv with hv
    simp only [Array.mk.injEq, List.cons.injEq, Value.slice.injEq] at hv
    obtain ⟨_, _, ⟨e1, _, _⟩, _⟩ := hv
    rw [e1, e0]
    exact ⟨⟨hb0, rb0, ro0, rc0, rfl, hr0⟩, hb'⟩
  (with_reducible refine (CL _ (Below.refl _ _)).out.mono ?_); rintro e w3 ⟨⟨hh3, rb3, ro3, rc3, rfl, hr3⟩, hb3⟩
  have z3 := hb3.size
  have hBw3 : Below W2.heap.size W2 w3 := hb3
  have e0 := fun o => row_cell (cur := [_, _, _]) (alloc_other (w := w3) (o := o) ((hBw3.block w.heap.size (by omega)).trans Q2.out)) (k := 0) rfl
  have e1 := fun o => row_cell (cur := [_, _, _]) (alloc_other (w := w3) (o := o) ((hBw3.block w.heap.size (by omega)).trans Q2.out)) (k := 1) rfl
  have e2 := fun o => row_cell (cur := [_, _, _]) (alloc_other (w := w3) (o := o) ((hBw3.block w.heap.size (by omega)).trans Q2.out)) (k := 2) rfl
  have g0 := fun o => ((X2.out.below hBw3 X2.out.lt).alloc' o).c0
  have g1 := fun o => ((X2.out.below hBw3 X2.out.lt).alloc' o).c1
  have g2 := fun o => ((X2.out.below hBw3 X2.out.lt).alloc' o).c2
  have g3 := fun o => ((X2.out.below hBw3 X2.out.lt).alloc' o).c3
  have g4 := fun o => ((X2.out.below hBw3 X2.out.lt).alloc' o).c4
  have E0 : ∀ o, (w3.alloc o).cell? ⟨w.heap.size, 0, none⟩ = some (.int .i64 x) := e0
  clear e0 e1 e2
  go_wp2_with fail
  clear E0 g0 g1 g2 g3 g4
  generalize hW3 : World.alloc w3 _ = W3
  have hA3 : Below w3.heap.size w3 W3 := by rw [← hW3]; exact (Below.refl _ _).alloc (Nat.le_refl _) _
  have y3 : W3.heap.size = w3.heap.size + 1 := by rw [← hW3, size_alloc]
  have X3 : Hid (Box5 W3 w3.heap.size 24 (.int .i64 n) (.int .i64 m) (.slice (some ⟨hh3, 0, none⟩) n n) (.int .i64 x) (.int .i64 0)) := Lib.hid (by rw [← hW3]; unfold Box5; rw [heap_alloc, if_pos rfl])
  have G3 : Hid (GridAt W3.heap.size W3 (.agg #[.int .i64 n, .int .i64 m, .slice (some ⟨hh3, 0, none⟩) n n, .int .i64 x, .int .i64 0]) ⟨n, m, L, x, 0⟩) := by
    refine Lib.hid (OwnGrid.at (B := 0) ?_)
    refine OwnGrid.later (w := w3) ⟨some ⟨hh3, 0, none⟩, n, by simp only [HN.out], fun _ => ⟨hh3, rb3, ro3, rc3, rfl, hr3.mono (Nat.zero_le _)⟩⟩ hA3
  have hD3 : Below W2.heap.size W2 W3 := hBw3.trans (hA3.mono (by have := hBw3.size; omega))
  clear hW3
  (with_reducible refine (CL _ hD3).out.mono ?_); rintro e w4 ⟨⟨hh4, rb4, ro4, rc4, rfl, hr4⟩, hb4⟩
  have z4 := hb4.size
  have hBw4 : Below W2.heap.size W2 w4 := below_tr hD3 hb4
  have g0 := fun o => ((X2.out.below hBw4 X2.out.lt).alloc' o).c0
  have g1 := fun o => ((X2.out.below hBw4 X2.out.lt).alloc' o).c1
  have g2 := fun o => ((X2.out.below hBw4 X2.out.lt).alloc' o).c2
  have g3 := fun o => ((X2.out.below hBw4 X2.out.lt).alloc' o).c3
  have g4 := fun o => ((X2.out.below hBw4 X2.out.lt).alloc' o).c4
  have E1 : ∀ o, (w4.alloc o).cell? ⟨w.heap.size, 1, none⟩ = some (.int .i64 y) := fun o => row_cell (cur := [_, _, _]) (alloc_other (w := w4) (o := o) ((hBw4.block w.heap.size (by omega)).trans Q2.out)) (k := 1) rfl
  go_wp2_with fail
  clear E1 g0 g1 g2 g3 g4
  generalize hW4 : World.alloc w4 _ = W4
  have hA4 : Below w4.heap.size w4 W4 := by rw [← hW4]; exact (Below.refl _ _).alloc (Nat.le_refl _) _
  have y4 : W4.heap.size = w4.heap.size + 1 := by rw [← hW4, size_alloc]
  have X4 : Hid (Box5 W4 w4.heap.size 24 (.int .i64 n) (.int .i64 m) (.slice (some ⟨hh4, 0, none⟩) n n) (.int .i64 0) (.int .i64 y)) := Lib.hid (by rw [← hW4]; unfold Box5; rw [heap_alloc, if_pos rfl])
  have G4 : Hid (GridAt W4.heap.size W4 (.agg #[.int .i64 n, .int .i64 m, .slice (some ⟨hh4, 0, none⟩) n n, .int .i64 0, .int .i64 y]) ⟨n, m, L, 0, y⟩) := by
    refine Lib.hid (OwnGrid.at (B := 0) ?_)
    refine OwnGrid.later (w := w4) ⟨some ⟨hh4, 0, none⟩, n, by simp only [HN.out], fun _ => ⟨hh4, rb4, ro4, rc4, rfl, hr4.mono (Nat.zero_le _)⟩⟩ hA4
  have hD4 : Below W2.heap.size W2 W4 := hBw4.trans (hA4.mono (by have := hBw4.size; omega))
  clear hW4
  (with_reducible refine (CL _ hD4).out.mono ?_); rintro e w5 ⟨⟨hh5, rb5, ro5, rc5, rfl, hr5⟩, hb5⟩
  have z5 := hb5.size
  have hBw5 : Below W2.heap.size W2 w5 := below_tr hD4 hb5
  have hrow5 : (L[n - 1]?.getD []).length = m := HR.out
  have i0 := hr5.head (n - 1) (by rw [HN.out]; omega)
  rw [hrow5] at i0
  have hhl5 : hh5 < w5.heap.size := lt_of_cell i0
  have i1 := fun o => (((Below.refl w5.heap.size w5).alloc (Nat.le_refl _) o).cell (p := ⟨hh5, n - 1, none⟩) hhl5).trans i0
  have HI5 := Lib.hid i0
  clear i0 hrow5
  go_wp2_with fail
  clear i1
  generalize hW5 : World.alloc w5 _ = W5
  have hA5 : Below w5.heap.size w5 W5 := by rw [← hW5]; exact (Below.refl _ _).alloc (Nat.le_refl _) _
  have y5 : W5.heap.size = w5.heap.size + 1 := by rw [← hW5, size_alloc]
  have X5 : Hid (Box5 W5 w5.heap.size 24 (.int .i64 n) (.int .i64 m) (.slice (some ⟨hh5, 0, none⟩) n n) (.int .i64 0) (.int .i64 0)) := Lib.hid (by rw [← hW5]; unfold Box5; rw [heap_alloc, if_pos rfl])
  have hD5 : Below W2.heap.size W2 W5 := hBw5.trans (hA5.mono (by have := hBw5.size; omega))
  have hr5' : OwnRows W4.heap.size W5 hh5 rb5 ro5 rc5 L := by
    exact hr5.below hA5 hhl5 hr5.lt
  clear hW5
  have hiL : n - 1 < L.length := by rw [HN.out]; omega
  have hkL : m - 1 < (L[n - 1]?.getD []).length := by rw [HR.out]; omega
  have p1 := hr5'.head (n - 1) hiL
  rw [HR.out] at p1
  have p2 := hr5'.cell (n - 1) hiL (m - 1) hkL
  have p3 := hr5'.free (n - 1) hiL (m - 1) hkL
  have p4 := X5.out.c2
  have p5 := row_cell (cur := [_, _, _]) ((hD5.block w.heap.size (by omega)).trans Q2.out) (k := 2) rfl
  have s1 : IntKind.i64.wrap ((n : Int) - 1) = (n : Int) - 1 := by rw [IntKind.wrap_i64]; omega
  have s2 : IntKind.i64.wrap ((m : Int) - 1) = (m : Int) - 1 := by rw [IntKind.wrap_i64]; omega
  have s3 : ((n : Int) - 1).toNat = n - 1 := by omega
  have s4 : ((m : Int) - 1).toNat = m - 1 := by omega
  have s5 : (0 : Int) ≤ (n : Int) - 1 := by omega
  have s6 : (0 : Int) ≤ (m : Int) - 1 := by omega
  have s7 : (n : Int) - 1 < (n : Int) := by omega
  have s8 : (m : Int) - 1 < (m : Int) := by omega
  have hset := Lib.hid (hr5'.set (n - 1) (m - 1) hiL hkL ch)
  rw [← Hu.out] at hset
  have HOR := Lib.hid hr5'
  clear hr5' hiL hkL
  go_region
  generalize hW6 : World.drew (World.setCell W5 _ _) = W6
  have hlow := HOR.out.low (n - 1) (by rw [HN.out]; omega)
  have hltr := hr5.lt (n - 1) (by rw [HN.out]; omega)
  have hE : Below W4.heap.size W4 W6 := by rw [← hW6]; exact (Below_setCell (hb5.trans (hA5.mono (by omega))) _ _ _ hlow).drew
  have y6 : W6.heap.size = W5.heap.size := by rw [← hW6]; simp [World.setCell, World.drew]
  have X6 : Hid (Box5 W6 w5.heap.size 24 (.int .i64 n) (.int .i64 m) (.slice (some ⟨hh5, 0, none⟩) n n) (.int .i64 0) (.int .i64 0)) := Lib.hid (by rw [← hW6]; exact X5.out.other _ _ _ (by omega))
  have G6 : Hid (GridAt W6.heap.size W6 (.agg #[.int .i64 n, .int .i64 m, .slice (some ⟨hh5, 0, none⟩) n n, .int .i64 0, .int .i64 0]) ⟨n, m, putL L (n - 1) (m - 1) ch, 0, 0⟩) := by
    refine Lib.hid (OwnGrid.at (B := W4.heap.size) ?_)
    rw [← hW6]
    exact ⟨some ⟨hh5, 0, none⟩, n, by simp only [putL_length, HN.out], fun _ => ⟨hh5, rb5, ro5, rc5, rfl, hset.out.below (n := W5.heap.size) ((Below.refl _ _).drew) (Nat.lt_of_lt_of_le (hr5.head_lt (by intro e; have := HN.out; rw [e] at this; simp at this; omega)) hA5.size) (fun j hj => by rw [putL_length] at hj; exact Nat.lt_of_lt_of_le (hr5.lt j hj) hA5.size)⟩⟩
  have hD6 : Below W2.heap.size W2 W6 := hD4.trans (hE.mono (by have := hD4.size; omega))
  clear hW6 p1 p2 p3 p4 p5 s1 s2 s3 s4 s5 s6 s7 s8
  have g0 := (X2.out.below hD6 X2.out.lt).c0
  have g1 := (X2.out.below hD6 X2.out.lt).c1
  have g2 := (X2.out.below hD6 X2.out.lt).c2
  have g3 := (X2.out.below hD6 X2.out.lt).c3
  have g4 := (X2.out.below hD6 X2.out.lt).c4
  go_wp2_with fail
  (with_reducible refine (CL _ hD6).out.mono ?_); rintro e w7 ⟨⟨hh7, rb7, ro7, rc7, rfl, hr7⟩, hb7⟩
  clear g0 g1 g2 g3 g4
  have s5 : (0 : Int) ≤ (n : Int) - 1 := by omega
  have s7 : (n : Int) - 1 ≤ (n : Int) := by omega
  have s3 : ((n : Int) - 1).toNat = n - 1 := by omega
  go_wp2_with fail
  generalize hW7 : World.alloc w7 _ = W7
  have hA7 : Below w7.heap.size w7 W7 := by rw [← hW7]; exact (Below.refl _ _).alloc (Nat.le_refl _) _
  have y7 : W7.heap.size = w7.heap.size + 1 := by rw [← hW7, size_alloc]
  have X7 : Box5 W7 w7.heap.size 24 (.int .i64 n) (.int .i64 m) (.slice (some ⟨hh7, 0, none⟩) (n - 1) n) (.int .i64 0) (.int .i64 0) := by rw [← hW7]; unfold Box5; rw [heap_alloc, if_pos rfl]
  have G7 : Hid (GridAt W7.heap.size W7 (.agg #[.int .i64 n, .int .i64 m, .slice (some ⟨hh7, 0, none⟩) (n - 1) n, .int .i64 0, .int .i64 0]) ⟨n, m, L.take (n - 1), 0, 0⟩) := by
    have ho : OwnGrid W6.heap.size w7 (.agg #[.int .i64 n, .int .i64 m, .slice (some ⟨hh7, 0, none⟩) n n, .int .i64 0, .int .i64 0]) ⟨n, m, L, 0, 0⟩ := ⟨some ⟨hh7, 0, none⟩, n, by simp only [HN.out], fun _ => ⟨hh7, rb7, ro7, rc7, rfl, hr7⟩⟩
    obtain ⟨cv, hv, hcs⟩ := (ho.later hA7).at
    injection hv with hv
    simp only [Array.mk.injEq, List.cons.injEq] at hv
    obtain ⟨_, _, rfl, _⟩ := hv
    exact Lib.hid ⟨_, rfl, hcs.take (n - 1) n (by simp only [HN.out]; omega)⟩
  have hF : Below W6.heap.size W6 W7 := hb7.trans (hA7.mono hb7.size)
  have hE4 : Below W4.heap.size W4 W7 := hE.trans (hF.mono hE.size)
  have hE3 : Below W3.heap.size W3 W7 := (hb4.trans (hA4.mono hb4.size)).trans (hE4.mono (by have := hb4.size; have := hA4.size; omega))
  have hE2 : Below W2.heap.size W2 W7 := hD6.trans (hF.mono hD6.size)
  have HB7 : Below w.heap.size w W7 := below_tr HB2 hE2
  have l2 : w2.heap.size < W7.heap.size := (X2.out.below hE2 X2.out.lt).lt
  have l3 : w3.heap.size < W7.heap.size := (X3.out.below hE3 X3.out.lt).lt
  have l4 : w4.heap.size < W7.heap.size := (X4.out.below hE4 X4.out.lt).lt
  have l5 : w5.heap.size < W7.heap.size := (X6.out.below hF X6.out.lt).lt
  have l7 : w7.heap.size < W7.heap.size := by omega
  have l0 : w.heap.size < W7.heap.size := by have := hE2.size; omega
  have aa0 := Box5.c0 (X2.out.below hE2 X2.out.lt)
  have aa1 := Box5.c1 (X2.out.below hE2 X2.out.lt)
  have aa2 := Box5.c2 (X2.out.below hE2 X2.out.lt)
  have aa3 := Box5.c3 (X2.out.below hE2 X2.out.lt)
  have aa4 := Box5.c4 (X2.out.below hE2 X2.out.lt)
  have bb0 := Box5.c0 (X3.out.below hE3 X3.out.lt)
  have bb1 := Box5.c1 (X3.out.below hE3 X3.out.lt)
  have bb2 := Box5.c2 (X3.out.below hE3 X3.out.lt)
  have bb3 := Box5.c3 (X3.out.below hE3 X3.out.lt)
  have bb4 := Box5.c4 (X3.out.below hE3 X3.out.lt)
  have cc0 := Box5.c0 (X4.out.below hE4 X4.out.lt)
  have cc1 := Box5.c1 (X4.out.below hE4 X4.out.lt)
  have cc2 := Box5.c2 (X4.out.below hE4 X4.out.lt)
  have cc3 := Box5.c3 (X4.out.below hE4 X4.out.lt)
  have cc4 := Box5.c4 (X4.out.below hE4 X4.out.lt)
  have dd0 := Box5.c0 (X6.out.below hF X6.out.lt)
  have dd1 := Box5.c1 (X6.out.below hF X6.out.lt)
  have dd2 := Box5.c2 (X6.out.below hF X6.out.lt)
  have dd3 := Box5.c3 (X6.out.below hF X6.out.lt)
  have dd4 := Box5.c4 (X6.out.below hF X6.out.lt)
  have ee0 := Box5.c0 (X7)
  have ee1 := Box5.c1 (X7)
  have ee2 := Box5.c2 (X7)
  have ee3 := Box5.c3 (X7)
  have ee4 := Box5.c4 (X7)
  have ff0 := row_cell (cur := [_, _, _]) ((hE2.block w.heap.size (by omega)).trans Q2.out) (k := 0) rfl
  have ff1 := row_cell (cur := [_, _, _]) ((hE2.block w.heap.size (by omega)).trans Q2.out) (k := 1) rfl
  have ff2 := row_cell (cur := [_, _, _]) ((hE2.block w.heap.size (by omega)).trans Q2.out) (k := 2) rfl
  obtain ⟨z1, hz1⟩ : ∃ z : Int, z = if mayB ⟨n, m, L, x, 0⟩ = true then 0 else 2 := ⟨_, rfl⟩
  obtain ⟨z2, hz2⟩ : ∃ z : Int, z = if mayB ⟨n, m, L, 0, y⟩ = true then 0 else 2 := ⟨_, rfl⟩
  obtain ⟨z3, hz3⟩ : ∃ z : Int, z = if mayB ⟨n, m, putL L (n - 1) (m - 1) ch, 0, 0⟩ = true then 0 else 2 := ⟨_, rfl⟩
  have K1 : ∀ w5, Below W7.heap.size W7 w5 → Hid (Calls Try.prog 17 #[.agg #[.int .i64 n, .int .i64 m, .slice (some ⟨hh3, 0, none⟩) n n, .int .i64 x, .int .i64 0]] w5 fun e w' => e = .returned (.int .i64 z1) ∧ Below w5.heap.size w5 w') := by
    intro w5 hb
    have hx := check_any _ ⟨n, m, L, x, 0⟩ w5 ((G3.out.later hE3).later hb) (by rw [HL.out]; exact small_of ⟨n1, n2⟩ ⟨m1, m2⟩ _ _)
    rw [← hz1] at hx
    exact Lib.hid hx
  have K2 : ∀ w5, Below W7.heap.size W7 w5 → Hid (Calls Try.prog 17 #[.agg #[.int .i64 n, .int .i64 m, .slice (some ⟨hh4, 0, none⟩) n n, .int .i64 0, .int .i64 y]] w5 fun e w' => e = .returned (.int .i64 z2) ∧ Below w5.heap.size w5 w') := by
    intro w5 hb
    have hx := check_any _ ⟨n, m, L, 0, y⟩ w5 ((G4.out.later hE4).later hb) (by rw [HL.out]; exact small_of ⟨n1, n2⟩ ⟨m1, m2⟩ _ _)
    rw [← hz2] at hx
    exact Lib.hid hx
  have K3 : ∀ w5, Below W7.heap.size W7 w5 → Hid (Calls Try.prog 17 #[.agg #[.int .i64 n, .int .i64 m, .slice (some ⟨hh5, 0, none⟩) n n, .int .i64 0, .int .i64 0]] w5 fun e w' => e = .returned (.int .i64 z3) ∧ Below w5.heap.size w5 w') := by
    intro w5 hb
    have hx := check_any _ ⟨n, m, putL L (n - 1) (m - 1) ch, 0, 0⟩ w5 ((G6.out.later hF).later hb) (by rw [HL.out]; exact small_cell ⟨n1, n2⟩ ⟨m1, m2⟩ ch)
    rw [← hz3] at hx
    exact Lib.hid hx
  have K4 : ∀ w5, Below W7.heap.size W7 w5 → Hid (Calls Try.prog 17 #[.agg #[.int .i64 n, .int .i64 m, .slice (some ⟨hh7, 0, none⟩) (n - 1) n, .int .i64 0, .int .i64 0]] w5 fun e w' => e = .returned (.int .i64 2) ∧ Below w5.heap.size w5 w') := by
    intro w5 hb
    have hx := check_any _ ⟨n, m, L.take (n - 1), 0, 0⟩ w5 ((G7.out).later hb) (by rw [HL.out]; exact small_short ⟨n1, n2⟩ ⟨m1, m2⟩)
    rw [HL.out, if_neg (by rw [may_short ⟨n1, n2⟩ ⟨m1, m2⟩]; decide)] at hx
    exact Lib.hid hx
  have K5 : ∀ w5, Below W7.heap.size W7 w5 → Hid (Calls Try.prog 17 #[.agg #[.int .i64 n, .int .i64 m, .slice (some ⟨hbk, 0, none⟩) n hc, .int .i64 0, .int .i64 0]] w5 fun e w' => e = .returned (.int .i64 0) ∧ Below w5.heap.size w5 w') := by
    intro w5 hb
    have hx := check_any _ ⟨n, m, L, 0, 0⟩ w5 ((GR.out.later hE2).later hb) (by rw [HL.out]; exact small_of ⟨n1, n2⟩ ⟨m1, m2⟩ _ _)
    rw [HL.out, if_pos (may_new ⟨n1, n2⟩ ⟨m1, m2⟩)] at hx
    exact Lib.hid hx
  have K6 : ∀ w5, Below W7.heap.size W7 w5 → Hid (Calls Try.prog 12 #[] w5 fun e w' => e = .returned (.bool true) ∧ Below w5.heap.size w5 w') := fun w5 _ => Lib.hid (does_any w5)
  rw [HL.out, may_row ⟨n1, n2⟩ ⟨m1, m2⟩] at hz1
  rw [HL.out, may_col ⟨n1, n2⟩ ⟨m1, m2⟩] at hz2
  rw [HL.out, may_cell ⟨n1, n2⟩ ⟨m1, m2⟩, plain_int, ← Hu.out] at hz3
  have r1 : (decide (0 ≤ x) = false ∧ (z1 == 0) = false) ∨ (0 ≤ x ∧ (z1 == 0) = decide (x < (n : Int))) := by
    by_cases h : 0 ≤ x
    · right; refine ⟨h, ?_⟩; rw [hz1]; by_cases h2 : x < (n : Int) <;> simp [h, h2]
    · left; refine ⟨by simp; omega, ?_⟩; rw [hz1]; simp [h]
  have r2 : (decide (0 ≤ y) = false ∧ (z2 == 0) = false) ∨ (0 ≤ y ∧ (z2 == 0) = decide (y < (m : Int))) := by
    by_cases h : 0 ≤ y
    · right; refine ⟨h, ?_⟩; rw [hz2]; by_cases h2 : y < (m : Int) <;> simp [h, h2]
    · left; refine ⟨by simp; omega, ?_⟩; rw [hz2]; simp [h]
  have r3 : (decide (32 ≤ u) = false ∧ (z3 == 0) = false) ∨ (32 ≤ u ∧ (z3 == 0) = decide (u ≤ 126)) := by
    by_cases h : 32 ≤ u
    · right; refine ⟨h, ?_⟩; rw [hz3]; by_cases h2 : u ≤ 126 <;> simp [h, h2]
    · left; refine ⟨by simp; omega, ?_⟩; rw [hz3]; simp [h]
  clear y3 y4 y5 y6 y7 hs1 hs2 hz1 hz2 hz3 CL C1 X2 X3 X4 X5 X6 X7 G3 G4 G6 G7 GR hset hr3 hr4 hr5 hr7 HOR hW7 s5 s7 s3 kk jj HI0 HI5 HR HN Gr2 Q2 hE hE2 hE3 hE4 hD3 hD4 hD5 hD6 HB2 hF hA3 hA4 hA5 hA7
  clear h0a h0b h1a h1b Hu hB1 HL hb2 hhl ii Hii hB2 hs12 hb3 hBw3 hb4 z4 hBw4 hb5 z5 hBw5 hhl5 hlow hltr hb7
  have hp := fun (p : Ext W7) (b o : Nat) (h : b < W7.heap.size) => p.cell b o h
  rcases r1 with ⟨x1, x2⟩ | ⟨x1, x2⟩
  all_goals rcases r2 with ⟨y1, y2⟩ | ⟨y1, y2⟩
  all_goals rcases r3 with ⟨u1, u2⟩ | ⟨u1, u2⟩
  all_goals
    refine wp_region_class (by kernel_rfl) (by kernel_rfl) ?_
    repeat (go_big_quiet_step (first
      | (go_at_call 17; with_reducible exact Calls.ext (K1 _ (Subtype.property _)).out)
      | (go_at_call 17; with_reducible exact Calls.ext (K2 _ (Subtype.property _)).out)
      | (go_at_call 17; with_reducible exact Calls.ext (K3 _ (Subtype.property _)).out)
      | (go_at_call 17; with_reducible exact Calls.ext (K4 _ (Subtype.property _)).out)
      | (go_at_call 17; with_reducible exact Calls.ext (K5 _ (Subtype.property _)).out)
      | (go_at_call 12; with_reducible exact Calls.ext (K6 _ (Subtype.property _)).out)))
    refine wpQuiet_nil ?_
    intro _ hw'
    obtain ⟨q, hw''⟩ := hw'
    subst hw''
    go_wp2_with fail
    go_ret
    exact ⟨rfl, below_tr HB7 q.2⟩
end Go.Proofs.Ytnpdpfkoghhioaa
