/- GridsTwo: of two puts into unlike cells it makes no difference which comes first. -/
import Derived.Test.YtnpdpfkoghhioaaGX
import Derived.Deep.DeepCutAuto
namespace Go.Proofs.Ytnpdpfkoghhioaa
open Go.RowKit

theorem drew_heap (w : World) : w.drew.heap = w.heap := rfl
theorem Held.sets {N : Nat} {W w1 : World} (h : (∀ b o, b < N → w1.cell? ⟨b, o, none⟩ = W.cell? ⟨b, o, none⟩) ∧ Below N W w1) {b : Nat} (hb : N ≤ b) (u0 u1 u2 u3 u4 : Value) :
    (∀ c o, c < N → (((((w1.setCell ⟨b, 0, none⟩ u0).setCell ⟨b, 1, none⟩ u1).setCell ⟨b, 2, none⟩ u2).setCell ⟨b, 3, none⟩ u3).setCell ⟨b, 4, none⟩ u4).cell? ⟨c, o, none⟩ = W.cell? ⟨c, o, none⟩) ∧ Below N W (((((w1.setCell ⟨b, 0, none⟩ u0).setCell ⟨b, 1, none⟩ u1).setCell ⟨b, 2, none⟩ u2).setCell ⟨b, 3, none⟩ u3).setCell ⟨b, 4, none⟩ u4) := by
  have h2 := Below_sets h.2 b hb u0 u1 u2 u3 u4
  exact ⟨fun c o hc => h2.cell (p := ⟨c, o, none⟩) hc, h2⟩
theorem Held.allocD {N : Nat} {W : World} (hN : N = W.heap.size) (o : Obj) : (∀ b c, b < N → (W.alloc o).drew.cell? ⟨b, c, none⟩ = W.cell? ⟨b, c, none⟩) ∧ Below N W (W.alloc o).drew := by
  subst hN
  have h1 : Below W.heap.size W (W.alloc o).drew := ((Below.refl _ _).alloc (Nat.le_refl _) o).drew
  exact ⟨fun c o hc => h1.cell (p := ⟨c, o, none⟩) hc, h1⟩
theorem Held.realloc {N : Nat} {W w1 : World} {o : Obj} (h : (∀ b c, b < N → (w1.alloc o).cell? ⟨b, c, none⟩ = W.cell? ⟨b, c, none⟩) ∧ Below N W (w1.alloc o)) (hN : N ≤ w1.heap.size) (o' : Obj) :
    (∀ b c, b < N → (w1.alloc o').cell? ⟨b, c, none⟩ = W.cell? ⟨b, c, none⟩) ∧ Below N W (w1.alloc o') := by
  have h1 : Below N W (w1.alloc o') := by
    refine ⟨h.2.os, h.2.tape, h.2.output, by rw [size_alloc]; have := h.2.size; rw [size_alloc] at this; exact this, fun k hk => ?_⟩
    have := h.2.block k hk
    rw [heap_alloc, if_neg (by omega)] at this ⊢
    exact this
  exact ⟨fun c o hc => h1.cell (p := ⟨c, o, none⟩) hc, h1⟩
theorem hcell {w1 w2 : World} (hb : Below w1.heap.size w1 w2) : ∀ b o, b < w1.heap.size → w2.cell? ⟨b, o, none⟩ = w1.cell? ⟨b, o, none⟩ := fun b o h => hb.cell (p := ⟨b, o, none⟩) h
theorem hfree {w1 w2 : World} (hb : Below w1.heap.size w1 w2) : ∀ b o, b < w1.heap.size → w2.frozen? ⟨b, o, none⟩ = w1.frozen? ⟨b, o, none⟩ := fun b o h => hb.frozen (p := ⟨b, o, none⟩) h

theorem zbox (w : World) : Box5 (w.alloc (.cells #[.int .i64 0, .int .i64 0, .slice none 0 0, .int .i64 0, .int .i64 0] 24)) w.heap.size 24 (.int .i64 0) (.int .i64 0) (.slice none 0 0) (.int .i64 0) (.int .i64 0) := by
  unfold Box5; rw [heap_alloc, if_pos rfl]
theorem gbox_new (w : World) (g : G) (h : Option Addr) (k : Nat) : GBox (w.alloc (.cells #[.int .i64 g.rows, .int .i64 g.cols, .slice h g.cells.length k, .int .i64 g.row, .int .i64 g.col] 24)) w.heap.size g h k := by
  unfold GBox Box5; rw [heap_alloc, if_pos rfl]
theorem OwnGrid.frame {B : Nat} {w w' : World} {v : Value} {g : G} (h : OwnGrid B w v g) (ho : ∀ c, B ≤ c → c < w.heap.size → w'.heap[c]? = w.heap[c]?) (hs : w.heap.size ≤ w'.heap.size) : OwnGrid B w' v g := by
  obtain ⟨ha, hc, hv, h⟩ := h
  refine ⟨ha, hc, hv, fun hne => ?_⟩
  obtain ⟨hb, rb, ro, rc, he, hr⟩ := h hne
  exact ⟨hb, rb, ro, rc, he, hr.frame ho hs⟩
theorem put_in {B : Nat} {w : World} {b : Nat} {g : G} {h : Option Addr} {k : Nat} {v0 v1 v2 v3 v4 : Value} (ho : OwnGrid B w (gval g h k) g) (hb : b < B) (hx : Box5 w b 24 v0 v1 v2 v3 v4) :
    GBox (((((w.setCell ⟨b, 0, none⟩ (.int .i64 g.rows)).setCell ⟨b, 1, none⟩ (.int .i64 g.cols)).setCell ⟨b, 2, none⟩ (.slice h g.cells.length k)).setCell ⟨b, 3, none⟩ (.int .i64 g.row)).setCell ⟨b, 4, none⟩ (.int .i64 g.col)) b g h k ∧
    OwnGrid B (((((w.setCell ⟨b, 0, none⟩ (.int .i64 g.rows)).setCell ⟨b, 1, none⟩ (.int .i64 g.cols)).setCell ⟨b, 2, none⟩ (.slice h g.cells.length k)).setCell ⟨b, 3, none⟩ (.int .i64 g.row)).setCell ⟨b, 4, none⟩ (.int .i64 g.col)) (gval g h k) g :=
  ⟨hx.sets _ _ _ _ _, ho.frame (fun c hc _ => sets_other _ _ _ _ _ _ _ _ (by omega)) (by simp [World.setCell])⟩

set_option maxRecDepth 100000 in
set_option maxHeartbeats 4000000 in
theorem two_law (v : Value) (g : G) (x1 y1 x2 y2 : Int) (ch1 ch2 : UInt8) (w : World) (hg : GridAt w.heap.size w v g)
    (hb1 : g.cells.length ≤ 9223372036854775807) (hb2 : ∀ r ∈ g.cells, r.length ≤ 9223372036854775807) :
    Calls Try.prog 7 #[v, .agg #[.int .i64 x1, .int .i64 y1, .int .u8 (ch1.toNat : Int)], .agg #[.int .i64 x2, .int .i64 y2, .int .u8 (ch2.toNat : Int)]] w fun e w' => e = .returned (.bool true) ∧ Below w.heap.size w w' := by
  have M1 : ∀ w1, Below w.heap.size w w1 → Hid (Calls Try.prog 13 #[v] w1 fun e w' => e = .returned (.bool (muchB g)) ∧ Below w1.heap.size w1 w') := fun w1 hw => Lib.hid (much_any v g w1 (hg.later hw) hb1 hb2)
  have P1 : ∀ u h w5, GridAt w5.heap.size w5 u h → Small h → Hid (Calls Try.prog 16 #[u, .int .i64 x1, .int .i64 y1, .int .u8 (ch1.toNat : Int)] w5 fun e w' => (∃ v', e = .returned v' ∧ OwnGrid w5.heap.size w' v' (putG h x1 y1 ch1)) ∧ Below w5.heap.size w5 w') := fun u h w5 hu hs => Lib.hid (put_any u h x1 y1 ch1 w5 hu hs)
  have P2 : ∀ u h w5, GridAt w5.heap.size w5 u h → Small h → Hid (Calls Try.prog 16 #[u, .int .i64 x2, .int .i64 y2, .int .u8 (ch2.toNat : Int)] w5 fun e w' => (∃ v', e = .returned v' ∧ OwnGrid w5.heap.size w' v' (putG h x2 y2 ch2)) ∧ Below w5.heap.size w5 w') := fun u h w5 hu hs => Lib.hid (put_any u h x2 y2 ch2 w5 hu hs)
  obtain ⟨p, hp⟩ : ∃ p, p = muchB g := ⟨_, rfl⟩
  simp only [← hp] at M1
  have Hp := Lib.hid hp
  have Hg := Lib.hid hg
  clear hp hb1 hb2
  obtain ⟨a1, k1, rfl⟩ := agg_at hg
  clear hg
  obtain ⟨u1, hu1⟩ : ∃ u : Int, u = (ch1.toNat : Int) := ⟨_, rfl⟩
  obtain ⟨u2, hu2⟩ : ∃ u : Int, u = (ch2.toNat : Int) := ⟨_, rfl⟩
  simp only [← hu1] at P1
  simp only [← hu2] at P2
  rw [← hu1, ← hu2]
  clear hu1 hu2
  go_enter Try.func7, Try.ntmps7
  go_wp2_with fail
  generalize hW1 : World.alloc (World.alloc (World.alloc _ _) _) _ = W1
  have hB1 : Below w.heap.size w W1 := by rw [← hW1]; go_grown
  obtain ⟨hs1, q1, q2, q3⟩ : W1.heap.size = w.heap.size + 3 ∧ GBox W1 w.heap.size g a1 k1 ∧ W1.heap[w.heap.size + 1]? = some (.cells #[.int .i64 x1, .int .i64 y1, .int .u8 u1] 42 (0, 0)) ∧
      W1.heap[w.heap.size + 1 + 1]? = some (.cells #[.int .i64 x2, .int .i64 y2, .int .u8 u2] 42 (0, 0)) := by rw [← hW1]; exact heap3 _ _ _ _
  clear hW1
  (with_reducible refine (M1 _ hB1).out.mono ?_); rintro e w2 ⟨rfl, hb2⟩
  have hB2 := below_tr hB1 hb2
  have hs2 := hb2.size
  have r1 : GBox w2 w.heap.size g a1 k1 := q1.below hb2 (by omega)
  have r2 := (hb2.block (w.heap.size + 1) (by omega)).trans q2
  have r3 := (hb2.block (w.heap.size + 1 + 1) (by omega)).trans q3
  have X1 := Lib.hid r1
  have X2 := Lib.hid r2
  have X3 := Lib.hid r3
  clear q1 q2 q3 r1 r2 r3
  have e0 := row_cell (cur := [_, _, _]) X2.out (k := 0) rfl
  have e1 := row_cell (cur := [_, _, _]) X2.out (k := 1) rfl
  have e2 := row_cell (cur := [_, _, _]) X2.out (k := 2) rfl
  have f0 := row_cell (cur := [_, _, _]) X3.out (k := 0) rfl
  have f1 := row_cell (cur := [_, _, _]) X3.out (k := 1) rfl
  have f2 := row_cell (cur := [_, _, _]) X3.out (k := 2) rfl
  cases p with
  | true =>
    go_wp2_with fail
    (with_reducible refine (does_any _).mono ?_); rintro e w3 ⟨rfl, hb3⟩
    go_wp2_with fail
    go_ret
    exact ⟨rfl, below_tr hB2 hb3⟩
  | false =>
    by_cases t : x1 = x2 ∧ y1 = y2
    · obtain ⟨rfl, rfl⟩ := t
      go_wp2_with fail
      (with_reducible refine (does_any _).mono ?_); rintro e w3 ⟨rfl, hb3⟩
      go_wp2_with fail
      go_ret
      exact ⟨rfl, below_tr hB2 hb3⟩
    · have sg := Small_of_much Hp.out.symm
      have c0 := X1.out.c0
      have c1 := X1.out.c1
      have c2 := X1.out.c2
      have c3 := X1.out.c3
      have c4 := X1.out.c4
      have l1 : w.heap.size < w2.heap.size := by omega
      have l2 : w.heap.size + 1 < w2.heap.size := by omega
      have l3 : w.heap.size + 1 + 1 < w2.heap.size := by omega
      have G1 : ∀ w5, Below w2.heap.size w2 w5 → GridAt w5.heap.size w5 (gval g a1 k1) g := fun w5 hb => (Hg.out.later hB2).later hb
      obtain ⟨ga, hga⟩ : ∃ ga, ga = putG g x1 y1 ch1 := ⟨_, rfl⟩
      obtain ⟨gb, hgb⟩ : ∃ gb, gb = putG g x2 y2 ch2 := ⟨_, rfl⟩
      obtain ⟨gx, hgx⟩ : ∃ gx, gx = putG ga x2 y2 ch2 := ⟨_, rfl⟩
      have hgx2 : gx = putG gb x1 y1 ch1 := by rw [hgx, hga, hgb]; exact putG_comm g x1 y1 ch1 x2 y2 ch2 t
      have PA : ∀ w5, Below w2.heap.size w2 w5 → Hid (Calls Try.prog 16 #[gval g a1 k1, .int .i64 x1, .int .i64 y1, .int .u8 u1] w5 fun e w' => (∃ v', e = .returned v' ∧ OwnGrid w5.heap.size w' v' ga) ∧ Below w5.heap.size w5 w') := fun w5 hb => by rw [hga]; exact P1 _ g w5 (G1 w5 hb) sg
      have PB : ∀ w5, Below w2.heap.size w2 w5 → Hid (Calls Try.prog 16 #[gval g a1 k1, .int .i64 x2, .int .i64 y2, .int .u8 u2] w5 fun e w' => (∃ v', e = .returned v' ∧ OwnGrid w5.heap.size w' v' gb) ∧ Below w5.heap.size w5 w') := fun w5 hb => by rw [hgb]; exact P2 _ g w5 (G1 w5 hb) sg
      have PAB : ∀ u w5, GridAt w5.heap.size w5 u ga → Hid (Calls Try.prog 16 #[u, .int .i64 x2, .int .i64 y2, .int .u8 u2] w5 fun e w' => (∃ v', e = .returned v' ∧ OwnGrid w5.heap.size w' v' gx) ∧ Below w5.heap.size w5 w') := fun u w5 hu => by rw [hgx]; exact P2 u ga w5 hu (by rw [hga]; exact put_small sg _ _ _)
      have PBA : ∀ u w5, GridAt w5.heap.size w5 u gb → Hid (Calls Try.prog 16 #[u, .int .i64 x1, .int .i64 y1, .int .u8 u1] w5 fun e w' => (∃ v', e = .returned v' ∧ OwnGrid w5.heap.size w' v' gx) ∧ Below w5.heap.size w5 w') := fun u w5 hu => by rw [hgx2]; exact P1 u gb w5 hu (by rw [hgb]; exact put_small sg _ _ _)
      have sx : Small gx := by rw [hgx, hga]; exact put_small (put_small sg _ _ _) _ _ _
      have mx : mayB gx = mayB g := by rw [hgx, may_put, hga, may_put]
      have MX := Lib.hid mx
      clear hga hgb hgx hgx2 P1 P2 mx
      have ht : ((x1 == x2) = true ∧ (y1 == y2) = false) ∨ (x1 == x2) = false := by
        by_cases tx : x1 = x2
        · exact .inl ⟨by simp [tx], by simp; exact fun ty => t ⟨tx, ty⟩⟩
        · exact .inr (by simp [tx])
      clear t
      rcases ht with ⟨tx, ty⟩ | tx
      all_goals
        go_upto_region 3 with fail
        go_cut [7] (fun s7 wx => ∃ b h3 k3, s7 = .pointer (some ⟨b, 0, none⟩) ∧ w2.heap.size ≤ b ∧ Hid (GBox wx b gx h3 k3) ∧ Hid (GridAt wx.heap.size wx (gval gx h3 k3) gx) ∧ Below w2.heap.size w2 wx)
        case first =>
          go_region_held3 (fun w' => (∀ b o, b < w2.heap.size → w'.cell? ⟨b, o, none⟩ = w2.cell? ⟨b, o, none⟩) ∧ Below w2.heap.size w2 w') (first | with_reducible exact Held.drew | with_reducible exact Held.call (by assumption) (by assumption) rfl | with_reducible exact Held.alloc (by assumption) rfl _ | with_reducible exact Held.allocD rfl _ | with_reducible exact Held.sets (by assumption) (by omega) _ _ _ _ _ | with_reducible exact Held.realloc (by assumption) (by omega) _)
            (first
              | (go_at_call 16; with_reducible (refine (PA _ (And.right (by assumption))).out.mono ?_); rintro e w7 ⟨⟨v7, rfl, ho7⟩, hb7⟩; have hc7 := hcell hb7; have hf7 := hfree hb7; have hz7 := hb7.size; (try simp only [drew_heap] at hz7); (try rw [size_alloc] at hz7); (try have hy7 := Nat.lt_of_succ_le hz7))
              | (go_at_call 16; with_reducible (refine (PAB _ _ ho7.at).out.mono ?_); rintro e w8 ⟨⟨v8, rfl, ho8⟩, hb8⟩; obtain ⟨h8, k8, rfl⟩ := agg_of ho8; have hc8 := hcell hb8; have hf8 := hfree hb8; have hz8 := hb8.size; (try simp only [drew_heap] at hz8); (try rw [size_alloc] at hz8); (try have hy8 := Nat.lt_of_succ_le hz8))
              | (go_at_call 16; with_reducible (refine (PAB _ _ (ho7.at.later ((Below.refl _ _).alloc (Nat.le_refl _) _))).out.mono ?_); rintro e w8 ⟨⟨v8, rfl, ho8⟩, hb8⟩; obtain ⟨h8, k8, rfl⟩ := agg_of ho8; have hc8 := hcell hb8; have hf8 := hfree hb8; have hz8 := hb8.size; (try simp only [drew_heap] at hz8); (try rw [size_alloc] at hz8); (try have hy8 := Nat.lt_of_succ_le hz8)))
          all_goals
            go_wp2_with fail
            go_meet
            first
              | (refine ⟨w8.heap.size, h8, k8, by with_reducible rfl, ?_⟩; exact ⟨by omega, Lib.hid (gbox_new _ _ _ _), Lib.hid (ho8.at.later ((Below.refl _ _).alloc (Nat.le_refl _) _)), And.right (by assumption)⟩)
              | (refine ⟨w7.heap.size, h8, k8, by with_reducible rfl, ?_⟩
                 have hp := put_in (b := w7.heap.size) ho8 (by rw [size_alloc]; omega) ((zbox w7).below hb8 (by rw [size_alloc]; omega))
                 exact ⟨by omega, Lib.hid hp.1, Lib.hid hp.2.at, And.right (by assumption)⟩)
              | (refine ⟨w2.heap.size, h8, k8, by with_reducible rfl, ?_⟩
                 have hp := put_in (b := w2.heap.size) ho8 (by omega) (((show Box5 (w2.alloc _).drew _ _ _ _ _ _ _ from zbox w2).below hb7 (by rw [drew_heap, size_alloc]; omega)).below hb8 (by omega))
                 exact ⟨by omega, Lib.hid hp.1, Lib.hid hp.2.at, And.right (by assumption)⟩)
        case rest =>
        obtain ⟨w4, rfl⟩ : ∃ w4 : World, w4 = wc := ⟨_, rfl⟩
        obtain ⟨b1, h3, k3, rfl, hb1, kx, gxx, hbx⟩ := hcut
        have hB3 := below_tr hB2 hbx
        have X1' := Lib.hid (X1.out.below hbx (by omega))
        clear c0 c1 c2 c3 c4 e0 e1 e2 f0 f1 f2
        have hsx := hbx.size
        have e0 := row_cell (cur := [_, _, _]) ((hbx.block (w.heap.size + 1) l2).trans X2.out) (k := 0) rfl
        have e1 := row_cell (cur := [_, _, _]) ((hbx.block (w.heap.size + 1) l2).trans X2.out) (k := 1) rfl
        have e2 := row_cell (cur := [_, _, _]) ((hbx.block (w.heap.size + 1) l2).trans X2.out) (k := 2) rfl
        have f0 := row_cell (cur := [_, _, _]) ((hbx.block (w.heap.size + 1 + 1) l3).trans X3.out) (k := 0) rfl
        have f1 := row_cell (cur := [_, _, _]) ((hbx.block (w.heap.size + 1 + 1) l3).trans X3.out) (k := 1) rfl
        have f2 := row_cell (cur := [_, _, _]) ((hbx.block (w.heap.size + 1 + 1) l3).trans X3.out) (k := 2) rfl
        have c0 := X1'.out.c0
        have c1 := X1'.out.c1
        have c2 := X1'.out.c2
        have c3 := X1'.out.c3
        have c4 := X1'.out.c4
        have l1' : w.heap.size < w4.heap.size := by omega
        have l2' : w.heap.size + 1 < w4.heap.size := by omega
        have l3' : w.heap.size + 1 + 1 < w4.heap.size := by omega
        have PB' : ∀ w5, Below w4.heap.size w4 w5 → Hid (Calls Try.prog 16 #[gval g a1 k1, .int .i64 x2, .int .i64 y2, .int .u8 u2] w5 fun e w' => (∃ v', e = .returned v' ∧ OwnGrid w5.heap.size w' v' gb) ∧ Below w5.heap.size w5 w') := fun w5 hb => PB w5 (below_tr hbx hb)
        have lb := kx.out.lt
        clear l1 l2 l3
        go_upto_region 4 with fail
        go_cut [8] (fun s7 wx => ∃ b h3 k3, s7 = .pointer (some ⟨b, 0, none⟩) ∧ w4.heap.size ≤ b ∧ Hid (GBox wx b gx h3 k3) ∧ Hid (GridAt wx.heap.size wx (gval gx h3 k3) gx) ∧ Below w4.heap.size w4 wx)
        case first =>
          go_region_held3 (fun w' => (∀ b o, b < w4.heap.size → w'.cell? ⟨b, o, none⟩ = w4.cell? ⟨b, o, none⟩) ∧ Below w4.heap.size w4 w') (first | with_reducible exact Held.drew | with_reducible exact Held.call (by assumption) (by assumption) rfl | with_reducible exact Held.alloc (by assumption) rfl _ | with_reducible exact Held.allocD rfl _ | with_reducible exact Held.sets (by assumption) (by omega) _ _ _ _ _ | with_reducible exact Held.realloc (by assumption) (by omega) _)
            (first
              | (go_at_call 16; with_reducible (refine (PB' _ (And.right (by assumption))).out.mono ?_); rintro e w7 ⟨⟨v7, rfl, ho7⟩, hb7⟩; have hc7 := hcell hb7; have hf7 := hfree hb7; have hz7 := hb7.size; (try simp only [drew_heap] at hz7); (try rw [size_alloc] at hz7); (try have hy7 := Nat.lt_of_succ_le hz7))
              | (go_at_call 16; with_reducible (refine (PBA _ _ ho7.at).out.mono ?_); rintro e w8 ⟨⟨v8, rfl, ho8⟩, hb8⟩; obtain ⟨h8, k8, rfl⟩ := agg_of ho8; have hc8 := hcell hb8; have hf8 := hfree hb8; have hz8 := hb8.size; (try simp only [drew_heap] at hz8); (try rw [size_alloc] at hz8); (try have hy8 := Nat.lt_of_succ_le hz8))
              | (go_at_call 16; with_reducible (refine (PBA _ _ (ho7.at.later ((Below.refl _ _).alloc (Nat.le_refl _) _))).out.mono ?_); rintro e w8 ⟨⟨v8, rfl, ho8⟩, hb8⟩; obtain ⟨h8, k8, rfl⟩ := agg_of ho8; have hc8 := hcell hb8; have hf8 := hfree hb8; have hz8 := hb8.size; (try simp only [drew_heap] at hz8); (try rw [size_alloc] at hz8); (try have hy8 := Nat.lt_of_succ_le hz8)))
          all_goals
            go_wp2_with fail
            go_meet
            first
              | (refine ⟨w8.heap.size, h8, k8, by with_reducible rfl, ?_⟩; exact ⟨by omega, Lib.hid (gbox_new _ _ _ _), Lib.hid (ho8.at.later ((Below.refl _ _).alloc (Nat.le_refl _) _)), And.right (by assumption)⟩)
              | (refine ⟨w7.heap.size, h8, k8, by with_reducible rfl, ?_⟩
                 have hp := put_in (b := w7.heap.size) ho8 (by rw [size_alloc]; omega) ((zbox w7).below hb8 (by rw [size_alloc]; omega))
                 exact ⟨by omega, Lib.hid hp.1, Lib.hid hp.2.at, And.right (by assumption)⟩)
              | (refine ⟨w4.heap.size, h8, k8, by with_reducible rfl, ?_⟩
                 have hp := put_in (b := w4.heap.size) ho8 (by omega) (((show Box5 (w4.alloc _).drew _ _ _ _ _ _ _ from zbox w4).below hb7 (by rw [drew_heap, size_alloc]; omega)).below hb8 (by omega))
                 exact ⟨by omega, Lib.hid hp.1, Lib.hid hp.2.at, And.right (by assumption)⟩)
        case rest =>
        obtain ⟨w6, rfl⟩ : ∃ w6 : World, w6 = wc := ⟨_, rfl⟩
        obtain ⟨b2, h4, k4, rfl, hb2', kx2, gxx2, hbx2⟩ := hcut
        have hB4 := below_tr hB3 hbx2
        have Y1 := X1'.out.below hbx2 (by omega)
        have Y2 := kx.out.below hbx2 lb
        have Y3 := kx2.out
        have hs6 := hbx2.size
        clear c0 c1 c2 c3 c4 e0 e1 e2 f0 f1 f2
        have c0 := Y1.c0
        have c1 := Y1.c1
        have c2 := Y1.c2
        have c3 := Y1.c3
        have c4 := Y1.c4
        have d0 := Y2.c0
        have d1 := Y2.c1
        have d2 := Y2.c2
        have d3 := Y2.c3
        have d4 := Y2.c4
        have e0 := Y3.c0
        have e1 := Y3.c1
        have e2 := Y3.c2
        have e3 := Y3.c3
        have e4 := Y3.c4
        have m1 : w.heap.size < w6.heap.size := by omega
        have m2 : b1 < w6.heap.size := Y2.lt
        have m3 : b2 < w6.heap.size := Y3.lt
        clear Y1 Y2 Y3 PA PB PAB PBA PB'
        have S1 : ∀ w5, Below w6.heap.size w6 w5 → Hid (Calls Try.prog 23 #[gval gx h3 k3, gval gx h4 k4] w5 fun e w' => e = .returned (.bool true) ∧ Below w5.heap.size w5 w') := by
          intro w5 hb
          have hx := same_any _ _ gx gx w5 ((gxx.out.later hbx2).later hb) (gxx2.out.later hb) sx.1 sx.1
          rw [sameB_self] at hx
          exact Lib.hid hx
        obtain ⟨z, hz⟩ : ∃ z : Int, z = if mayB g = true then 0 else 2 := ⟨_, rfl⟩
        have K1 : ∀ w5, Below w6.heap.size w6 w5 → Hid (Calls Try.prog 17 #[gval gx h3 k3] w5 fun e w' => e = .returned (.int .i64 z) ∧ Below w5.heap.size w5 w') := by
          intro w5 hb
          have hx := check_any _ gx w5 ((gxx.out.later hbx2).later hb) sx
          rw [MX.out, ← hz] at hx
          exact Lib.hid hx
        have K2 : ∀ w5, Below w6.heap.size w6 w5 → Hid (Calls Try.prog 17 #[gval g a1 k1] w5 fun e w' => e = .returned (.int .i64 z) ∧ Below w5.heap.size w5 w') := by
          intro w5 hb
          have hx := check_any _ g w5 ((Hg.out.later hB4).later hb) sg
          rw [← hz] at hx
          exact Lib.hid hx
        have K3 : ∀ w5, Below w6.heap.size w6 w5 → Hid (Calls Try.prog 12 #[] w5 fun e w' => e = .returned (.bool true) ∧ Below w5.heap.size w5 w') := fun w5 _ => Lib.hid (does_any w5)
        clear hz
        obtain ⟨zb, hzb⟩ : ∃ zb, (z == 0) = zb := ⟨_, rfl⟩
        have ez : (zb == zb) = true := by cases zb <;> rfl
        go_upto_region 5 with fail
        go_region_held3 (fun w' => (∀ b o, b < w6.heap.size → w'.cell? ⟨b, o, none⟩ = w6.cell? ⟨b, o, none⟩) ∧ Below w6.heap.size w6 w') (first | with_reducible exact Held.drew | with_reducible exact Held.call (by assumption) (by assumption) rfl)
          (first
            | (go_at_call 23; with_reducible (refine (S1 _ (And.right (by assumption))).out.mono ?_); rintro e w7 ⟨rfl, hb7⟩)
            | (go_at_call 17; with_reducible (refine (K1 _ (And.right (by assumption))).out.mono ?_); rintro e w7 ⟨rfl, hb7⟩)
            | (go_at_call 17; with_reducible (refine (K2 _ (And.right (by assumption))).out.mono ?_); rintro e w7 ⟨rfl, hb7⟩)
            | (go_at_call 12; with_reducible (refine (K3 _ (And.right (by assumption))).out.mono ?_); rintro e w7 ⟨rfl, hb7⟩))
        all_goals
          go_wp2_with fail
          go_ret
          exact ⟨rfl, below_tr hB4 (And.right (by assumption))⟩
end Go.Proofs.Ytnpdpfkoghhioaa
