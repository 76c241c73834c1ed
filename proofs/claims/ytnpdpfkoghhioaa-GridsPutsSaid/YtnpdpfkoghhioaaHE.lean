/- GridsPuts: each cell has what was put there last. -/
import Derived.Test.YtnpdpfkoghhioaaHD
import Derived.StillTailTactics
namespace Go.Proofs.Ytnpdpfkoghhioaa
open Go.RowKit

theorem cells_in {B : Nat} {w : World} {g : G} {h : Option Addr} {k : Nat} (hg : GridAt B w (gval g h k) g) : CellsAt B w (.slice h g.cells.length k) g.cells := by
  obtain ⟨cv, hv, hc⟩ := hg
  injection hv with hv
  simp only [Array.mk.injEq, List.cons.injEq] at hv
  obtain ⟨_, _, rfl, _⟩ := hv
  exact hc
/-- A grid's cells, one by one. -/
theorem cells_each {B : Nat} {w : World} {g : G} {h : Option Addr} {k : Nat} {n m : Nat} (hg : GridAt B w (gval g h k) g) (hm : mayB g = true) (hr : g.rows = n) (hc : g.cols = m) (hn : 0 < n) (hm0 : 0 < m) :
    g.cells.length = n ∧ ∃ b o, h = some ⟨b, o, none⟩ ∧ ∀ i, i < n → ∃ b' o' c', w.cell? ⟨b, o + i, none⟩ = some (.slice (some ⟨b', o', none⟩) m c') ∧ ∀ j, j < m → w.cell? ⟨b', o' + j, none⟩ = some (.int .u8 ((cellG g i j).toNat : Int)) := by
  obtain ⟨p1, p2⟩ := may_parts hm
  have hl : g.cells.length = n := by omega
  refine ⟨hl, ?_⟩
  obtain ⟨a, c, hv, hx⟩ := cells_in hg
  injection hv with e1 e2 e3
  subst e1
  obtain ⟨b, o, ha, _, hrow⟩ := hx (by intro e; rw [e] at hl; simp at hl; omega)
  refine ⟨b, o, ha, fun i hi => ?_⟩
  obtain ⟨rv, q1, a', c', rfl, q2⟩ := hrow i (by omega)
  have hrl := p2 i (by omega)
  obtain ⟨b', o', ha', _, q3⟩ := q2 (by intro e; rw [e] at hrl; simp at hrl; omega)
  refine ⟨b', o', c', by rw [q1, ha', show (g.cells[i]?.getD []).length = m by omega], fun j hj => q3 j (by omega)⟩

set_option maxRecDepth 100000 in
set_option maxHeartbeats 8000000 in
theorem puts_law (a0 a1 : Int) (v : Value) (T : List Cl) (w : World) (h0 : 0 ≤ a0 ∧ a0 < 256) (h1 : 0 ≤ a1 ∧ a1 < 256) (hT : CellListAt w v T) (hTl : T.length ≤ 9223372036854775807)
    (hTb : ∀ x ∈ T, (-9223372036854775808 ≤ x.row ∧ x.row ≤ 9223372036854775807) ∧ (-9223372036854775808 ≤ x.col ∧ x.col ≤ 9223372036854775807)) :
    Calls Try.prog 6 #[.int .u8 a0, .int .u8 a1, v] w fun e w' => e = .returned (.bool true) ∧ Below w.heap.size w w' := by
  obtain ⟨h0a, h0b⟩ := h0
  obtain ⟨h1a, h1b⟩ := h1
  obtain ⟨ta, tc, rfl, hTc⟩ := hT
  have HTc := Lib.hid hTc
  have HTb := Lib.hid hTb
  clear hTc hTb
  obtain ⟨q, hq⟩ : ∃ q, q = T.length := ⟨_, rfl⟩
  have HQ := Lib.hid hq
  rw [← hq] at hTl ⊢
  clear hq
  go_enter Try.func6, Try.ntmps6
  by_cases hq : 200 < q
  · go_wp2_with fail
    go_ret
    exact ⟨rfl, Below.refl _ _⟩
  · go_wp2_with fail
    obtain ⟨n, hn⟩ : ∃ n : Nat, 2 + a0 % 59 = (n : Int) := ⟨(2 + a0 % 59).toNat, by omega⟩
    obtain ⟨m, hm⟩ : ∃ m : Nat, 8 + a1 % 125 = (m : Int) := ⟨(8 + a1 % 125).toNat, by omega⟩
    simp only [hn, hm]
    have n1 : 2 ≤ n := by omega
    have n2 : n ≤ 60 := by omega
    have m1 : 8 ≤ m := by omega
    have m2 : m ≤ 132 := by omega
    clear hn hm
    obtain ⟨g, hg⟩ : ∃ g : G, g = ⟨(n : Int), (m : Int), List.replicate n (List.replicate m 32), 0, 0⟩ := ⟨_, rfl⟩
    have C1 : ∀ w, Hid (Calls Try.prog 9 #[.int .i64 n, .int .i64 m] w fun e w' => (∃ gv, e = .returned (.tuple #[gv, .int .i64 0]) ∧ OwnGrid w.heap.size w' gv g) ∧ Below w.heap.size w w') := by
      intro w
      have hx := new_any n m w
      rw [if_pos (size_ok ⟨n1, n2⟩ ⟨m1, m2⟩), if_pos (size_ok ⟨n1, n2⟩ ⟨m1, m2⟩), newG_eq, ← hg] at hx
      exact Lib.hid hx
    have HG := Lib.hid hg
    clear hg
    (with_reducible refine (C1 _).out.mono ?_); rintro e w2 ⟨⟨v2, rfl, ho2⟩, hb2⟩
    obtain ⟨ha, hc, rfl⟩ := agg_of ho2
    go_wp2_with fail
    generalize hW3 : World.alloc (World.alloc w2 _) _ = W3
    have hs3 : W3.heap.size = w2.heap.size + 2 := by rw [← hW3, size_alloc, size_alloc]
    have x9 : GBox W3 w2.heap.size g ha hc := by rw [← hW3]; unfold GBox Box5; rw [heap_alloc, if_neg (by rw [size_alloc]; omega), heap_alloc, if_pos rfl]
    have x11 : GBox W3 (w2.heap.size + 1) g ha hc := by rw [← hW3]; unfold GBox Box5; rw [heap_alloc, if_pos (by rw [size_alloc])]
    have hB3 : Below w2.heap.size w2 W3 := by rw [← hW3]; exact ((Below.refl _ _).alloc (Nat.le_refl _) _).alloc (by rw [size_alloc]; omega) _
    have X9 := Lib.hid x9
    have X11 := Lib.hid x11
    have GR := Lib.hid ho2.at
    have Hs3 := Lib.hid hs3
    have hz2 := hb2.size
    clear hW3 x9 x11 ho2 hs3
    have hl9 : w2.heap.size < W3.heap.size := by rw [Hs3.out]; omega
    have hl11 : w2.heap.size + 1 < W3.heap.size := by rw [Hs3.out]; omega
    go_loopw [12] (fun i wr => ∃ j h3 k3, j ≤ q ∧ i = .int .i64 (j : Nat) ∧ Hid (GBox wr w2.heap.size (gFold g T j) h3 k3) ∧ Hid (GridAt wr.heap.size wr (gval (gFold g T j) h3 k3) (gFold g T j)) ∧ Hid (GBox wr (w2.heap.size + 1) g ha hc) ∧ Below w2.heap.size w2 wr ∧ W3.heap.size ≤ wr.heap.size) (fun i _ => q - (intOf i).toNat)
    case atStart => exact ⟨0, ha, hc, Nat.zero_le _, rfl, X9, Lib.hid (GR.out.later hB3), X11, hB3, Nat.le_refl _⟩
    case round =>
      obtain ⟨j, h3, k3, hj, rfl, x9, gr, x11, hbel, hsz⟩ := hrel
      by_cases hjq : j < q
      · obtain ⟨tb, tq, rfl, ht1, ht2⟩ := HTc.out (by intro e; have := HQ.out; rw [e] at this; simp at this; omega)
        have hjT : j < T.length := by rw [← HQ.out]; exact hjq
        obtain ⟨t0, t1, t2⟩ := ht2 j hjT
        have hbw : Below w.heap.size w wr := below_tr hb2 hbel
        have e0 := (hbw.cell (p := ⟨tb, tq + j * 3, none⟩) ht1).trans t0
        have e1 := (hbw.cell (p := ⟨tb, tq + j * 3 + 1, none⟩) ht1).trans t1
        have e2 := (hbw.cell (p := ⟨tb, tq + j * 3 + 2, none⟩) ht1).trans t2
        obtain ⟨c, hcl⟩ : ∃ c, c = T[j] := ⟨_, rfl⟩
        obtain ⟨gj, hgj⟩ : ∃ gj, gj = gFold g T j := ⟨_, rfl⟩
        have HS := gFold_succ g T j hjT
        obtain ⟨f1, f2, f3, f4, _⟩ := fold_law ⟨n1, n2⟩ ⟨m1, m2⟩ T g HG.out j
        rw [← hcl, ← hgj] at HS
        rw [← hcl] at e0 e1 e2
        rw [← hgj] at x9 gr f1 f4
        obtain ⟨gk, hgk⟩ : ∃ gk, gk = gFold g T (j + 1) := ⟨_, rfl⟩
        obtain ⟨p1, p2, p3, p4, _⟩ := fold_law ⟨n1, n2⟩ ⟨m1, m2⟩ T g HG.out (j + 1)
        rw [← hgk] at HS p1 p4
        have HGK := Lib.hid hgk
        clear ht2 t0 t1 t2 hcl hgj hgk f1 f2 f3 p2 p3
        have P1 : ∀ w5, Below wr.heap.size wr w5 → Hid (Calls Try.prog 16 #[gval gj h3 k3, .int .i64 c.row, .int .i64 c.col, .int .u8 (c.c.toNat : Int)] w5 fun e w' => (∃ v', e = .returned v' ∧ OwnGrid w5.heap.size w' v' gk) ∧ Below w5.heap.size w5 w') := fun w5 hb => by rw [HS]; exact Lib.hid (put_any _ gj c.row c.col c.c w5 (gr.out.later hb) f4)
        clear HS
        have c0 := x9.out.c0
        have c1 := x9.out.c1
        have c2 := x9.out.c2
        have c3 := x9.out.c3
        have c4 := x9.out.c4
        go_wp2_with fail
        go_still_tail 16, (by kernel_rfl)
        change wpList _ _ _ _ _ (World.drew wr)
        go_wp2_with fail
        (with_reducible refine (P1 _ (Below.refl _ _).drew).out.mono ?_); rintro e w5 ⟨⟨v5, rfl, ho5⟩, hb5⟩
        obtain ⟨h5, k5, rfl⟩ := agg_of ho5
        have k9 : GBox w5 w2.heap.size gj h3 k3 := (show GBox wr.drew w2.heap.size gj h3 k3 from x9.out).below hb5 (by show _ < wr.heap.size; omega)
        have hx := put_in (b := w2.heap.size) ho5 (by show _ < wr.heap.size; omega) k9
        have d0 := k9.c0
        have d1 := k9.c1
        have d2 := k9.c2
        have d3 := k9.c3
        have d4 := k9.c4
        have r0 := k9.free 0
        have r1 := k9.free 1
        have r2 := k9.free 2
        have r3 := k9.free 3
        have r4 := k9.free 4
        obtain ⟨hx1, hx2⟩ := hx
        have hx3 := hx2.at
        have HX1 := Lib.hid hx1
        have HX3 := Lib.hid hx3
        have hbW : Below w2.heap.size w2 (((((w5.setCell ⟨w2.heap.size, 0, none⟩ (.int .i64 gk.rows)).setCell ⟨w2.heap.size, 1, none⟩ (.int .i64 gk.cols)).setCell ⟨w2.heap.size, 2, none⟩ (.slice h5 gk.cells.length k5)).setCell ⟨w2.heap.size, 3, none⟩ (.int .i64 gk.row)).setCell ⟨w2.heap.size, 4, none⟩ (.int .i64 gk.col)) :=
          Below_sets (hbel.trans ((below_drew hb5).mono (by omega))) _ (Nat.le_refl _) _ _ _ _ _
        have HBW := Lib.hid hbW
        have HX11 := Lib.hid (show GBox (((((w5.setCell ⟨w2.heap.size, 0, none⟩ (.int .i64 gk.rows)).setCell ⟨w2.heap.size, 1, none⟩ (.int .i64 gk.cols)).setCell ⟨w2.heap.size, 2, none⟩ (.slice h5 gk.cells.length k5)).setCell ⟨w2.heap.size, 3, none⟩ (.int .i64 gk.row)).setCell ⟨w2.heap.size, 4, none⟩ (.int .i64 gk.col)) (w2.heap.size + 1) g ha hc by
          unfold GBox Box5; rw [sets_other _ _ _ _ _ _ _ _ (by omega)]; exact ((show GBox wr.drew (w2.heap.size + 1) g ha hc from x11.out).below hb5 (by show _ < wr.heap.size; omega)))
        clear k9 hx1 hx2 hx3 hbW
        have P1' := Lib.hid p1
        clear p1
        go_wp2_with fail
        generalize hW6 : World.setCell (World.setCell (World.setCell (World.setCell (World.setCell w5 _ _) _ _) _ _) _ _) _ _ = W6 at HX1 HX3 HBW HX11 ⊢
        have hs6 : W3.heap.size ≤ W6.heap.size := by
          have h1 : W6.heap.size = w5.heap.size := by rw [← hW6]; simp [World.setCell]
          have h2 : wr.heap.size ≤ w5.heap.size := hb5.size
          omega
        clear hW6 d0 d1 d2 d3 d4 r0 r1 r2 r3 r4 c0 c1 c2 c3 c4 e0 e1 e2
        have K1 : Hid (Calls Try.prog 17 #[gval gk h5 k5] W6 fun e w' => e = .returned (.int .i64 0) ∧ Below W6.heap.size W6 w') := by
          have hx := check_any _ gk W6 HX3.out p4
          rw [if_pos P1'.out] at hx
          exact Lib.hid hx
        (with_reducible refine K1.out.mono ?_); rintro e w7 ⟨rfl, hb7⟩
        go_wp2_with fail
        go_roundw
        case rel => exact ⟨j + 1, h5, k5, by omega, by go_num, Lib.hid (by rw [← HGK.out]; exact HX1.out.below hb7 HX1.out.lt), Lib.hid (by rw [← HGK.out]; exact HX3.out.later hb7), Lib.hid (HX11.out.below hb7 HX11.out.lt), HBW.out.trans (hb7.mono (by omega)), Nat.le_trans hs6 hb7.size⟩
        case measure => simp [intOf]; omega
      · obtain rfl : j = q := by omega
        obtain ⟨p1, p2, p3, _, p5⟩ := fold_law ⟨n1, n2⟩ ⟨m1, m2⟩ T g HG.out j
        obtain ⟨gF, hgF⟩ : ∃ gF, gF = gFold g T j := ⟨_, rfl⟩
        rw [← hgF] at p1 p2 p3 x9 gr
        simp only [← hgF] at p5
        obtain ⟨lF, bF, oF, rfl, hF⟩ := cells_each gr.out p1 p2 p3 (by omega) (by omega)
        have gr0 := GR.out.below hbel
        obtain ⟨z1, z2, z3, _, z5⟩ := fold_law ⟨n1, n2⟩ ⟨m1, m2⟩ T g HG.out 0
        obtain ⟨l0, b0, o0, rfl, hF0⟩ := cells_each gr0 z1 z2 z3 (by omega) (by omega)
        have hF0' : ∀ i, i < n → ∃ b' o' c', wr.cell? ⟨b0, o0 + i, none⟩ = some (.slice (some ⟨b', o', none⟩) m c') ∧ ∀ j, j < m → wr.cell? ⟨b', o' + j, none⟩ = some (.int .u8 32) := by
          intro i hi
          obtain ⟨b', o', c', e1, e2⟩ := hF0 i hi
          refine ⟨b', o', c', e1, fun k hk => ?_⟩
          rw [e2 k hk, show cellG g i k = 32 from z5 i k hi hk]; rfl
        have hF' : ∀ i, i < n → ∃ b' o' c', wr.cell? ⟨bF, oF + i, none⟩ = some (.slice (some ⟨b', o', none⟩) m c') ∧ ∀ k, k < m → wr.cell? ⟨b', o' + k, none⟩ = some (.int .u8 ((wantC T i k j).toNat : Int)) := by
          intro i hi
          obtain ⟨b', o', c', e1, e2⟩ := hF i hi
          refine ⟨b', o', c', e1, fun k hk => ?_⟩
          rw [e2 k hk, p5 i k hi hk]
        have HF := Lib.hid hF'
        have HF0 := Lib.hid hF0'
        have f2 := x9.out.c2
        have g2 := x11.out.c2
        rw [lF] at f2
        rw [l0] at g2
        have HB := below_tr hb2 hbel
        clear hF hF0 hF' hF0' gr0 gr p1 p2 p3 p5 z1 z2 z3 z5 lF l0 x9 x11 hgF X9 X11 GR Hs3 HG hbel
        go_wp2_with fail
        go_loop [13, 14, 15, 16] (fun i _ _ _ => ∃ k : Nat, k ≤ n ∧ i = .int .i64 k) (fun i _ _ _ => n - (intOf i).toNat)
        case atStart => exact ⟨0, Nat.zero_le _, rfl⟩
        case round =>
          obtain ⟨ki, hki, rfl⟩ := hrel
          by_cases hlt : ki < n
          · obtain ⟨rb, ro, rc, w1, w2'⟩ := HF.out ki hlt
            obtain ⟨sb, so, sc, v1, v2'⟩ := HF0.out ki hlt
            have W2' := Lib.hid w2'
            have V2' := Lib.hid v2'
            clear w2' v2'
            go_wp2_with fail
            go_loop [14, 15, 16] (fun i _ _ => ∃ k : Nat, k ≤ m ∧ i = .int .i64 k) (fun i _ _ => m - (intOf i).toNat)
            case atStart => exact ⟨0, Nat.zero_le _, rfl⟩
            case round =>
              obtain ⟨kk, hkk, rfl⟩ := hrel
              by_cases hlk : kk < m
              · have y1 := W2'.out kk hlk
                have y2 := V2'.out kk hlk
                go_wp2_with fail
                go_loop [15, 16] (fun c i => ∃ jj : Nat, jj ≤ j ∧ i = .int .i64 jj ∧ c = .int .u8 ((wantC T ki kk jj).toNat : Int)) (fun _ i => j - (intOf i).toNat)
                case atStart => exact ⟨0, Nat.zero_le _, rfl, rfl⟩
                case round =>
                  obtain ⟨jj, hjj, rfl, rfl⟩ := hrel
                  by_cases hlj : jj < j
                  · obtain ⟨tb, tq, rfl, ht1, ht2⟩ := HTc.out (by intro e; have := HQ.out; rw [e] at this; simp at this; omega)
                    have hjT : jj < T.length := by rw [← HQ.out]; exact hlj
                    obtain ⟨t0, t1, t2⟩ := ht2 jj hjT
                    have e0 := (HB.cell (p := ⟨tb, tq + jj * 3, none⟩) ht1).trans t0
                    have e1 := (HB.cell (p := ⟨tb, tq + jj * 3 + 1, none⟩) ht1).trans t1
                    have e2 := (HB.cell (p := ⟨tb, tq + jj * 3 + 2, none⟩) ht1).trans t2
                    have hw := wantC_succ T ki kk jj hjT
                    obtain ⟨c, hcl⟩ : ∃ c, c = T[jj] := ⟨_, rfl⟩
                    rw [← hcl] at hw e0 e1 e2
                    obtain ⟨cr, cc, ch⟩ := c
                    simp only at hw e0 e1 e2
                    have hpl := plain_int ch
                    obtain ⟨u, hu⟩ : ∃ u : Int, u = (ch.toNat : Int) := ⟨_, rfl⟩
                    rw [← hu] at e2 hpl
                    have Hu := Lib.hid hu
                    have HW := Lib.hid hw
                    have HP := Lib.hid hpl
                    clear ht2 t0 t1 t2 hcl hu hw hpl y1 y2 w1 v1 f2 g2
                    by_cases s1 : cr = (ki : Int)
                    · by_cases s2 : cc = (kk : Int)
                      · by_cases s3 : 32 ≤ u
                        · by_cases s4 : u ≤ 126
                          · have hyes : Hid (wantC T ki kk (jj + 1) = ch) := Lib.hid (by rw [HW.out, if_pos ⟨s1, s2, by rw [HP.out]; simp [s3, s4]⟩])
                            subst s1 s2
                            go_wp2_with fail
                            go_round
                            case rel => exact ⟨jj + 1, by omega, by go_num, by rw [hyes.out, Hu.out]⟩
                            case measure => simp [intOf]; omega
                          · have hno : Hid (wantC T ki kk (jj + 1) = wantC T ki kk jj) := Lib.hid (by rw [HW.out, if_neg (by intro h; have := h.2.2; rw [HP.out] at this; simp [s4] at this)])
                            have d4 : decide (u ≤ 126) = false := by simp; omega
                            subst s1 s2
                            go_wp2_with fail
                            go_round
                            case rel => exact ⟨jj + 1, by omega, by go_num, by rw [hno.out]⟩
                            case measure => simp [intOf]; omega
                        · have hno : Hid (wantC T ki kk (jj + 1) = wantC T ki kk jj) := Lib.hid (by rw [HW.out, if_neg (by intro h; have := h.2.2; rw [HP.out] at this; simp [s3] at this)])
                          have d4 : decide (32 ≤ u) = false := by simp; omega
                          subst s1 s2
                          go_wp2_with fail
                          go_round
                          case rel => exact ⟨jj + 1, by omega, by go_num, by rw [hno.out]⟩
                          case measure => simp [intOf]; omega
                      · have hno : Hid (wantC T ki kk (jj + 1) = wantC T ki kk jj) := Lib.hid (by rw [HW.out, if_neg (by intro h; exact s2 h.2.1)])
                        have d4 : (cc == (kk : Int)) = false := by simp [s2]
                        subst s1
                        go_wp2_with fail
                        go_round
                        case rel => exact ⟨jj + 1, by omega, by go_num, by rw [hno.out]⟩
                        case measure => simp [intOf]; omega
                    · have hno : Hid (wantC T ki kk (jj + 1) = wantC T ki kk jj) := Lib.hid (by rw [HW.out, if_neg (by intro h; exact s1 h.1)])
                      have d4 : (cr == (ki : Int)) = false := by simp [s1]
                      go_wp2_with fail
                      go_round
                      case rel => exact ⟨jj + 1, by omega, by go_num, by rw [hno.out]⟩
                      case measure => simp [intOf]; omega
                  · obtain rfl : jj = j := by omega
                    go_wp2_with fail
                    go_round
                    case rel => exact ⟨kk + 1, by omega, by go_num⟩
                    case measure => simp [intOf]; omega
              · obtain rfl : kk = m := by omega
                go_wp2_with fail
                go_round
                case rel => exact ⟨ki + 1, by omega, by go_num⟩
                case measure => simp [intOf]; omega
          · obtain rfl : ki = n := by omega
            go_wp2_with fail
            (with_reducible refine (does_any _).mono ?_); rintro e w7 ⟨rfl, hb7⟩
            go_wp2_with fail
            go_ret
            exact ⟨rfl, below_tr HB hb7⟩
end Go.Proofs.Ytnpdpfkoghhioaa
