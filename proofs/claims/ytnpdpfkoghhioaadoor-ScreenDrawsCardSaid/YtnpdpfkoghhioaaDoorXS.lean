/- The chapter's screens: Draw. -/
import Derived.Test.YtnpdpfkoghhioaaDoorXZB
namespace Go.Proofs.YtnpdpfkoghhioaaDoor
open Go.RowKit

set_option maxRecDepth 100000 in
set_option maxHeartbeats 32000000 in
theorem rdraw_any (s : SH) (v : Value) (w : World) (hT : TabOK w) (h : ShowAt w v s) (hl : Lim s) (hl12 : s.lines.length ≤ 12) (top : Int) :
    Calls Tryd.prog 18 #[v, .int .i64 top] w fun e w' => (∃ gv, e = .returned (.tuple #[gv, .int .i64 (drawE s top)]) ∧ OwnGrid w.heap.size w' gv (if drawE s top = 0 then drawG s top.toNat else zeroG)) ∧ Below w.heap.size w w' := by
  have CC := fun wx hx => Lib.hid (rcheck_any s v wx hx hl)
  obtain ⟨QQ, hQQ⟩ : ∃ QQ : Ending → World → Prop, QQ = fun e w' => (∃ gv, e = .returned (.tuple #[gv, .int .i64 (drawE s top)]) ∧ OwnGrid w.heap.size w' gv (if drawE s top = 0 then drawG s top.toNat else zeroG)) ∧ Below w.heap.size w w' := ⟨_, rfl⟩
  have HQQ := Lib.hid hQQ
  rw [← hQQ]
  clear hQQ
  have FIN2 : Hid (drawE s top = 2 → ∀ W', Below w.heap.size w W' → QQ (.returned (.tuple #[.agg #[.int .i64 0, .int .i64 0, .slice none 0 0, .int .i64 0, .int .i64 0], .int .i64 2])) W') := Lib.hid (fun h W' hb => by
    rw [HQQ.out, h, if_neg (by decide)]
    exact ⟨⟨_, rfl, own_zero _ _⟩, hb⟩)
  rcases check_or s with hch | hch
  · obtain ⟨a, c, rfl, hX⟩ := h
    have HX := Lib.hid hX
    have HTB := Lib.hid hT
    obtain ⟨n, hn⟩ : ∃ n, n = s.lines.length := ⟨_, rfl⟩
    have HN := Lib.hid hn
    obtain ⟨line, hline⟩ : ∃ x, x = s.line := ⟨_, rfl⟩
    have HLI := Lib.hid hline
    rw [hch] at CC
    have hF := fit_of hl hch
    have hkk := (check_ok hch).2
    have HF := Lib.hid hF
    obtain ⟨R, hR⟩ : ∃ R : Nat, s.rows = (R : Int) := ⟨s.rows.toNat, by have := hF.r2; omega⟩
    obtain ⟨C, hC⟩ : ∃ C : Nat, s.cols = (C : Int) := ⟨s.cols.toNat, by have := hF.c8; omega⟩
    have hR2 : 2 ≤ R ∧ R ≤ 60 := by have := hF.r2; have := hF.r60; omega
    have hC2 : 8 ≤ C ∧ C ≤ 132 := by have := hF.c8; have := hF.c132; omega
    have HR := Lib.hid hR
    have HC := Lib.hid hC
    have hn1 := hl.n
    have hn12 := hl12
    have hpos : (line = 0 ∧ n = 0) ∨ (1 ≤ line ∧ line ≤ n) := by
      rw [hline, hn]
      rcases hkk with h | h
      · exact .inl ⟨h.1, h.2.2⟩
      · exact .inr ⟨h.2.1, h.2.2.1⟩
    rw [← hn] at HX CC hn1 hn12 ⊢
    rw [← hline] at CC ⊢
    rw [hR, hC] at CC ⊢
    have HSV : Hid (∀ wx, TextsAt wx (.slice a n c) s.lines → ShowAt wx (.agg #[.slice a n c, .int .i64 line, .int .i64 s.col, .string s.status, .bool s.typing, .int .i64 (R : Int), .int .i64 (C : Int)]) s) := Lib.hid (fun wx hx => ⟨a, c, by rw [← hn, ← hline, hR, hC], by rw [← hn]; exact hx⟩)
    have hsz : sizedB s.rows s.cols = true := by
      rw [hR, hC]; simp [sizedB]; omega
    have HSZ := Lib.hid hsz
    have HE : Hid (drawE s top = if top < 1 ∨ max (n : Int) 1 < top then 2 else 0) := Lib.hid (by rw [drawE, if_pos hch, hn])
    clear hX hT hn hline hch hl hF hkk hR hC hsz
    have CC2 : Hid (∀ wx, Below w.heap.size w wx → Calls Tryd.prog 36 #[.agg #[.slice a n c, .int .i64 line, .int .i64 s.col, .string s.status, .bool s.typing, .int .i64 (R : Int), .int .i64 (C : Int)]] wx fun e w' => e = .returned (.int .i64 0) ∧ Below wx.heap.size wx w') := Lib.hid (fun wx hb => (CC wx (HSV.out wx (HX.out.later hb))).out)
    clear CC
    go_enter Tryd.func18, Tryd.ntmps18
    go_upto_region 1 with fail
    obtain ⟨W, hW, hbW, hsW, hbox, hbox5⟩ := box75_new w (.slice a n c) (.int .i64 line) (.int .i64 s.col) (.string s.status) (.bool s.typing) (.int .i64 (R : Int)) (.int .i64 (C : Int)) 33 37
    rw [hW]
    clear hW
    have HB := Lib.hid hbox
    have HBW := Lib.hid hbW
    have HB50 := Lib.hid hbox5
    have x0 := hbox.c0
    have x1 := hbox.c1
    have x2 := hbox.c2
    have x3 := hbox.c3
    have x4 := hbox.c4
    have x5 := hbox.c5
    have x6 := hbox.c6
    clear hbox hsW hbox5
    obtain ⟨B0, hB0⟩ : ∃ B, B = w.heap.size := ⟨_, rfl⟩
    have HB0 := Lib.hid hB0
    rw [← hB0] at HB HB50 x0 x1 x2 x3 x4 x5 x6 ⊢
    clear hB0
    obtain ⟨B4, hB4⟩ : ∃ B, B = B0 + 1 := ⟨_, rfl⟩
    have HB04 := Lib.hid hB4
    rw [← hB4] at HB50 ⊢
    clear hB4
    have HB4 : Hid (w.heap.size ≤ B4) := Lib.hid (by have := HB0.out; have := HB04.out; omega)
    have C1 := CC2.out W hbW
    clear CC2
    go_wp2_with fail
    (with_reducible refine C1.mono ?_); rintro e w1 ⟨rfl, hb1⟩
    have HBEL : Hid (Below w.heap.size w w1) := Lib.hid (below_tr hbW hb1)
    have HB5 : Hid (Box5 w1 B4 37 (.int .i64 0) (.int .i64 0) (.slice none 0 0) (.int .i64 0) (.int .i64 0)) := Lib.hid (HB50.out.below hb1 HB50.out.lt')
    have HB1 := Lib.hid (HB.out.later hb1)
    clear C1 x0 x1 x2 x3 x4 x5 x6
    have HKN : Hid (∀ wx, Below w1.heap.size w1 wx → Box7 wx B0 33 (.slice a n c) (.int .i64 line) (.int .i64 s.col) (.string s.status) (.bool s.typing) (.int .i64 (R : Int)) (.int .i64 (C : Int)) ∧ Box5 wx B4 37 (.int .i64 0) (.int .i64 0) (.slice none 0 0) (.int .i64 0) (.int .i64 0) ∧ TextsAt wx (.slice a n c) s.lines ∧ TabOK wx) := Lib.hid (fun wx hb =>
      ⟨HB1.out.later hb, HB5.out.below hb HB5.out.lt', (HX.out.later HBEL.out).later hb, (HTB.out.later HBEL.out).later hb⟩)
    have x0 := HB1.out.c0
    have x5 := HB1.out.c5
    have x6 := HB1.out.c6
    by_cases ht1 : top < 1
    · have hd1 : decide (top < 1) = true := decide_eq_true ht1
      have HE2 : Hid (drawE s top = 2) := Lib.hid (by rw [HE.out, if_pos (.inl ht1)])
      have b0 := HB5.out.c0
      have b1 := HB5.out.c1
      have b2 := HB5.out.c2
      have b3 := HB5.out.c3
      have b4 := HB5.out.c4
      have f0 := HB5.out.free 0
      have f1 := HB5.out.free 1
      have f2 := HB5.out.free 2
      have f3 := HB5.out.free 3
      have f4 := HB5.out.free 4
      go_upto_region 6 with fail
      rename_i KK hKK
      have HKK := Lib.hid hKK
      clear hKK
      go_wp2_with fail
      refine HKK.out _ _ ?_
      apply wp_ret
      generalize hW' : World.setCell (World.setCell (World.setCell (World.setCell (World.setCell _ _ _) _ _) _ _) _ _) _ _ = W'
      have hbox : Box5 W' B4 37 (.int .i64 0) (.int .i64 0) (.slice none 0 0) (.int .i64 0) (.int .i64 0) := by rw [← hW']; exact HB5.out.sets _ _ _ _ _
      have hoth : ∀ c : Nat, c ≠ B4 → W'.heap[c]? = w1.heap[c]? := fun c hc => by rw [← hW']; exact sets_other _ _ _ _ _ _ _ _ hc
      have hbelW : Below w.heap.size w W' := by rw [← hW']; exact Below_sets HBEL.out _ HB4.out _ _ _ _ _
      clear hW' b0 b1 b2 b3 b4 f0 f1 f2 f3 f4
      have a0 := hbox.c0
      have a1 := hbox.c1
      have a2 := hbox.c2
      have a3 := hbox.c3
      have a4 := hbox.c4
      have Hoth := Lib.hid hoth
      clear hoth
      refine bodyPost_ret (by simp [results, Tryd.results18, go_sem, a0, a1, a2, a3, a4]; try rfl) rfl ?_
      exact FIN2.out HE2.out _ hbelW
    have hd1 : decide (top < 1) = false := decide_eq_false ht1
    by_cases ht2 : max (n : Int) 1 < top
    · have hd2 : decide (max (n : Int) 1 < top) = true := decide_eq_true ht2
      have HE2 : Hid (drawE s top = 2) := Lib.hid (by rw [HE.out, if_pos (.inr ht2)])
      have b0 := HB5.out.c0
      have b1 := HB5.out.c1
      have b2 := HB5.out.c2
      have b3 := HB5.out.c3
      have b4 := HB5.out.c4
      have f0 := HB5.out.free 0
      have f1 := HB5.out.free 1
      have f2 := HB5.out.free 2
      have f3 := HB5.out.free 3
      have f4 := HB5.out.free 4
      go_upto_region 6 with fail
      rename_i KK hKK
      have HKK := Lib.hid hKK
      clear hKK
      go_wp2_with fail
      refine HKK.out _ _ ?_
      apply wp_ret
      generalize hW' : World.setCell (World.setCell (World.setCell (World.setCell (World.setCell _ _ _) _ _) _ _) _ _) _ _ = W'
      have hbox : Box5 W' B4 37 (.int .i64 0) (.int .i64 0) (.slice none 0 0) (.int .i64 0) (.int .i64 0) := by rw [← hW']; exact HB5.out.sets _ _ _ _ _
      have hoth : ∀ c : Nat, c ≠ B4 → W'.heap[c]? = w1.heap[c]? := fun c hc => by rw [← hW']; exact sets_other _ _ _ _ _ _ _ _ hc
      have hbelW : Below w.heap.size w W' := by rw [← hW']; exact Below_sets HBEL.out _ HB4.out _ _ _ _ _
      clear hW' b0 b1 b2 b3 b4 f0 f1 f2 f3 f4
      have a0 := hbox.c0
      have a1 := hbox.c1
      have a2 := hbox.c2
      have a3 := hbox.c3
      have a4 := hbox.c4
      have Hoth := Lib.hid hoth
      clear hoth
      refine bodyPost_ret (by simp [results, Tryd.results18, go_sem, a0, a1, a2, a3, a4]; try rfl) rfl ?_
      exact FIN2.out HE2.out _ hbelW
    have hd2 : decide (max (n : Int) 1 < top) = false := decide_eq_false ht2
    have HE0 : Hid (drawE s top = 0) := Lib.hid (by rw [HE.out, if_neg (by rintro (h | h); exact ht1 h; exact ht2 h)])
    obtain ⟨tp, rfl⟩ : ∃ tp : Nat, top = (tp : Int) := ⟨top.toNat, by omega⟩
    have htp : 1 ≤ tp ∧ tp ≤ 1000 ∧ (tp ≤ n ∨ (tp = 1 ∧ n = 0)) := by omega
    have CNW : Hid (Calls Tryd.prog 41 #[.int .i64 (R : Int), .int .i64 (C : Int)] w1 fun e w' => (∃ gv, e = .returned (.tuple #[gv, .int .i64 0]) ∧ OwnGrid w1.heap.size w' gv (newG s.rows s.cols)) ∧ Below w1.heap.size w1 w') := Lib.hid (by
      have h0 := rnew_any s.rows s.cols w1
      simp only [HSZ.out, if_true] at h0
      rw [HR.out, HC.out] at h0 ⊢
      exact h0)
    clear HE
    go_wp2_with fail
    (with_reducible refine CNW.out.mono ?_); rintro e w2 ⟨⟨gv, rfl, hg⟩, hb2⟩
    have hg0 := hg
    obtain ⟨ga, gcap, rfl, _⟩ := hg
    obtain ⟨hb, rb, ro, rc, hga, hst⟩ := DI.start HF.out hg0 hb2
    subst hga
    clear CNW hg0 x0 x5 x6
    go_upto_region 9 with fail
    generalize hW3 : World.alloc w2 _ = W3
    have hDI := hst W3 hW3.symm
    have hR0 : s.rows.toNat = R := by rw [HR.out]; rfl
    have hC0 : s.cols.toNat = C := by rw [HC.out]; rfl
    rw [hR0, hC0] at hDI
    have HD3 := Lib.hid hDI
    clear hW3 hst hDI hR0 hC0
    obtain ⟨B2, hB2⟩ : ∃ B, B = w1.heap.size := ⟨_, rfl⟩
    have HB2 := Lib.hid hB2
    rw [← hB2] at HD3 hb2
    clear hB2
    obtain ⟨GB, hGB⟩ : ∃ B, B = w2.heap.size := ⟨_, rfl⟩
    rw [← hGB] at HD3 ⊢
    clear hGB hb2
    have HKB : Hid (∀ wx, Below B2 w1 wx → Below w1.heap.size w1 wx) := Lib.hid (fun wx hb => by have := HB2.out; subst this; exact hb)
    have HS7 : Hid (∀ wx, Below B2 w1 wx → (wx.cell? ⟨B0, 0, none⟩ = some (.slice a n c) ∧ wx.cell? ⟨B0, 1, none⟩ = some (.int .i64 line) ∧ wx.cell? ⟨B0, 2, none⟩ = some (.int .i64 s.col) ∧ wx.cell? ⟨B0, 3, none⟩ = some (.string s.status) ∧ wx.cell? ⟨B0, 4, none⟩ = some (.bool s.typing) ∧ wx.cell? ⟨B0, 5, none⟩ = some (.int .i64 (R : Int)) ∧ wx.cell? ⟨B0, 6, none⟩ = some (.int .i64 (C : Int))) ∧ Below B2 w1 wx) := Lib.hid (fun wx hb => by
      obtain ⟨g, _⟩ := HKN.out wx (HKB.out wx hb)
      exact ⟨⟨g.c0, g.c1, g.c2, g.c3, g.c4, g.c5, g.c6⟩, hb⟩)
    have CND : Hid (∀ wx, Below B2 w1 wx → line = (tp : Int) → Calls Tryd.prog 37 #[.agg #[.slice a n c, .int .i64 line, .int .i64 s.col, .string s.status, .bool s.typing, .int .i64 (R : Int), .int .i64 (C : Int)], .int .i64 (tp : Nat)] wx fun e w' => (e = .returned (.int .i64 ((need s tp : Nat) : Int)) ∧ need s tp ≤ 10000000) ∧ Below wx.heap.size wx w') := Lib.hid (fun wx hbx hlt => by
      obtain ⟨g1, g2, g3, g4⟩ := HKN.out wx (HKB.out wx hbx)
      exact rneed_any s _ wx g4 (HSV.out wx g3) HF.out (by rw [← HLI.out, ← HN.out]; omega) tp htp.1 (by omega))
    have hbel3 := HD3.out.bel
    have hwr : IntKind.i64.wrap ((R : Int) - 1) = (R : Int) - 1 := IntWalk.i64_in _ ⟨by omega, by omega⟩
    go_cut [56] from 48 (fun s56 wx => ∃ q : Bool, s56 = .bool q ∧ Hid (q = true → line = (tp : Int)) ∧ Hid (q = false → skipS s tp = 0) ∧ Below W3.heap.size W3 wx)
    case first =>
      obtain ⟨⟨y0, y1, y2, y3, y4, y5, y6⟩, _⟩ := HS7.out W3 hbel3
      by_cases hn0 : 0 < n
      · have hn3 : (0 : Int) < (n : Int) := by omega
        by_cases hlt : line = (tp : Int)
        · have HLT := Lib.hid hlt
          have hd3 : ((tp : Int) == line) = true := by simp; omega
          clear hlt
          go_wp2_with fail
          go_meet
          exact ⟨true, rfl, Lib.hid (fun _ => HLT.out), Lib.hid (fun h => by cases h), Below.refl _ _⟩
        · have HSK : Hid (skipS s tp = 0) := Lib.hid (by unfold skipS; rw [if_neg (by rw [← HLI.out]; exact hlt)])
          have hd3 : ((tp : Int) == line) = false := by simp; omega
          clear hlt
          go_wp2_with fail
          go_meet
          exact ⟨false, rfl, Lib.hid (fun h => by cases h), Lib.hid (fun _ => HSK.out), Below.refl _ _⟩
      · have HSK : Hid (skipS s tp = 0) := Lib.hid (by unfold skipS; rw [if_neg (by rw [← HLI.out]; omega)])
        have hd3 : decide ((0 : Int) < (n : Int)) = false := decide_eq_false (by omega)
        have hd4 : decide (0 < n) = false := decide_eq_false hn0
        go_wp2_with fail
        go_meet
        exact ⟨false, rfl, Lib.hid (fun h => by cases h), Lib.hid (fun _ => HSK.out), Below.refl _ _⟩
    case rest =>
      obtain ⟨q, rfl, HQ1, HQ2, hbq⟩ := hcut
      obtain ⟨wq, rfl⟩ : ∃ wq : World, wq = wc := ⟨_, rfl⟩
      have hbelq : Below B2 w1 wq := hbel3.trans (hbq.mono (Nat.le_trans HD3.out.gb (Nat.le_of_lt HD3.out.blt)))
      go_upto_if 56 with fail
      go_cut [10] from 48 (fun s10 wx => ∃ k0 : Nat, s10 = .int .i64 (k0 : Nat) ∧ Hid (k0 = skipS s tp) ∧ k0 ≤ 10000000 ∧ Below W3.heap.size W3 wx)
      case first =>
        cases q with
        | true =>
          have g1 := HQ1.out rfl
          have HSK : Hid (skipS s tp = ((need s tp : Int) - ((R : Int) - 1)).toNat) := Lib.hid (by unfold skipS; rw [if_pos (by rw [← HLI.out]; exact g1), HR.out])
          have CN1 := fun wx hb => Lib.hid (CND.out wx hb g1)
          obtain ⟨nd, hnd⟩ : ∃ nd, nd = need s tp := ⟨_, rfl⟩
          rw [← hnd] at CN1 HSK
          clear hnd g1
          go_upto_region 10 with fail
          refine wp_region_held_drew (S := fun wx => (wx.cell? ⟨B0, 0, none⟩ = some (.slice a n c) ∧ wx.cell? ⟨B0, 1, none⟩ = some (.int .i64 line) ∧ wx.cell? ⟨B0, 2, none⟩ = some (.int .i64 s.col) ∧ wx.cell? ⟨B0, 3, none⟩ = some (.string s.status) ∧ wx.cell? ⟨B0, 4, none⟩ = some (.bool s.typing) ∧ wx.cell? ⟨B0, 5, none⟩ = some (.int .i64 (R : Int)) ∧ wx.cell? ⟨B0, 6, none⟩ = some (.int .i64 (C : Int))) ∧ Below B2 w1 wx) (by kernel_rfl) (HS7.out _ hbelq.drew) (fun hH => ?_)
          (refine hTake (i := 0) (v := ?_) rfl (by kernel_rfl) (by kernel_rfl) (by kernel_rfl) (fun _ _ _ h => h) (by kernel_rfl) ?_ (by assumption) ?_; rotate_left; focus (intro w' hS'; (try dsimp only at hS'); go_split_ands; (try go_simp); (try (with_reducible rfl)); done); try simp only [Act.put, List.setIfInBounds_toArray, List.set_cons_zero, List.set_cons_succ]); (refine hTake (i := 1) (v := ?_) rfl (by kernel_rfl) (by kernel_rfl) (by kernel_rfl) (fun _ _ _ h => h) (by kernel_rfl) ?_ (by assumption) ?_; rotate_left; focus (intro w' hS'; (try dsimp only at hS'); go_split_ands; (try go_simp); (try (with_reducible rfl)); done); try simp only [Act.put, List.setIfInBounds_toArray, List.set_cons_zero, List.set_cons_succ]); (refine hTake (i := 3) (v := ?_) rfl (by kernel_rfl) (by kernel_rfl) (by kernel_rfl) (fun _ _ _ h => h) (by kernel_rfl) ?_ (by assumption) ?_; rotate_left; focus (intro w' hS'; (try dsimp only at hS'); go_split_ands; (try go_simp); (try (with_reducible rfl)); done); try simp only [Act.put, List.setIfInBounds_toArray, List.set_cons_zero, List.set_cons_succ]); (refine hTake (i := 4) (v := ?_) rfl (by kernel_rfl) (by kernel_rfl) (by kernel_rfl) (fun _ _ _ h => h) (by kernel_rfl) ?_ (by assumption) ?_; rotate_left; focus (intro w' hS'; (try dsimp only at hS'); go_split_ands; (try go_simp); (try (with_reducible rfl)); done); try simp only [Act.put, List.setIfInBounds_toArray, List.set_cons_zero, List.set_cons_succ]); (refine hTake (i := 5) (v := ?_) rfl (by kernel_rfl) (by kernel_rfl) (by kernel_rfl) (fun _ _ _ h => h) (by kernel_rfl) ?_ (by assumption) ?_; rotate_left; focus (intro w' hS'; (try dsimp only at hS'); go_split_ands; (try go_simp); (try (with_reducible rfl)); done); try simp only [Act.put, List.setIfInBounds_toArray, List.set_cons_zero, List.set_cons_succ])
          refine hOne (i := 2) rfl (by kernel_rfl) (fun K hK => ?_)
          go_simp
          refine (CN1 _ hH.2).out.mono ?_
          rintro e w5 ⟨⟨rfl, g3⟩, hb5⟩
          have hb5 : Below W3.heap.size W3 w5 := below_tr hbq ((Below.refl _ _).drew.trans hb5)
          have hbel5 : Below B2 w1 w5 := hbel3.trans (hb5.mono (Nat.le_trans HD3.out.gb (Nat.le_of_lt HD3.out.blt)))
          have hw2 : IntKind.i64.wrap ((nd : Int) - ((R : Int) - 1)) = (nd : Int) - ((R : Int) - 1) := IntWalk.i64_in _ ⟨by omega, by omega⟩
          go_wp2_with fail
          refine hK.out _ _ (HS7.out _ hbel5) (fun hH => ?_)
          clear hK K
          (refine hTake (i := 6) (v := ?_) rfl (by kernel_rfl) (by kernel_rfl) (by kernel_rfl) (fun _ _ _ h => h) (by kernel_rfl) ?_ (by assumption) ?_; rotate_left; focus (intro w' hS'; (try dsimp only at hS'); go_split_ands; (try go_simp); (try (with_reducible rfl)); done); try simp only [Act.put, List.setIfInBounds_toArray, List.set_cons_zero, List.set_cons_succ]); (refine hTake (i := 7) (v := ?_) rfl (by kernel_rfl) (by kernel_rfl) (by kernel_rfl) (fun _ _ _ h => h) (by kernel_rfl) ?_ (by assumption) ?_; rotate_left; focus (intro w' hS'; (try dsimp only at hS'); go_split_ands; (try go_simp); (try (with_reducible rfl)); done); try simp only [Act.put, List.setIfInBounds_toArray, List.set_cons_zero, List.set_cons_succ]); (refine hTake (i := 8) (v := ?_) rfl (by kernel_rfl) (by kernel_rfl) (by kernel_rfl) (fun _ _ _ h => h) (by kernel_rfl) ?_ (by assumption) ?_; rotate_left; focus (intro w' hS'; (try dsimp only at hS'); go_split_ands; (try go_simp); (try (with_reducible rfl)); done); try simp only [Act.put, List.setIfInBounds_toArray, List.set_cons_zero, List.set_cons_succ])
          refine wpAnyH_done (by kernel_rfl) ?_ _
          clear hH
          go_wp2_with fail
          go_meet
          exact ⟨((nd : Int) - ((R : Int) - 1)).toNat, by congr 1; omega, Lib.hid HSK.out.symm, by omega, hb5⟩
        | false =>
          have HK2 := Lib.hid (HQ2.out rfl).symm
          go_wp2_with fail
          go_meet
          exact ⟨0, rfl, HK2, by omega, hbq⟩
      case rest =>
        obtain ⟨k0, rfl, HK0, hk0, hbc⟩ := hcut
        obtain ⟨w5, rfl⟩ : ∃ w5 : World, w5 = wc := ⟨_, rfl⟩
        have HD5 := Lib.hid (HD3.out.later hbc)
        clear hbc hbel3 CND hbq hbelq HQ1 HQ2
        go_step
        exact rrows_draw HF HR HC hR2 hC2 HN HLI hn1 hn12 htp HKN HB2 HB4 HB5 HBEL HQQ HE0 HK0 HD5 hwr
  · obtain ⟨a, c, rfl, hX⟩ := h
    have HX := Lib.hid hX
    have HTB := Lib.hid hT
    obtain ⟨n, hn⟩ : ∃ n, n = s.lines.length := ⟨_, rfl⟩
    have HN := Lib.hid hn
    obtain ⟨line, hline⟩ : ∃ x, x = s.line := ⟨_, rfl⟩
    have HLI := Lib.hid hline
    rw [hch] at CC
    have HE2 : Hid (drawE s top = 2) := Lib.hid (by unfold drawE; rw [if_neg (by rw [hch]; decide), hch])
    rw [← hn] at HX CC ⊢
    rw [← hline] at CC ⊢
    clear hX hT hn hline hch hl
    have CC2 : Hid (∀ wx, Below w.heap.size w wx → Calls Tryd.prog 36 #[.agg #[.slice a n c, .int .i64 line, .int .i64 s.col, .string s.status, .bool s.typing, .int .i64 s.rows, .int .i64 s.cols]] wx fun e w' => e = .returned (.int .i64 2) ∧ Below wx.heap.size wx w') := Lib.hid (fun wx hb => (CC wx ⟨a, c, by rw [← HN.out, ← HLI.out], by rw [← HN.out]; exact HX.out.later hb⟩).out)
    clear CC
    go_enter Tryd.func18, Tryd.ntmps18
    go_upto_region 1 with fail
    obtain ⟨W, hW, hbW, hsW, hbox, hbox5⟩ := box75_new w (.slice a n c) (.int .i64 line) (.int .i64 s.col) (.string s.status) (.bool s.typing) (.int .i64 s.rows) (.int .i64 s.cols) 33 37
    rw [hW]
    clear hW
    have HB := Lib.hid hbox
    have HBW := Lib.hid hbW
    have HB50 := Lib.hid hbox5
    have x0 := hbox.c0
    have x1 := hbox.c1
    have x2 := hbox.c2
    have x3 := hbox.c3
    have x4 := hbox.c4
    have x5 := hbox.c5
    have x6 := hbox.c6
    clear hbox hsW hbox5
    obtain ⟨B0, hB0⟩ : ∃ B, B = w.heap.size := ⟨_, rfl⟩
    have HB0 := Lib.hid hB0
    rw [← hB0] at HB HB50 x0 x1 x2 x3 x4 x5 x6 ⊢
    clear hB0
    obtain ⟨B4, hB4⟩ : ∃ B, B = B0 + 1 := ⟨_, rfl⟩
    have HB04 := Lib.hid hB4
    rw [← hB4] at HB50 ⊢
    clear hB4
    have HB4 : Hid (w.heap.size ≤ B4) := Lib.hid (by have := HB0.out; have := HB04.out; omega)
    have C1 := CC2.out W hbW
    clear CC2
    go_wp2_with fail
    (with_reducible refine C1.mono ?_); rintro e w1 ⟨rfl, hb1⟩
    have HBEL : Hid (Below w.heap.size w w1) := Lib.hid (below_tr hbW hb1)
    have HB5 : Hid (Box5 w1 B4 37 (.int .i64 0) (.int .i64 0) (.slice none 0 0) (.int .i64 0) (.int .i64 0)) := Lib.hid (HB50.out.below hb1 HB50.out.lt')
    have HB1 := Lib.hid (HB.out.later hb1)
    clear C1 x0 x1 x2 x3 x4 x5 x6
    have b0 := HB5.out.c0
    have b1 := HB5.out.c1
    have b2 := HB5.out.c2
    have b3 := HB5.out.c3
    have b4 := HB5.out.c4
    have f0 := HB5.out.free 0
    have f1 := HB5.out.free 1
    have f2 := HB5.out.free 2
    have f3 := HB5.out.free 3
    have f4 := HB5.out.free 4
    go_upto_region 3 with fail
    rename_i KK hKK
    have HKK := Lib.hid hKK
    clear hKK
    go_wp2_with fail
    refine HKK.out _ _ ?_
    apply wp_ret
    generalize hW' : World.setCell (World.setCell (World.setCell (World.setCell (World.setCell _ _ _) _ _) _ _) _ _) _ _ = W'
    have hbox : Box5 W' B4 37 (.int .i64 0) (.int .i64 0) (.slice none 0 0) (.int .i64 0) (.int .i64 0) := by rw [← hW']; exact HB5.out.sets _ _ _ _ _
    have hoth : ∀ c : Nat, c ≠ B4 → W'.heap[c]? = w1.heap[c]? := fun c hc => by rw [← hW']; exact sets_other _ _ _ _ _ _ _ _ hc
    have hbelW : Below w.heap.size w W' := by rw [← hW']; exact Below_sets HBEL.out _ HB4.out _ _ _ _ _
    clear hW' b0 b1 b2 b3 b4 f0 f1 f2 f3 f4
    have a0 := hbox.c0
    have a1 := hbox.c1
    have a2 := hbox.c2
    have a3 := hbox.c3
    have a4 := hbox.c4
    have Hoth := Lib.hid hoth
    clear hoth
    refine bodyPost_ret (by simp [results, Tryd.results18, go_sem, a0, a1, a2, a3, a4]; try rfl) rfl ?_
    exact FIN2.out HE2.out _ hbelW
end Go.Proofs.YtnpdpfkoghhioaaDoor
