/- screen: Draw. -/
import Derived.Test.YtnpdpfkoghhioaaDoorXR
import Derived.Deep.CutBlock
namespace Go.Proofs.YtnpdpfkoghhioaaDoor
open Go.RowKit

theorem lineI_split (s : SH) (i : Nat) {a k b : Nat} (h : a ≤ k) (h2 : k ≤ b) : ∃ r, lineI s i a b = lineI s i a k ++ r := by
  induction b with
  | zero => exact ⟨[], by rw [show k = 0 by omega]; simp⟩
  | succ b ih =>
    by_cases e : k = b + 1
    · exact ⟨[], by rw [e]; simp⟩
    · obtain ⟨r, hr⟩ := ih (by omega)
      exact ⟨r ++ [s.item i b], by rw [lineI_succ s i (by omega), hr, List.append_assoc]⟩
theorem line_done (s : SH) {tp i sk kk m : Nat} {Q : List It} (ht : tp ≤ i) (hs : sk = if i = tp then skipS s tp else 0) (h1 : sk ≤ kk) (h2 : kk = sk ∨ kk ≤ s.rowsOf i) (hQ : Q = itemsTo s tp i ++ lineI s i sk kk) (hl : Q.length ≤ m) (he : s.rowsOf i ≤ kk ∨ Q.length = m) : Q = (itemsTo s tp (i + 1)).take m := by
  rw [items_succ s ht, ← hs]
  by_cases hk : s.rowsOf i ≤ kk
  · have e : lineI s i sk kk = lineI s i sk (s.rowsOf i) := by
      rcases h2 with h | h
      · rw [h, lineI_same, lineI_none s i (by omega)]
      · rw [show kk = s.rowsOf i by omega]
    rw [← e, ← hQ, List.take_of_length_le hl]
  · obtain ⟨r, hr⟩ := lineI_split s i h1 (show kk ≤ s.rowsOf i by omega)
    rw [hr, ← List.append_assoc, ← hQ, List.take_append_of_le_length (by omega), List.take_of_length_le (by omega)]
theorem rows_done (s : SH) {tp i n m : Nat} {P : List It} (ht : tp ≤ i) (hi : i ≤ n + 1) (hP : P = (itemsTo s tp i).take m) (he : i = n + 1 ∨ P.length = m) : P = (itemsTo s tp (n + 1)).take m := by
  rcases he with h | h
  · rw [hP, h]
  · obtain ⟨r, hr⟩ := items_pre s ht hi
    have hle : m ≤ (itemsTo s tp i).length := by
      have := congrArg List.length hP
      rw [List.length_take] at this
      omega
    rw [hr, List.take_append_of_le_length hle]
    exact hP
theorem cur_pads (s : SH) (P : List It) (a b : Nat) : (curF (P ++ pads s a b)).2 = (curF P).2 := by
  unfold pads
  induction b - a with
  | zero => simp
  | succ m ih =>
    rw [List.range'_1_concat, List.map_append, ← List.append_assoc]
    show (curF ((P ++ (List.range' a m).map (padI s)) ++ [padI s (a + m)])).2 = _
    rw [cur_snoc]
    exact ih
set_option maxRecDepth 100000 in
set_option maxHeartbeats 32000000 in
theorem sdraw_any (s : SH) (v : Value) (w : World) (hT : TabOK w) (h : ShowAt w v s) (hl : Lim s) (top : Int) :
    Calls Tryd.prog 17 #[v, .int .i64 top] w fun e w' => (∃ gv, e = .returned (.tuple #[gv, .int .i64 (drawE s top)]) ∧ OwnGrid w.heap.size w' gv (if drawE s top = 0 then drawG s top.toNat else zeroG)) ∧ Below w.heap.size w w' := by
  have CC := fun wx hx => Lib.hid (scheck_any s v wx hx hl)
  obtain ⟨QQ, hQQ⟩ : ∃ QQ : Ending → World → Prop, QQ = fun e w' => (∃ gv, e = .returned (.tuple #[gv, .int .i64 (drawE s top)]) ∧ OwnGrid w.heap.size w' gv (if drawE s top = 0 then drawG s top.toNat else zeroG)) ∧ Below w.heap.size w w' := ⟨_, rfl⟩
  have HQQ := Lib.hid hQQ
  rw [← hQQ]
  clear hQQ
  have FIN2 : Hid (drawE s top = 2 → ∀ W', Below w.heap.size w W' → QQ (.returned (.tuple #[.agg #[.int .i64 0, .int .i64 0, .slice none 0 0, .int .i64 0, .int .i64 0], .int .i64 2])) W') := Lib.hid (fun h W' hb => by
    rw [HQQ.out, h, if_neg (by decide)]
    exact ⟨⟨_, rfl, own_zero _ _⟩, hb⟩)
  rcases check_or s with hch | hch
  · obtain ⟨a, c, rfl, hX⟩ := h
    have HX := Lib.hid hX
    have HTB := Lib.hid hT
    obtain ⟨n, hn⟩ : ∃ n, n = s.lines.length := ⟨_, rfl⟩
    have HN := Lib.hid hn
    obtain ⟨line, hline⟩ : ∃ x, x = s.line := ⟨_, rfl⟩
    have HLI := Lib.hid hline
    rw [hch] at CC
    have hF := fit_of hl hch
    have hkk := (check_ok hch).2
    have HF := Lib.hid hF
    obtain ⟨R, hR⟩ : ∃ R : Nat, s.rows = (R : Int) := ⟨s.rows.toNat, by have := hF.r2; omega⟩
    obtain ⟨C, hC⟩ : ∃ C : Nat, s.cols = (C : Int) := ⟨s.cols.toNat, by have := hF.c8; omega⟩
    have hR2 : 2 ≤ R ∧ R ≤ 60 := by have := hF.r2; have := hF.r60; omega
    have hC2 : 8 ≤ C ∧ C ≤ 132 := by have := hF.c8; have := hF.c132; omega
    have HR := Lib.hid hR
    have HC := Lib.hid hC
    have hn1 := hl.n
    have hpos : (line = 0 ∧ n = 0) ∨ (1 ≤ line ∧ line ≤ n) := by
      rw [hline, hn]
      rcases hkk with h | h
      · exact .inl ⟨h.1, h.2.2⟩
      · exact .inr ⟨h.2.1, h.2.2.1⟩
    rw [← hn] at HX CC hn1 ⊢
    rw [← hline] at CC ⊢
    rw [hR, hC] at CC ⊢
    have HSV : Hid (∀ wx, TextsAt wx (.slice a n c) s.lines → ShowAt wx (.agg #[.slice a n c, .int .i64 line, .int .i64 s.col, .string s.status, .bool s.typing, .int .i64 (R : Int), .int .i64 (C : Int)]) s) := Lib.hid (fun wx hx => ⟨a, c, by rw [← hn, ← hline, hR, hC], by rw [← hn]; exact hx⟩)
    have hsz : sizedB s.rows s.cols = true := by
      rw [hR, hC]; simp [sizedB]; omega
    have HSZ := Lib.hid hsz
    have HE : Hid (drawE s top = if top < 1 ∨ max (n : Int) 1 < top then 2 else 0) := Lib.hid (by rw [drawE, if_pos hch, hn])
    clear hX hT hn hline hch hl hF hkk hR hC hsz
    have CC2 : Hid (∀ wx, Below w.heap.size w wx → Calls Tryd.prog 34 #[.agg #[.slice a n c, .int .i64 line, .int .i64 s.col, .string s.status, .bool s.typing, .int .i64 (R : Int), .int .i64 (C : Int)]] wx fun e w' => e = .returned (.int .i64 0) ∧ Below wx.heap.size wx w') := Lib.hid (fun wx hb => (CC wx (HSV.out wx (HX.out.later hb))).out)
    clear CC
    go_enter Tryd.func17, Tryd.ntmps17
    go_upto_region 1 with fail
    obtain ⟨W, hW, hbW, hsW, hbox, hbox5⟩ := box75_new w (.slice a n c) (.int .i64 line) (.int .i64 s.col) (.string s.status) (.bool s.typing) (.int .i64 (R : Int)) (.int .i64 (C : Int)) 26 37
    rw [hW]
    clear hW
    have HB := Lib.hid hbox
    have HBW := Lib.hid hbW
    have HB50 := Lib.hid hbox5
    have x0 := hbox.c0
    have x1 := hbox.c1
    have x2 := hbox.c2
    have x3 := hbox.c3
    have x4 := hbox.c4
    have x5 := hbox.c5
    have x6 := hbox.c6
    clear hbox hsW hbox5
    obtain ⟨B0, hB0⟩ : ∃ B, B = w.heap.size := ⟨_, rfl⟩
    have HB0 := Lib.hid hB0
    rw [← hB0] at HB HB50 x0 x1 x2 x3 x4 x5 x6 ⊢
    clear hB0
    obtain ⟨B4, hB4⟩ : ∃ B, B = B0 + 1 := ⟨_, rfl⟩
    have HB04 := Lib.hid hB4
    rw [← hB4] at HB50 ⊢
    clear hB4
    have HB4 : Hid (w.heap.size ≤ B4) := Lib.hid (by have := HB0.out; have := HB04.out; omega)
    have C1 := CC2.out W hbW
    clear CC2
    go_wp2_with fail
    (with_reducible refine C1.mono ?_); rintro e w1 ⟨rfl, hb1⟩
    have HBEL : Hid (Below w.heap.size w w1) := Lib.hid (below_tr hbW hb1)
    have HB5 : Hid (Box5 w1 B4 37 (.int .i64 0) (.int .i64 0) (.slice none 0 0) (.int .i64 0) (.int .i64 0)) := Lib.hid (HB50.out.below hb1 HB50.out.lt')
    have HB1 := Lib.hid (HB.out.later hb1)
    clear C1 x0 x1 x2 x3 x4 x5 x6
    have HKN : Hid (∀ wx, Below w1.heap.size w1 wx → Box7 wx B0 26 (.slice a n c) (.int .i64 line) (.int .i64 s.col) (.string s.status) (.bool s.typing) (.int .i64 (R : Int)) (.int .i64 (C : Int)) ∧ Box5 wx B4 37 (.int .i64 0) (.int .i64 0) (.slice none 0 0) (.int .i64 0) (.int .i64 0) ∧ TextsAt wx (.slice a n c) s.lines ∧ TabOK wx) := Lib.hid (fun wx hb =>
      ⟨HB1.out.later hb, HB5.out.below hb HB5.out.lt', (HX.out.later HBEL.out).later hb, (HTB.out.later HBEL.out).later hb⟩)
    have x0 := HB1.out.c0
    have x5 := HB1.out.c5
    have x6 := HB1.out.c6
    by_cases ht1 : top < 1
    · have hd1 : decide (top < 1) = true := decide_eq_true ht1
      have HE2 : Hid (drawE s top = 2) := Lib.hid (by rw [HE.out, if_pos (.inl ht1)])
      have b0 := HB5.out.c0
      have b1 := HB5.out.c1
      have b2 := HB5.out.c2
      have b3 := HB5.out.c3
      have b4 := HB5.out.c4
      have f0 := HB5.out.free 0
      have f1 := HB5.out.free 1
      have f2 := HB5.out.free 2
      have f3 := HB5.out.free 3
      have f4 := HB5.out.free 4
      go_upto_region 5 with fail
      rename_i KK hKK
      have HKK := Lib.hid hKK
      clear hKK
      go_wp2_with fail
      refine HKK.out _ _ ?_
      apply wp_ret
      generalize hW' : World.setCell (World.setCell (World.setCell (World.setCell (World.setCell _ _ _) _ _) _ _) _ _) _ _ = W'
      have hbox : Box5 W' B4 37 (.int .i64 0) (.int .i64 0) (.slice none 0 0) (.int .i64 0) (.int .i64 0) := by rw [← hW']; exact HB5.out.sets _ _ _ _ _
      have hoth : ∀ c : Nat, c ≠ B4 → W'.heap[c]? = w1.heap[c]? := fun c hc => by rw [← hW']; exact sets_other _ _ _ _ _ _ _ _ hc
      have hbelW : Below w.heap.size w W' := by rw [← hW']; exact Below_sets HBEL.out _ HB4.out _ _ _ _ _
      clear hW' b0 b1 b2 b3 b4 f0 f1 f2 f3 f4
      have a0 := hbox.c0
      have a1 := hbox.c1
      have a2 := hbox.c2
      have a3 := hbox.c3
      have a4 := hbox.c4
      have Hoth := Lib.hid hoth
      clear hoth
      refine bodyPost_ret (by simp [results, Tryd.results17, go_sem, a0, a1, a2, a3, a4]; try rfl) rfl ?_
      exact FIN2.out HE2.out _ hbelW
    have hd1 : decide (top < 1) = false := decide_eq_false ht1
    by_cases ht2 : max (n : Int) 1 < top
    · have hd2 : decide (max (n : Int) 1 < top) = true := decide_eq_true ht2
      have HE2 : Hid (drawE s top = 2) := Lib.hid (by rw [HE.out, if_pos (.inr ht2)])
      have b0 := HB5.out.c0
      have b1 := HB5.out.c1
      have b2 := HB5.out.c2
      have b3 := HB5.out.c3
      have b4 := HB5.out.c4
      have f0 := HB5.out.free 0
      have f1 := HB5.out.free 1
      have f2 := HB5.out.free 2
      have f3 := HB5.out.free 3
      have f4 := HB5.out.free 4
      go_upto_region 5 with fail
      rename_i KK hKK
      have HKK := Lib.hid hKK
      clear hKK
      go_wp2_with fail
      refine HKK.out _ _ ?_
      apply wp_ret
      generalize hW' : World.setCell (World.setCell (World.setCell (World.setCell (World.setCell _ _ _) _ _) _ _) _ _) _ _ = W'
      have hbox : Box5 W' B4 37 (.int .i64 0) (.int .i64 0) (.slice none 0 0) (.int .i64 0) (.int .i64 0) := by rw [← hW']; exact HB5.out.sets _ _ _ _ _
      have hoth : ∀ c : Nat, c ≠ B4 → W'.heap[c]? = w1.heap[c]? := fun c hc => by rw [← hW']; exact sets_other _ _ _ _ _ _ _ _ hc
      have hbelW : Below w.heap.size w W' := by rw [← hW']; exact Below_sets HBEL.out _ HB4.out _ _ _ _ _
      clear hW' b0 b1 b2 b3 b4 f0 f1 f2 f3 f4
      have a0 := hbox.c0
      have a1 := hbox.c1
      have a2 := hbox.c2
      have a3 := hbox.c3
      have a4 := hbox.c4
      have Hoth := Lib.hid hoth
      clear hoth
      refine bodyPost_ret (by simp [results, Tryd.results17, go_sem, a0, a1, a2, a3, a4]; try rfl) rfl ?_
      exact FIN2.out HE2.out _ hbelW
    have hd2 : decide (max (n : Int) 1 < top) = false := decide_eq_false ht2
    have HE0 : Hid (drawE s top = 0) := Lib.hid (by rw [HE.out, if_neg (by rintro (h | h); exact ht1 h; exact ht2 h)])
    obtain ⟨tp, rfl⟩ : ∃ tp : Nat, top = (tp : Int) := ⟨top.toNat, by omega⟩
    have htp : 1 ≤ tp ∧ tp ≤ 1000 ∧ (tp ≤ n ∨ (tp = 1 ∧ n = 0)) := by omega
    have CNW : Hid (Calls Tryd.prog 38 #[.int .i64 (R : Int), .int .i64 (C : Int)] w1 fun e w' => (∃ gv, e = .returned (.tuple #[gv, .int .i64 0]) ∧ OwnGrid w1.heap.size w' gv (newG s.rows s.cols)) ∧ Below w1.heap.size w1 w') := Lib.hid (by
      have h0 := new_any s.rows s.cols w1
      simp only [HSZ.out, if_true] at h0
      rw [HR.out, HC.out] at h0 ⊢
      exact h0)
    clear HE
    go_wp2_with fail
    (with_reducible refine CNW.out.mono ?_); rintro e w2 ⟨⟨gv, rfl, hg⟩, hb2⟩
    have hg0 := hg
    obtain ⟨ga, gcap, rfl, _⟩ := hg
    obtain ⟨hb, rb, ro, rc, hga, hst⟩ := DI.start HF.out hg0 hb2
    subst hga
    clear CNW hg0 x0 x5 x6
    go_upto_region 9 with fail
    generalize hW3 : World.alloc w2 _ = W3
    have hDI := hst W3 hW3.symm
    have hR0 : s.rows.toNat = R := by rw [HR.out]; rfl
    have hC0 : s.cols.toNat = C := by rw [HC.out]; rfl
    rw [hR0, hC0] at hDI
    have HD3 := Lib.hid hDI
    clear hW3 hst hDI hR0 hC0
    obtain ⟨B2, hB2⟩ : ∃ B, B = w1.heap.size := ⟨_, rfl⟩
    have HB2 := Lib.hid hB2
    rw [← hB2] at HD3 hb2
    clear hB2
    obtain ⟨GB, hGB⟩ : ∃ B, B = w2.heap.size := ⟨_, rfl⟩
    rw [← hGB] at HD3 ⊢
    clear hGB hb2
    have HKB : Hid (∀ wx, Below B2 w1 wx → Below w1.heap.size w1 wx) := Lib.hid (fun wx hb => by have := HB2.out; subst this; exact hb)
    have HS7 : Hid (∀ wx, Below B2 w1 wx → (wx.cell? ⟨B0, 0, none⟩ = some (.slice a n c) ∧ wx.cell? ⟨B0, 1, none⟩ = some (.int .i64 line) ∧ wx.cell? ⟨B0, 2, none⟩ = some (.int .i64 s.col) ∧ wx.cell? ⟨B0, 3, none⟩ = some (.string s.status) ∧ wx.cell? ⟨B0, 4, none⟩ = some (.bool s.typing) ∧ wx.cell? ⟨B0, 5, none⟩ = some (.int .i64 (R : Int)) ∧ wx.cell? ⟨B0, 6, none⟩ = some (.int .i64 (C : Int))) ∧ Below B2 w1 wx) := Lib.hid (fun wx hb => by
      obtain ⟨g, _⟩ := HKN.out wx (HKB.out wx hb)
      exact ⟨⟨g.c0, g.c1, g.c2, g.c3, g.c4, g.c5, g.c6⟩, hb⟩)
    have CND : Hid (∀ wx, Below B2 w1 wx → line = (tp : Int) → Calls Tryd.prog 35 #[.agg #[.slice a n c, .int .i64 line, .int .i64 s.col, .string s.status, .bool s.typing, .int .i64 (R : Int), .int .i64 (C : Int)], .int .i64 (tp : Nat)] wx fun e w' => e = .returned (.int .i64 ((need s tp : Nat) : Int)) ∧ need s tp ≤ 100000 ∧ Below wx.heap.size wx w') := Lib.hid (fun wx hbx hlt => by
      obtain ⟨g1, g2, g3, g4⟩ := HKN.out wx (HKB.out wx hbx)
      refine (sneed_any s _ wx g4 (HSV.out wx g3) HF.out (by rw [← HLI.out, ← HN.out]; omega) tp htp.1 (by omega)).mono ?_
      rintro e w' ⟨⟨r, he, _, hr, hr2⟩, hb⟩
      have h5 := hr (by rw [← HLI.out]; omega)
      subst h5
      exact ⟨he, hr2, hb⟩)
    have hbel3 := HD3.out.bel
    have hwr : IntKind.i64.wrap ((R : Int) - 1) = (R : Int) - 1 := IntWalk.i64_in _ ⟨by omega, by omega⟩
    go_cut [55] from 42 (fun s55 wx => ∃ q : Bool, s55 = .bool q ∧ Hid (q = true → line = (tp : Int) ∧ (R : Int) - 1 < (need s tp : Int) ∧ need s tp ≤ 100000) ∧ Hid (q = false → skipS s tp = 0) ∧ Below W3.heap.size W3 wx)
    case first =>
      by_cases hlt : line = (tp : Int)
      · have hd3 : (line == (tp : Int)) = true := by simpa using hlt
        have HSK : Hid (skipS s tp = ((need s tp : Int) - ((R : Int) - 1)).toNat) := Lib.hid (by unfold skipS; rw [if_pos (by rw [← HLI.out]; exact hlt), HR.out])
        have CN1 := fun wx hb => Lib.hid (CND.out wx hb hlt)
        have HLT := Lib.hid hlt
        obtain ⟨nd, hnd⟩ : ∃ nd, nd = need s tp := ⟨_, rfl⟩
        have HND := Lib.hid hnd
        rw [← hnd] at CN1 HSK
        clear hnd hlt
        refine wp_region_held_drew (S := fun wx => (wx.cell? ⟨B0, 0, none⟩ = some (.slice a n c) ∧ wx.cell? ⟨B0, 1, none⟩ = some (.int .i64 line) ∧ wx.cell? ⟨B0, 2, none⟩ = some (.int .i64 s.col) ∧ wx.cell? ⟨B0, 3, none⟩ = some (.string s.status) ∧ wx.cell? ⟨B0, 4, none⟩ = some (.bool s.typing) ∧ wx.cell? ⟨B0, 5, none⟩ = some (.int .i64 (R : Int)) ∧ wx.cell? ⟨B0, 6, none⟩ = some (.int .i64 (C : Int))) ∧ Below B2 w1 wx) (by kernel_rfl) (HS7.out _ hbel3.drew) (fun hH => ?_)
        (refine hTake (i := 0) (v := ?_) rfl (by kernel_rfl) (by kernel_rfl) (by kernel_rfl) (fun _ _ _ h => h) (by kernel_rfl) ?_ (by assumption) ?_; rotate_left; focus (intro w' hS'; (try dsimp only at hS'); go_split_ands; (try go_simp); (try (with_reducible rfl)); done); try simp only [Act.put, List.setIfInBounds_toArray, List.set_cons_zero, List.set_cons_succ]); (refine hTake (i := 1) (v := ?_) rfl (by kernel_rfl) (by kernel_rfl) (by kernel_rfl) (fun _ _ _ h => h) (by kernel_rfl) ?_ (by assumption) ?_; rotate_left; focus (intro w' hS'; (try dsimp only at hS'); go_split_ands; (try go_simp); (try (with_reducible rfl)); done); try simp only [Act.put, List.setIfInBounds_toArray, List.set_cons_zero, List.set_cons_succ]); (refine hTake (i := 2) (v := ?_) rfl (by kernel_rfl) (by kernel_rfl) (by kernel_rfl) (fun _ _ _ h => h) (by kernel_rfl) ?_ (by assumption) ?_; rotate_left; focus (intro w' hS'; (try dsimp only at hS'); go_split_ands; (try go_simp); (try (with_reducible rfl)); done); try simp only [Act.put, List.setIfInBounds_toArray, List.set_cons_zero, List.set_cons_succ]); (refine hTake (i := 3) (v := ?_) rfl (by kernel_rfl) (by kernel_rfl) (by kernel_rfl) (fun _ _ _ h => h) (by kernel_rfl) ?_ (by assumption) ?_; rotate_left; focus (intro w' hS'; (try dsimp only at hS'); go_split_ands; (try go_simp); (try (with_reducible rfl)); done); try simp only [Act.put, List.setIfInBounds_toArray, List.set_cons_zero, List.set_cons_succ]); (refine hTake (i := 4) (v := ?_) rfl (by kernel_rfl) (by kernel_rfl) (by kernel_rfl) (fun _ _ _ h => h) (by kernel_rfl) ?_ (by assumption) ?_; rotate_left; focus (intro w' hS'; (try dsimp only at hS'); go_split_ands; (try go_simp); (try (with_reducible rfl)); done); try simp only [Act.put, List.setIfInBounds_toArray, List.set_cons_zero, List.set_cons_succ]); (refine hTake (i := 5) (v := ?_) rfl (by kernel_rfl) (by kernel_rfl) (by kernel_rfl) (fun _ _ _ h => h) (by kernel_rfl) ?_ (by assumption) ?_; rotate_left; focus (intro w' hS'; (try dsimp only at hS'); go_split_ands; (try go_simp); (try (with_reducible rfl)); done); try simp only [Act.put, List.setIfInBounds_toArray, List.set_cons_zero, List.set_cons_succ]); (refine hTake (i := 6) (v := ?_) rfl (by kernel_rfl) (by kernel_rfl) (by kernel_rfl) (fun _ _ _ h => h) (by kernel_rfl) ?_ (by assumption) ?_; rotate_left; focus (intro w' hS'; (try dsimp only at hS'); go_split_ands; (try go_simp); (try (with_reducible rfl)); done); try simp only [Act.put, List.setIfInBounds_toArray, List.set_cons_zero, List.set_cons_succ]); (refine hTake (i := 7) (v := ?_) rfl (by kernel_rfl) (by kernel_rfl) (by kernel_rfl) (fun _ _ _ h => h) (by kernel_rfl) ?_ (by assumption) ?_; rotate_left; focus (intro w' hS'; (try dsimp only at hS'); go_split_ands; (try go_simp); (try (with_reducible rfl)); done); try simp only [Act.put, List.setIfInBounds_toArray, List.set_cons_zero, List.set_cons_succ]); (refine hTake (i := 9) (v := ?_) rfl (by kernel_rfl) (by kernel_rfl) (by kernel_rfl) (fun _ _ _ h => h) (by kernel_rfl) ?_ (by assumption) ?_; rotate_left; focus (intro w' hS'; (try dsimp only at hS'); go_split_ands; (try go_simp); (try (with_reducible rfl)); done); try simp only [Act.put, List.setIfInBounds_toArray, List.set_cons_zero, List.set_cons_succ]); (refine hTake (i := 10) (v := ?_) rfl (by kernel_rfl) (by kernel_rfl) (by kernel_rfl) (fun _ _ _ h => h) (by kernel_rfl) ?_ (by assumption) ?_; rotate_left; focus (intro w' hS'; (try dsimp only at hS'); go_split_ands; (try go_simp); (try (with_reducible rfl)); done); try simp only [Act.put, List.setIfInBounds_toArray, List.set_cons_zero, List.set_cons_succ]); (refine hTake (i := 11) (v := ?_) rfl (by kernel_rfl) (by kernel_rfl) (by kernel_rfl) (fun _ _ _ h => h) (by kernel_rfl) ?_ (by assumption) ?_; rotate_left; focus (intro w' hS'; (try dsimp only at hS'); go_split_ands; (try go_simp); (try (with_reducible rfl)); done); try simp only [Act.put, List.setIfInBounds_toArray, List.set_cons_zero, List.set_cons_succ])
        refine hOne (i := 8) rfl (by kernel_rfl) (fun K hK => ?_)
        go_simp
        refine (CN1 _ hH.2).out.mono ?_
        rintro e w4 ⟨rfl, hndb, hb4⟩
        have hb4 : Below W3.heap.size W3 w4 := (Below.refl _ _).drew.trans hb4
        have hbel4 : Below B2 w1 w4 := hbel3.trans (hb4.mono (Nat.le_trans HD3.out.gb (Nat.le_of_lt HD3.out.blt)))
        go_wp2_with fail
        refine hK.out _ _ (HS7.out _ hbel4) (fun hH => ?_)
        clear hK K
        by_cases hgt : (R : Int) - 1 < (nd : Int)
        · have hd : decide ((R : Int) - 1 < (nd : Int)) = true := decide_eq_true hgt
          (refine hTake (i := 12) (v := ?_) rfl (by kernel_rfl) (by kernel_rfl) (by kernel_rfl) (fun _ _ _ h => h) (by kernel_rfl) ?_ (by assumption) ?_; rotate_left; focus (intro w' hS'; (try dsimp only at hS'); go_split_ands; (try go_simp); (try (with_reducible rfl)); done); try simp only [Act.put, List.setIfInBounds_toArray, List.set_cons_zero, List.set_cons_succ]); (refine hTake (i := 13) (v := ?_) rfl (by kernel_rfl) (by kernel_rfl) (by kernel_rfl) (fun _ _ _ h => h) (by kernel_rfl) ?_ (by assumption) ?_; rotate_left; focus (intro w' hS'; (try dsimp only at hS'); go_split_ands; (try go_simp); (try (with_reducible rfl)); done); try simp only [Act.put, List.setIfInBounds_toArray, List.set_cons_zero, List.set_cons_succ])
          refine wpAnyH_done (by kernel_rfl) ?_ _
          clear hH
          go_wp2_with fail
          go_meet
          exact ⟨true, rfl, Lib.hid (fun _ => ⟨HLT.out, by rw [← HND.out]; exact ⟨hgt, hndb⟩⟩), Lib.hid (fun h => by cases h), hb4⟩
        · have hd : decide ((R : Int) - 1 < (nd : Int)) = false := decide_eq_false hgt
          (refine hTake (i := 12) (v := ?_) rfl (by kernel_rfl) (by kernel_rfl) (by kernel_rfl) (fun _ _ _ h => h) (by kernel_rfl) ?_ (by assumption) ?_; rotate_left; focus (intro w' hS'; (try dsimp only at hS'); go_split_ands; (try go_simp); (try (with_reducible rfl)); done); try simp only [Act.put, List.setIfInBounds_toArray, List.set_cons_zero, List.set_cons_succ]); (refine hTake (i := 13) (v := ?_) rfl (by kernel_rfl) (by kernel_rfl) (by kernel_rfl) (fun _ _ _ h => h) (by kernel_rfl) ?_ (by assumption) ?_; rotate_left; focus (intro w' hS'; (try dsimp only at hS'); go_split_ands; (try go_simp); (try (with_reducible rfl)); done); try simp only [Act.put, List.setIfInBounds_toArray, List.set_cons_zero, List.set_cons_succ])
          refine wpAnyH_done (by kernel_rfl) ?_ _
          clear hH
          go_wp2_with fail
          go_meet
          exact ⟨false, rfl, Lib.hid (fun h => by cases h), Lib.hid (fun _ => by rw [HSK.out]; omega), hb4⟩
      · have hd3 : (line == (tp : Int)) = false := by simpa using hlt
        have HSK : Hid (skipS s tp = 0) := Lib.hid (by unfold skipS; rw [if_neg (by rw [← HLI.out]; exact hlt)])
        clear hlt
        refine wp_region_held_drew (S := fun wx => (wx.cell? ⟨B0, 0, none⟩ = some (.slice a n c) ∧ wx.cell? ⟨B0, 1, none⟩ = some (.int .i64 line) ∧ wx.cell? ⟨B0, 2, none⟩ = some (.int .i64 s.col) ∧ wx.cell? ⟨B0, 3, none⟩ = some (.string s.status) ∧ wx.cell? ⟨B0, 4, none⟩ = some (.bool s.typing) ∧ wx.cell? ⟨B0, 5, none⟩ = some (.int .i64 (R : Int)) ∧ wx.cell? ⟨B0, 6, none⟩ = some (.int .i64 (C : Int))) ∧ Below B2 w1 wx) (by kernel_rfl) (HS7.out _ hbel3.drew) (fun hH => ?_)
        (refine hTake (i := 0) (v := ?_) rfl (by kernel_rfl) (by kernel_rfl) (by kernel_rfl) (fun _ _ _ h => h) (by kernel_rfl) ?_ (by assumption) ?_; rotate_left; focus (intro w' hS'; (try dsimp only at hS'); go_split_ands; (try go_simp); (try (with_reducible rfl)); done); try simp only [Act.put, List.setIfInBounds_toArray, List.set_cons_zero, List.set_cons_succ]); (refine hTake (i := 1) (v := ?_) rfl (by kernel_rfl) (by kernel_rfl) (by kernel_rfl) (fun _ _ _ h => h) (by kernel_rfl) ?_ (by assumption) ?_; rotate_left; focus (intro w' hS'; (try dsimp only at hS'); go_split_ands; (try go_simp); (try (with_reducible rfl)); done); try simp only [Act.put, List.setIfInBounds_toArray, List.set_cons_zero, List.set_cons_succ]); (refine hTake (i := 2) (v := ?_) rfl (by kernel_rfl) (by kernel_rfl) (by kernel_rfl) (fun _ _ _ h => h) (by kernel_rfl) ?_ (by assumption) ?_; rotate_left; focus (intro w' hS'; (try dsimp only at hS'); go_split_ands; (try go_simp); (try (with_reducible rfl)); done); try simp only [Act.put, List.setIfInBounds_toArray, List.set_cons_zero, List.set_cons_succ]); (refine hTake (i := 3) (v := ?_) rfl (by kernel_rfl) (by kernel_rfl) (by kernel_rfl) (fun _ _ _ h => h) (by kernel_rfl) ?_ (by assumption) ?_; rotate_left; focus (intro w' hS'; (try dsimp only at hS'); go_split_ands; (try go_simp); (try (with_reducible rfl)); done); try simp only [Act.put, List.setIfInBounds_toArray, List.set_cons_zero, List.set_cons_succ]); (refine hTake (i := 4) (v := ?_) rfl (by kernel_rfl) (by kernel_rfl) (by kernel_rfl) (fun _ _ _ h => h) (by kernel_rfl) ?_ (by assumption) ?_; rotate_left; focus (intro w' hS'; (try dsimp only at hS'); go_split_ands; (try go_simp); (try (with_reducible rfl)); done); try simp only [Act.put, List.setIfInBounds_toArray, List.set_cons_zero, List.set_cons_succ]); (refine hTake (i := 5) (v := ?_) rfl (by kernel_rfl) (by kernel_rfl) (by kernel_rfl) (fun _ _ _ h => h) (by kernel_rfl) ?_ (by assumption) ?_; rotate_left; focus (intro w' hS'; (try dsimp only at hS'); go_split_ands; (try go_simp); (try (with_reducible rfl)); done); try simp only [Act.put, List.setIfInBounds_toArray, List.set_cons_zero, List.set_cons_succ]); (refine hSkip (i := 6) rfl (by kernel_rfl) (by kernel_rfl) (by kernel_rfl) (fun _ _ _ h => h) (by kernel_rfl) (by assumption) ?_; try simp only [Act.put, List.setIfInBounds_toArray, List.set_cons_zero, List.set_cons_succ]); (refine hSkip (i := 7) rfl (by kernel_rfl) (by kernel_rfl) (by kernel_rfl) (fun _ _ _ h => h) (by kernel_rfl) (by assumption) ?_; try simp only [Act.put, List.setIfInBounds_toArray, List.set_cons_zero, List.set_cons_succ]); (refine hSkip (i := 8) rfl (by kernel_rfl) (by kernel_rfl) (by kernel_rfl) (fun _ _ _ h => h) (by kernel_rfl) (by assumption) ?_; try simp only [Act.put, List.setIfInBounds_toArray, List.set_cons_zero, List.set_cons_succ]); (refine hSkip (i := 9) rfl (by kernel_rfl) (by kernel_rfl) (by kernel_rfl) (fun _ _ _ h => h) (by kernel_rfl) (by assumption) ?_; try simp only [Act.put, List.setIfInBounds_toArray, List.set_cons_zero, List.set_cons_succ]); (refine hSkip (i := 10) rfl (by kernel_rfl) (by kernel_rfl) (by kernel_rfl) (fun _ _ _ h => h) (by kernel_rfl) (by assumption) ?_; try simp only [Act.put, List.setIfInBounds_toArray, List.set_cons_zero, List.set_cons_succ]); (refine hSkip (i := 11) rfl (by kernel_rfl) (by kernel_rfl) (by kernel_rfl) (fun _ _ _ h => h) (by kernel_rfl) (by assumption) ?_; try simp only [Act.put, List.setIfInBounds_toArray, List.set_cons_zero, List.set_cons_succ]); (refine hSkip (i := 12) rfl (by kernel_rfl) (by kernel_rfl) (by kernel_rfl) (fun _ _ _ h => h) (by kernel_rfl) (by assumption) ?_; try simp only [Act.put, List.setIfInBounds_toArray, List.set_cons_zero, List.set_cons_succ]); (refine hTake (i := 13) (v := ?_) rfl (by kernel_rfl) (by kernel_rfl) (by kernel_rfl) (fun _ _ _ h => h) (by kernel_rfl) ?_ (by assumption) ?_; rotate_left; focus (intro w' hS'; (try dsimp only at hS'); go_split_ands; (try go_simp); (try (with_reducible rfl)); done); try simp only [Act.put, List.setIfInBounds_toArray, List.set_cons_zero, List.set_cons_succ])
        refine wpAnyH_done (by kernel_rfl) ?_ _
        clear hH
        go_wp2_with fail
        go_meet
        exact ⟨false, rfl, Lib.hid (fun h => by cases h), Lib.hid (fun _ => HSK.out), (Below.refl _ _).drew⟩
    case rest =>
      obtain ⟨q, rfl, HQ1, HQ2, hbq⟩ := hcut
      obtain ⟨wq, rfl⟩ : ∃ wq : World, wq = wc := ⟨_, rfl⟩
      have hbelq : Below B2 w1 wq := hbel3.trans (hbq.mono (Nat.le_trans HD3.out.gb (Nat.le_of_lt HD3.out.blt)))
      go_upto_if 55 with fail
      go_cut [10] from 42 (fun s10 wx => ∃ k0 : Nat, s10 = .int .i64 (k0 : Nat) ∧ Hid (k0 = skipS s tp) ∧ k0 ≤ 100000 ∧ Below W3.heap.size W3 wx)
      case first =>
        cases q with
        | true =>
          obtain ⟨g1, g2, g3⟩ := HQ1.out rfl
          have HSK : Hid (skipS s tp = ((need s tp : Int) - ((R : Int) - 1)).toNat) := Lib.hid (by unfold skipS; rw [if_pos (by rw [← HLI.out]; exact g1), HR.out])
          have CN1 := fun wx hb => Lib.hid (CND.out wx hb g1)
          obtain ⟨nd, hnd⟩ : ∃ nd, nd = need s tp := ⟨_, rfl⟩
          rw [← hnd] at CN1 HSK g2 g3
          clear hnd g1
          go_upto_region 10 with fail
          refine wp_region_held_drew (S := fun wx => (wx.cell? ⟨B0, 0, none⟩ = some (.slice a n c) ∧ wx.cell? ⟨B0, 1, none⟩ = some (.int .i64 line) ∧ wx.cell? ⟨B0, 2, none⟩ = some (.int .i64 s.col) ∧ wx.cell? ⟨B0, 3, none⟩ = some (.string s.status) ∧ wx.cell? ⟨B0, 4, none⟩ = some (.bool s.typing) ∧ wx.cell? ⟨B0, 5, none⟩ = some (.int .i64 (R : Int)) ∧ wx.cell? ⟨B0, 6, none⟩ = some (.int .i64 (C : Int))) ∧ Below B2 w1 wx) (by kernel_rfl) (HS7.out _ hbelq.drew) (fun hH => ?_)
          (refine hTake (i := 0) (v := ?_) rfl (by kernel_rfl) (by kernel_rfl) (by kernel_rfl) (fun _ _ _ h => h) (by kernel_rfl) ?_ (by assumption) ?_; rotate_left; focus (intro w' hS'; (try dsimp only at hS'); go_split_ands; (try go_simp); (try (with_reducible rfl)); done); try simp only [Act.put, List.setIfInBounds_toArray, List.set_cons_zero, List.set_cons_succ]); (refine hTake (i := 1) (v := ?_) rfl (by kernel_rfl) (by kernel_rfl) (by kernel_rfl) (fun _ _ _ h => h) (by kernel_rfl) ?_ (by assumption) ?_; rotate_left; focus (intro w' hS'; (try dsimp only at hS'); go_split_ands; (try go_simp); (try (with_reducible rfl)); done); try simp only [Act.put, List.setIfInBounds_toArray, List.set_cons_zero, List.set_cons_succ]); (refine hTake (i := 3) (v := ?_) rfl (by kernel_rfl) (by kernel_rfl) (by kernel_rfl) (fun _ _ _ h => h) (by kernel_rfl) ?_ (by assumption) ?_; rotate_left; focus (intro w' hS'; (try dsimp only at hS'); go_split_ands; (try go_simp); (try (with_reducible rfl)); done); try simp only [Act.put, List.setIfInBounds_toArray, List.set_cons_zero, List.set_cons_succ]); (refine hTake (i := 4) (v := ?_) rfl (by kernel_rfl) (by kernel_rfl) (by kernel_rfl) (fun _ _ _ h => h) (by kernel_rfl) ?_ (by assumption) ?_; rotate_left; focus (intro w' hS'; (try dsimp only at hS'); go_split_ands; (try go_simp); (try (with_reducible rfl)); done); try simp only [Act.put, List.setIfInBounds_toArray, List.set_cons_zero, List.set_cons_succ]); (refine hTake (i := 5) (v := ?_) rfl (by kernel_rfl) (by kernel_rfl) (by kernel_rfl) (fun _ _ _ h => h) (by kernel_rfl) ?_ (by assumption) ?_; rotate_left; focus (intro w' hS'; (try dsimp only at hS'); go_split_ands; (try go_simp); (try (with_reducible rfl)); done); try simp only [Act.put, List.setIfInBounds_toArray, List.set_cons_zero, List.set_cons_succ])
          refine hOne (i := 2) rfl (by kernel_rfl) (fun K hK => ?_)
          go_simp
          refine (CN1 _ hH.2).out.mono ?_
          rintro e w5 ⟨rfl, _, hb5⟩
          have hb5 : Below W3.heap.size W3 w5 := below_tr hbq ((Below.refl _ _).drew.trans hb5)
          have hbel5 : Below B2 w1 w5 := hbel3.trans (hb5.mono (Nat.le_trans HD3.out.gb (Nat.le_of_lt HD3.out.blt)))
          have hw2 : IntKind.i64.wrap ((nd : Int) - ((R : Int) - 1)) = (nd : Int) - ((R : Int) - 1) := IntWalk.i64_in _ ⟨by omega, by omega⟩
          go_wp2_with fail
          refine hK.out _ _ (HS7.out _ hbel5) (fun hH => ?_)
          clear hK K
          (refine hTake (i := 6) (v := ?_) rfl (by kernel_rfl) (by kernel_rfl) (by kernel_rfl) (fun _ _ _ h => h) (by kernel_rfl) ?_ (by assumption) ?_; rotate_left; focus (intro w' hS'; (try dsimp only at hS'); go_split_ands; (try go_simp); (try (with_reducible rfl)); done); try simp only [Act.put, List.setIfInBounds_toArray, List.set_cons_zero, List.set_cons_succ]); (refine hTake (i := 7) (v := ?_) rfl (by kernel_rfl) (by kernel_rfl) (by kernel_rfl) (fun _ _ _ h => h) (by kernel_rfl) ?_ (by assumption) ?_; rotate_left; focus (intro w' hS'; (try dsimp only at hS'); go_split_ands; (try go_simp); (try (with_reducible rfl)); done); try simp only [Act.put, List.setIfInBounds_toArray, List.set_cons_zero, List.set_cons_succ])
          refine wpAnyH_done (by kernel_rfl) ?_ _
          clear hH
          go_wp2_with fail
          go_meet
          exact ⟨((nd : Int) - ((R : Int) - 1)).toNat, by congr 1; omega, Lib.hid HSK.out.symm, by omega, hb5⟩
        | false =>
          have HK2 := Lib.hid (HQ2.out rfl).symm
          go_wp2_with fail
          go_meet
          exact ⟨0, rfl, HK2, by omega, hbq⟩
      case rest =>
        obtain ⟨k0, rfl, HK0, hk0, hbc⟩ := hcut
        obtain ⟨w5, rfl⟩ : ∃ w5 : World, w5 = wc := ⟨_, rfl⟩
        have HD5 := Lib.hid (HD3.out.later hbc)
        clear hbc hbel3 CND hbq hbelq HQ1 HQ2
        have HLEN : Hid (shownI s tp = (itemsTo s tp (n + 1)).take (R - 1)) := Lib.hid (by unfold shownI; rw [← HN.out, HR.out]; rfl)
        have HSIL : Hid ((shownI s tp).length ≤ R - 1) := Lib.hid (by rw [HLEN.out, List.length_take]; omega)
        go_upto_block 0 with fail
        go_cut [9, 10, 11, 12, 13, 14, 15] from 64 (fun s9 _ _ _ _ _ _ wx => s9 = .int .i64 ((shownI s tp).length : Nat) ∧ Hid (DI s R C B2 hb GB gcap rb ro rc w1 wx (shownI s tp) ((curF (shownI s tp)).2.1 : Nat) ((curF (shownI s tp)).2.2 : Nat)))
        case first =>
          go_wp2_with fail
          go_loopw [9, 10, 11] (fun s9 s10 s11 wr => ∃ (i sk : Nat) (P : List It), tp ≤ i ∧ (i ≤ n + 1 ∨ i = tp) ∧ s11 = .int .i64 (i : Nat) ∧ s10 = .int .i64 (sk : Nat) ∧ s9 = .int .i64 (P.length : Nat) ∧ sk ≤ 100000 ∧ P.length ≤ R - 1 ∧ Hid (sk = if i = tp then skipS s tp else 0) ∧ Hid (P = (itemsTo s tp i).take (R - 1)) ∧ Hid (DI s R C B2 hb GB gcap rb ro rc w1 wr P ((curF P).2.1 : Nat) ((curF P).2.2 : Nat))) (fun _ _ i _ => n + 1 - (intOf i).toNat)
          case atStart => exact ⟨tp, k0, [], Nat.le_refl _, .inr rfl, rfl, rfl, rfl, hk0, Nat.zero_le _, Lib.hid (by rw [if_pos rfl]; exact HK0.out), Lib.hid (by rw [items_same, List.take_nil]), HD5⟩
          case round =>
            obtain ⟨i, sk, P, hi1, hi2, rfl, rfl, rfl, hsk, hPl, HSK, HP, HD⟩ := hrel
            obtain ⟨⟨y0, y1, y2, y3, y4, y5, y6⟩, _⟩ := HS7.out wr HD.out.bel
            by_cases hin : i ≤ n
            · by_cases hrow : P.length < R - 1
              · have hrow2 : (P.length : Int) < (R : Int) - 1 := by omega
                obtain ⟨_, _, g3, _⟩ := HKN.out wr (HKB.out wr HD.out.bel)
                obtain ⟨tb, tq, rfl, htb, q0⟩ := g3.get (k := i - 1) (by rw [← HN.out]; omega)
                have q1 : wr.cell? ⟨tb, tq + (i - 1), none⟩ = some (.string (s.text i)) := q0
                clear q0
                have HPi : Hid (P = itemsTo s tp i) := Lib.hid (by
                  have h0 := HP.out
                  have h1 := congrArg List.length h0
                  rw [List.length_take] at h1
                  rw [h0, List.take_of_length_le (by omega)])
                have htx0 := HF.out.lim.text i
                have HRWB := Lib.hid (HF.out.rows i)
                have HATB := Lib.hid (HF.out.at i)
                obtain ⟨tx, htx⟩ : ∃ tx, tx = s.text i := ⟨_, rfl⟩
                have HTX := Lib.hid htx
                rw [← htx] at q1 htx0
                obtain ⟨RW, hRW⟩ : ∃ RW, RW = s.rowsOf i := ⟨_, rfl⟩
                have HRW := Lib.hid hRW
                obtain ⟨A1, A2, hA⟩ : ∃ A1 A2, (A1, A2) = s.atOf i := ⟨_, _, rfl⟩
                have HA := Lib.hid hA
                have hRWb : RW ≤ 8001 := by rw [hRW]; exact HRWB.out
                have hA1b : A1 ≤ 8001 := by have := HATB.out.1; rw [← hA] at this; exact this
                have HLC : Hid ((lcells tx).length ≤ 8000) := Lib.hid (by
                  have h2 := (cellsTo_len tx.data.toList tx.size (Nat.le_refl _)).2
                  have h4 : (lcells tx).length = (cellsTo tx.data.toList tx.size).length := rfl
                  omega)
                have CRW : Hid (∀ wx, Below B2 w1 wx → Calls Tryd.prog 27 #[.string tx, .int .i64 (C : Int)] wx fun e w' => e = .returned (.int .i64 (RW : Nat)) ∧ Below wx.heap.size wx w') := Lib.hid (fun wx hbx => by
                  have h0 := rows_any tx s.cols wx (HKN.out wx (HKB.out wx hbx)).2.2.2 (by omega) (by rw [HC.out]; omega)
                  have e : rowsZ (cellsTo tx.data.toList tx.size).length s.cols = RW := by rw [HRW.out, HTX.out]; rfl
                  rw [e, HC.out] at h0
                  exact h0)
                have CAT : Hid (∀ wx, Below B2 w1 wx → Calls Tryd.prog 25 #[.string tx, .int .i64 (C : Int), .int .i64 s.col] wx fun e w' => e = .returned (.tuple #[.int .i64 (A1 : Nat), .int .i64 (A2 : Nat)]) ∧ Below wx.heap.size wx w') := Lib.hid (fun wx hbx => by
                  have h0 := at_any tx s.cols s.col wx (HKN.out wx (HKB.out wx hbx)).2.2.2 (by omega) (by rw [HC.out]; omega)
                  have e : atZ tx.data.toList s.cols s.col = (A1, A2) := by rw [HA.out, HTX.out]; rfl
                  rw [e, HC.out] at h0
                  exact h0)
                have CRO : Hid (∀ (kk : Nat) wx, Below B2 w1 wx → Calls Tryd.prog 29 #[.string tx, .int .i64 (C : Int), .int .i64 (kk : Nat)] wx fun e w' => e = .returned (.string ⟨(rowZ (lcells tx) (C : Int) (kk : Int)).toArray⟩) ∧ Below wx.heap.size wx w') := Lib.hid (fun kk wx hbx =>
                  row_any tx (C : Int) (kk : Int) wx (HKN.out wx (HKB.out wx hbx)).2.2.2 (by omega) (by omega))
                have i1 : (1 : Int) ≤ (i : Int) := by omega
                have i2 : 0 < i := by omega
                have i4 : (0 : Int) ≤ (i : Int) - 1 := by omega
                have i5 : (i : Int) - 1 < (n : Int) := by omega
                have i6 : ((i : Int) - 1).toNat = i - 1 := by omega
                have i7 : IntKind.i64.wrap ((i : Int) - 1) = (i : Int) - 1 := IntWalk.i64_in _ ⟨by omega, by omega⟩
                clear htx hRW hA g3
                go_wp2_with fail
                go_loopw [9, 13] (fun s9 s13 wr => ∃ (kk : Nat) (Q : List It), sk ≤ kk ∧ (kk = sk ∨ kk ≤ RW) ∧ s13 = .int .i64 (kk : Nat) ∧ s9 = .int .i64 (Q.length : Nat) ∧ Q.length ≤ R - 1 ∧ Hid (Q = itemsTo s tp i ++ lineI s i sk kk) ∧ Hid (DI s R C B2 hb GB gcap rb ro rc w1 wr Q ((curF Q).2.1 : Nat) ((curF Q).2.2 : Nat))) (fun _ k _ => RW - (intOf k).toNat)
                case atStart => exact ⟨sk, P, Nat.le_refl _, .inl rfl, rfl, rfl, hPl, Lib.hid (by rw [lineI_same, List.append_nil]; exact HPi.out), HD⟩
                case round =>
                  clear y0 y1 y2 y3 y4 y5 y6 q1 hrow hrow2 hPl htb
                  obtain ⟨kk, Q, hkk1, hkk2, rfl, rfl, hQl, HQE, HDQ⟩ := hrel
                  obtain ⟨⟨y0, y1, y2, y3, y4, y5, y6⟩, _⟩ := HS7.out wr HDQ.out.bel
                  have CR1 := CRW.out wr HDQ.out.bel
                  have HNEXT : Hid ((RW ≤ kk ∨ Q.length = R - 1) → Q = (itemsTo s tp (i + 1)).take (R - 1)) := Lib.hid (fun he => line_done s hi1 HSK.out hkk1 (by rw [← HRW.out]; exact hkk2) HQE.out hQl (by rw [← HRW.out]; exact he))
                  by_cases hk : kk < RW
                  · by_cases hq : Q.length < R - 1
                    · have hq2 : (Q.length : Int) < (R : Int) - 1 := by omega
                      go_wp2_with fail
                      (with_reducible refine CR1.mono ?_); rintro e w6 ⟨rfl, hb6⟩
                      have HD6 := Lib.hid (HDQ.out.later hb6)
                      clear y0 y1 y2 y3 y4 y5 y6 CR1 hb6
                      obtain ⟨⟨y0, y1, y2, y3, y4, y5, y6⟩, _⟩ := HS7.out w6 HD6.out.bel
                      have CA1 := CAT.out w6 HD6.out.bel
                      go_wp2_with fail
                      (with_reducible refine CA1.mono ?_); rintro e wA ⟨rfl, hb7⟩
                      have HDW := Lib.hid (HD6.out.later hb7)
                      clear y0 y1 y2 y3 y4 y5 y6 CA1 hb7
                      obtain ⟨⟨y0, y1, y2, y3, y4, y5, y6⟩, _⟩ := HS7.out wA HDW.out.bel
                      by_cases hil : (i : Int) = line
                      · by_cases hak : A1 = kk
                        · have HCI : Hid (s.item i kk = (rowZ (lcells tx) (C : Int) (kk : Int), some A2)) := Lib.hid (by
                            unfold SH.item
                            rw [← HTX.out, HC.out, if_pos ⟨by rw [← HLI.out]; exact hil, by rw [← HA.out]; exact hak⟩, ← HA.out])
                          have hd4 : ((i : Int) == line) = true := by simpa using hil
                          have hd5 : ((A1 : Int) == (kk : Int)) = true := by simp; omega
                          have hd6 : (A1 == kk) = true := by simpa using hak
                          have b3 := (HDW.out.box).c3
                          have b4 := (HDW.out.box).c4
                          have e3 := (HDW.out.box).free 3
                          have e4 := (HDW.out.box).free 4
                          have HDC := Lib.hid (HDW.out.cur (by omega) (Q.length : Nat) (A2 : Nat))
                          clear hil hak
                          go_upto_region 21 with fail
                          generalize World.setCell (World.setCell wA _ _) _ _ = wC at *
                          clear b3 b4 e3 e4
                          obtain ⟨cx, hcx⟩ : ∃ x : Int, x = (Q.length : Nat) := ⟨_, rfl⟩
                          obtain ⟨cy, hcy⟩ : ∃ x : Int, x = (A2 : Nat) := ⟨_, rfl⟩
                          have HCXY : Hid (cx = ((curF (Q ++ [s.item i kk])).2.1 : Nat) ∧ cy = ((curF (Q ++ [s.item i kk])).2.2 : Nat)) := Lib.hid (by
                            rw [cur_snoc, HCI.out]
                            exact ⟨by rw [hcx]; exact congrArg Nat.cast (cur_len Q).symm, by rw [hcy]⟩)
                          have HDX : Hid (DI s R C B2 hb GB gcap rb ro rc w1 wC Q cx cy) := Lib.hid (by rw [hcx, hcy]; exact HDC.out)
                          clear hcx hcy
                          have HSG : Hid (∀ wx P, DI s R C B2 hb GB gcap rb ro rc w1 wx P cx cy → (wx.cell? ⟨GB, 0, none⟩ = some (.int .i64 (R : Int)) ∧ wx.cell? ⟨GB, 1, none⟩ = some (.int .i64 (C : Int)) ∧ wx.cell? ⟨GB, 2, none⟩ = some (.slice (some ⟨hb, 0, none⟩) R gcap) ∧ wx.cell? ⟨GB, 3, none⟩ = some (.int .i64 cx) ∧ wx.cell? ⟨GB, 4, none⟩ = some (.int .i64 cy)) ∧ wx.cell? ⟨B0, 6, none⟩ = some (.int .i64 (C : Int))) := Lib.hid (fun wx P hd =>
                            ⟨⟨hd.box.c0, hd.box.c1, hd.box.c2, hd.box.c3, hd.box.c4⟩, (HS7.out wx hd.bel).1.2.2.2.2.2.2⟩)
                          refine wp_region_held_drew (S := fun wx => (wx.cell? ⟨GB, 0, none⟩ = some (.int .i64 (R : Int)) ∧ wx.cell? ⟨GB, 1, none⟩ = some (.int .i64 (C : Int)) ∧ wx.cell? ⟨GB, 2, none⟩ = some (.slice (some ⟨hb, 0, none⟩) R gcap) ∧ wx.cell? ⟨GB, 3, none⟩ = some (.int .i64 cx) ∧ wx.cell? ⟨GB, 4, none⟩ = some (.int .i64 cy)) ∧ wx.cell? ⟨B0, 6, none⟩ = some (.int .i64 (C : Int))) (by kernel_rfl) (HSG.out wC.drew Q (HDX.out.later (Below.refl _ _).drew)) (fun hH => ?_)
                          (refine hTake (i := 0) (v := ?_) rfl (by kernel_rfl) (by kernel_rfl) (by kernel_rfl) (fun _ _ _ h => h) (by kernel_rfl) ?_ (by assumption) ?_; rotate_left; focus (intro w' hS'; (try dsimp only at hS'); go_split_ands; (try go_simp); (try (with_reducible rfl)); done); try simp only [Act.put, List.setIfInBounds_toArray, List.set_cons_zero, List.set_cons_succ]); (refine hTake (i := 1) (v := ?_) rfl (by kernel_rfl) (by kernel_rfl) (by kernel_rfl) (fun _ _ _ h => h) (by kernel_rfl) ?_ (by assumption) ?_; rotate_left; focus (intro w' hS'; (try dsimp only at hS'); go_split_ands; (try go_simp); (try (with_reducible rfl)); done); try simp only [Act.put, List.setIfInBounds_toArray, List.set_cons_zero, List.set_cons_succ]); (refine hTake (i := 2) (v := ?_) rfl (by kernel_rfl) (by kernel_rfl) (by kernel_rfl) (fun _ _ _ h => h) (by kernel_rfl) ?_ (by assumption) ?_; rotate_left; focus (intro w' hS'; (try dsimp only at hS'); go_split_ands; (try go_simp); (try (with_reducible rfl)); done); try simp only [Act.put, List.setIfInBounds_toArray, List.set_cons_zero, List.set_cons_succ]); (refine hTake (i := 3) (v := ?_) rfl (by kernel_rfl) (by kernel_rfl) (by kernel_rfl) (fun _ _ _ h => h) (by kernel_rfl) ?_ (by assumption) ?_; rotate_left; focus (intro w' hS'; (try dsimp only at hS'); go_split_ands; (try go_simp); (try (with_reducible rfl)); done); try simp only [Act.put, List.setIfInBounds_toArray, List.set_cons_zero, List.set_cons_succ]); (refine hTake (i := 4) (v := ?_) rfl (by kernel_rfl) (by kernel_rfl) (by kernel_rfl) (fun _ _ _ h => h) (by kernel_rfl) ?_ (by assumption) ?_; rotate_left; focus (intro w' hS'; (try dsimp only at hS'); go_split_ands; (try go_simp); (try (with_reducible rfl)); done); try simp only [Act.put, List.setIfInBounds_toArray, List.set_cons_zero, List.set_cons_succ]); (refine hTake (i := 5) (v := ?_) rfl (by kernel_rfl) (by kernel_rfl) (by kernel_rfl) (fun _ _ _ h => h) (by kernel_rfl) ?_ (by assumption) ?_; rotate_left; focus (intro w' hS'; (try dsimp only at hS'); go_split_ands; (try go_simp); (try (with_reducible rfl)); done); try simp only [Act.put, List.setIfInBounds_toArray, List.set_cons_zero, List.set_cons_succ])
                          refine hOne (i := 6) rfl (by kernel_rfl) (fun K hK => ?_)
                          go_simp
                          refine (CRO.out kk _ (HDX.out.bel.drew)).mono ?_
                          rintro e w8 ⟨rfl, hb8⟩
                          have HD8 : Hid (DI s R C B2 hb GB gcap rb ro rc w1 w8 Q cx cy) := Lib.hid (HDX.out.later ((Below.refl _ _).drew.trans hb8))
                          go_wp2_with fail
                          refine hK.out _ _ (HSG.out w8 Q HD8.out) (fun hH => ?_)
                          clear hK K
                          refine hOne (i := 7) rfl (by kernel_rfl) (fun K hK => ?_)
                          go_simp
                          refine (put_row HD8.out (by omega) (rowZ (lcells tx) (C : Int) (kk : Int)) (some A2) (by have := rowZ_len (lcells tx) (C : Int) (kk : Int); have := HLC.out; omega)).mono ?_
                          rintro e w9 ⟨rfl, hd9⟩
                          have HD9 := Lib.hid hd9
                          clear hd9
                          go_wp2_with fail
                          refine hK.out _ _ (HSG.out w9 _ HD9.out) (fun hH => ?_)
                          clear hK K
                          refine wpAnyH_done (by kernel_rfl) ?_ _
                          clear hH
                          go_wp2_with fail
                          exact ⟨⟨kk + 1, Q ++ [s.item i kk], by omega, .inr (by omega), by go_num, by rw [List.length_append]; go_num, by rw [List.length_append]; simp; omega, Lib.hid (by rw [lineI_succ s i hkk1, ← List.append_assoc, ← HQE.out]), Lib.hid (by rw [← HCXY.out.1, ← HCXY.out.2, HCI.out]; exact HD9.out)⟩, by simp [intOf]; omega⟩
                        · have hd4 : ((i : Int) == line) = true := by simpa using hil
                          have hd5 : ((A1 : Int) == (kk : Int)) = false := by simp; omega
                          have hd6 : (A1 == kk) = false := by simpa using hak
                          have HNO : Hid (¬ ((i : Int) = s.line ∧ (s.atOf i).1 = kk)) := Lib.hid (fun h => hak (by rw [← HA.out] at h; exact h.2))
                          clear hil hak
                          have HCI : Hid (s.item i kk = (rowZ (lcells tx) (C : Int) (kk : Int), none)) := Lib.hid (by
                            unfold SH.item
                            rw [← HTX.out, HC.out, if_neg HNO.out])
                          go_upto_region 21 with fail
                          obtain ⟨wC, hwC⟩ : ∃ wC, wC = wA := ⟨_, rfl⟩
                          subst hwC
                          obtain ⟨cx, hcx⟩ : ∃ x : Int, x = ((curF Q).2.1 : Nat) := ⟨_, rfl⟩
                          obtain ⟨cy, hcy⟩ : ∃ x : Int, x = ((curF Q).2.2 : Nat) := ⟨_, rfl⟩
                          have HCXY : Hid (cx = ((curF (Q ++ [s.item i kk])).2.1 : Nat) ∧ cy = ((curF (Q ++ [s.item i kk])).2.2 : Nat)) := Lib.hid (by
                            rw [cur_snoc, HCI.out]
                            exact ⟨hcx, hcy⟩)
                          have HDX : Hid (DI s R C B2 hb GB gcap rb ro rc w1 wC Q cx cy) := Lib.hid (by rw [hcx, hcy]; exact HDW.out)
                          clear hcx hcy
                          have HSG : Hid (∀ wx P, DI s R C B2 hb GB gcap rb ro rc w1 wx P cx cy → (wx.cell? ⟨GB, 0, none⟩ = some (.int .i64 (R : Int)) ∧ wx.cell? ⟨GB, 1, none⟩ = some (.int .i64 (C : Int)) ∧ wx.cell? ⟨GB, 2, none⟩ = some (.slice (some ⟨hb, 0, none⟩) R gcap) ∧ wx.cell? ⟨GB, 3, none⟩ = some (.int .i64 cx) ∧ wx.cell? ⟨GB, 4, none⟩ = some (.int .i64 cy)) ∧ wx.cell? ⟨B0, 6, none⟩ = some (.int .i64 (C : Int))) := Lib.hid (fun wx P hd =>
                            ⟨⟨hd.box.c0, hd.box.c1, hd.box.c2, hd.box.c3, hd.box.c4⟩, (HS7.out wx hd.bel).1.2.2.2.2.2.2⟩)
                          refine wp_region_held_drew (S := fun wx => (wx.cell? ⟨GB, 0, none⟩ = some (.int .i64 (R : Int)) ∧ wx.cell? ⟨GB, 1, none⟩ = some (.int .i64 (C : Int)) ∧ wx.cell? ⟨GB, 2, none⟩ = some (.slice (some ⟨hb, 0, none⟩) R gcap) ∧ wx.cell? ⟨GB, 3, none⟩ = some (.int .i64 cx) ∧ wx.cell? ⟨GB, 4, none⟩ = some (.int .i64 cy)) ∧ wx.cell? ⟨B0, 6, none⟩ = some (.int .i64 (C : Int))) (by kernel_rfl) (HSG.out wC.drew Q (HDX.out.later (Below.refl _ _).drew)) (fun hH => ?_)
                          (refine hTake (i := 0) (v := ?_) rfl (by kernel_rfl) (by kernel_rfl) (by kernel_rfl) (fun _ _ _ h => h) (by kernel_rfl) ?_ (by assumption) ?_; rotate_left; focus (intro w' hS'; (try dsimp only at hS'); go_split_ands; (try go_simp); (try (with_reducible rfl)); done); try simp only [Act.put, List.setIfInBounds_toArray, List.set_cons_zero, List.set_cons_succ]); (refine hTake (i := 1) (v := ?_) rfl (by kernel_rfl) (by kernel_rfl) (by kernel_rfl) (fun _ _ _ h => h) (by kernel_rfl) ?_ (by assumption) ?_; rotate_left; focus (intro w' hS'; (try dsimp only at hS'); go_split_ands; (try go_simp); (try (with_reducible rfl)); done); try simp only [Act.put, List.setIfInBounds_toArray, List.set_cons_zero, List.set_cons_succ]); (refine hTake (i := 2) (v := ?_) rfl (by kernel_rfl) (by kernel_rfl) (by kernel_rfl) (fun _ _ _ h => h) (by kernel_rfl) ?_ (by assumption) ?_; rotate_left; focus (intro w' hS'; (try dsimp only at hS'); go_split_ands; (try go_simp); (try (with_reducible rfl)); done); try simp only [Act.put, List.setIfInBounds_toArray, List.set_cons_zero, List.set_cons_succ]); (refine hTake (i := 3) (v := ?_) rfl (by kernel_rfl) (by kernel_rfl) (by kernel_rfl) (fun _ _ _ h => h) (by kernel_rfl) ?_ (by assumption) ?_; rotate_left; focus (intro w' hS'; (try dsimp only at hS'); go_split_ands; (try go_simp); (try (with_reducible rfl)); done); try simp only [Act.put, List.setIfInBounds_toArray, List.set_cons_zero, List.set_cons_succ]); (refine hTake (i := 4) (v := ?_) rfl (by kernel_rfl) (by kernel_rfl) (by kernel_rfl) (fun _ _ _ h => h) (by kernel_rfl) ?_ (by assumption) ?_; rotate_left; focus (intro w' hS'; (try dsimp only at hS'); go_split_ands; (try go_simp); (try (with_reducible rfl)); done); try simp only [Act.put, List.setIfInBounds_toArray, List.set_cons_zero, List.set_cons_succ]); (refine hTake (i := 5) (v := ?_) rfl (by kernel_rfl) (by kernel_rfl) (by kernel_rfl) (fun _ _ _ h => h) (by kernel_rfl) ?_ (by assumption) ?_; rotate_left; focus (intro w' hS'; (try dsimp only at hS'); go_split_ands; (try go_simp); (try (with_reducible rfl)); done); try simp only [Act.put, List.setIfInBounds_toArray, List.set_cons_zero, List.set_cons_succ])
                          refine hOne (i := 6) rfl (by kernel_rfl) (fun K hK => ?_)
                          go_simp
                          refine (CRO.out kk _ (HDX.out.bel.drew)).mono ?_
                          rintro e w8 ⟨rfl, hb8⟩
                          have HD8 : Hid (DI s R C B2 hb GB gcap rb ro rc w1 w8 Q cx cy) := Lib.hid (HDX.out.later ((Below.refl _ _).drew.trans hb8))
                          go_wp2_with fail
                          refine hK.out _ _ (HSG.out w8 Q HD8.out) (fun hH => ?_)
                          clear hK K
                          refine hOne (i := 7) rfl (by kernel_rfl) (fun K hK => ?_)
                          go_simp
                          refine (put_row HD8.out (by omega) (rowZ (lcells tx) (C : Int) (kk : Int)) (none) (by have := rowZ_len (lcells tx) (C : Int) (kk : Int); have := HLC.out; omega)).mono ?_
                          rintro e w9 ⟨rfl, hd9⟩
                          have HD9 := Lib.hid hd9
                          clear hd9
                          go_wp2_with fail
                          refine hK.out _ _ (HSG.out w9 _ HD9.out) (fun hH => ?_)
                          clear hK K
                          refine wpAnyH_done (by kernel_rfl) ?_ _
                          clear hH
                          go_wp2_with fail
                          exact ⟨⟨kk + 1, Q ++ [s.item i kk], by omega, .inr (by omega), by go_num, by rw [List.length_append]; go_num, by rw [List.length_append]; simp; omega, Lib.hid (by rw [lineI_succ s i hkk1, ← List.append_assoc, ← HQE.out]), Lib.hid (by rw [← HCXY.out.1, ← HCXY.out.2, HCI.out]; exact HD9.out)⟩, by simp [intOf]; omega⟩
                      · have hd4 : ((i : Int) == line) = false := by simpa using hil
                        have HNO : Hid (¬ ((i : Int) = s.line ∧ (s.atOf i).1 = kk)) := Lib.hid (fun h => hil (by rw [HLI.out]; exact h.1))
                        clear hil
                        have HCI : Hid (s.item i kk = (rowZ (lcells tx) (C : Int) (kk : Int), none)) := Lib.hid (by
                          unfold SH.item
                          rw [← HTX.out, HC.out, if_neg HNO.out])
                        go_upto_region 21 with fail
                        obtain ⟨wC, hwC⟩ : ∃ wC, wC = wA := ⟨_, rfl⟩
                        subst hwC
                        obtain ⟨cx, hcx⟩ : ∃ x : Int, x = ((curF Q).2.1 : Nat) := ⟨_, rfl⟩
                        obtain ⟨cy, hcy⟩ : ∃ x : Int, x = ((curF Q).2.2 : Nat) := ⟨_, rfl⟩
                        have HCXY : Hid (cx = ((curF (Q ++ [s.item i kk])).2.1 : Nat) ∧ cy = ((curF (Q ++ [s.item i kk])).2.2 : Nat)) := Lib.hid (by
                          rw [cur_snoc, HCI.out]
                          exact ⟨hcx, hcy⟩)
                        have HDX : Hid (DI s R C B2 hb GB gcap rb ro rc w1 wC Q cx cy) := Lib.hid (by rw [hcx, hcy]; exact HDW.out)
                        clear hcx hcy
                        have HSG : Hid (∀ wx P, DI s R C B2 hb GB gcap rb ro rc w1 wx P cx cy → (wx.cell? ⟨GB, 0, none⟩ = some (.int .i64 (R : Int)) ∧ wx.cell? ⟨GB, 1, none⟩ = some (.int .i64 (C : Int)) ∧ wx.cell? ⟨GB, 2, none⟩ = some (.slice (some ⟨hb, 0, none⟩) R gcap) ∧ wx.cell? ⟨GB, 3, none⟩ = some (.int .i64 cx) ∧ wx.cell? ⟨GB, 4, none⟩ = some (.int .i64 cy)) ∧ wx.cell? ⟨B0, 6, none⟩ = some (.int .i64 (C : Int))) := Lib.hid (fun wx P hd =>
                          ⟨⟨hd.box.c0, hd.box.c1, hd.box.c2, hd.box.c3, hd.box.c4⟩, (HS7.out wx hd.bel).1.2.2.2.2.2.2⟩)
                        refine wp_region_held_drew (S := fun wx => (wx.cell? ⟨GB, 0, none⟩ = some (.int .i64 (R : Int)) ∧ wx.cell? ⟨GB, 1, none⟩ = some (.int .i64 (C : Int)) ∧ wx.cell? ⟨GB, 2, none⟩ = some (.slice (some ⟨hb, 0, none⟩) R gcap) ∧ wx.cell? ⟨GB, 3, none⟩ = some (.int .i64 cx) ∧ wx.cell? ⟨GB, 4, none⟩ = some (.int .i64 cy)) ∧ wx.cell? ⟨B0, 6, none⟩ = some (.int .i64 (C : Int))) (by kernel_rfl) (HSG.out wC.drew Q (HDX.out.later (Below.refl _ _).drew)) (fun hH => ?_)
                        (refine hTake (i := 0) (v := ?_) rfl (by kernel_rfl) (by kernel_rfl) (by kernel_rfl) (fun _ _ _ h => h) (by kernel_rfl) ?_ (by assumption) ?_; rotate_left; focus (intro w' hS'; (try dsimp only at hS'); go_split_ands; (try go_simp); (try (with_reducible rfl)); done); try simp only [Act.put, List.setIfInBounds_toArray, List.set_cons_zero, List.set_cons_succ]); (refine hTake (i := 1) (v := ?_) rfl (by kernel_rfl) (by kernel_rfl) (by kernel_rfl) (fun _ _ _ h => h) (by kernel_rfl) ?_ (by assumption) ?_; rotate_left; focus (intro w' hS'; (try dsimp only at hS'); go_split_ands; (try go_simp); (try (with_reducible rfl)); done); try simp only [Act.put, List.setIfInBounds_toArray, List.set_cons_zero, List.set_cons_succ]); (refine hTake (i := 2) (v := ?_) rfl (by kernel_rfl) (by kernel_rfl) (by kernel_rfl) (fun _ _ _ h => h) (by kernel_rfl) ?_ (by assumption) ?_; rotate_left; focus (intro w' hS'; (try dsimp only at hS'); go_split_ands; (try go_simp); (try (with_reducible rfl)); done); try simp only [Act.put, List.setIfInBounds_toArray, List.set_cons_zero, List.set_cons_succ]); (refine hTake (i := 3) (v := ?_) rfl (by kernel_rfl) (by kernel_rfl) (by kernel_rfl) (fun _ _ _ h => h) (by kernel_rfl) ?_ (by assumption) ?_; rotate_left; focus (intro w' hS'; (try dsimp only at hS'); go_split_ands; (try go_simp); (try (with_reducible rfl)); done); try simp only [Act.put, List.setIfInBounds_toArray, List.set_cons_zero, List.set_cons_succ]); (refine hTake (i := 4) (v := ?_) rfl (by kernel_rfl) (by kernel_rfl) (by kernel_rfl) (fun _ _ _ h => h) (by kernel_rfl) ?_ (by assumption) ?_; rotate_left; focus (intro w' hS'; (try dsimp only at hS'); go_split_ands; (try go_simp); (try (with_reducible rfl)); done); try simp only [Act.put, List.setIfInBounds_toArray, List.set_cons_zero, List.set_cons_succ]); (refine hTake (i := 5) (v := ?_) rfl (by kernel_rfl) (by kernel_rfl) (by kernel_rfl) (fun _ _ _ h => h) (by kernel_rfl) ?_ (by assumption) ?_; rotate_left; focus (intro w' hS'; (try dsimp only at hS'); go_split_ands; (try go_simp); (try (with_reducible rfl)); done); try simp only [Act.put, List.setIfInBounds_toArray, List.set_cons_zero, List.set_cons_succ])
                        refine hOne (i := 6) rfl (by kernel_rfl) (fun K hK => ?_)
                        go_simp
                        refine (CRO.out kk _ (HDX.out.bel.drew)).mono ?_
                        rintro e w8 ⟨rfl, hb8⟩
                        have HD8 : Hid (DI s R C B2 hb GB gcap rb ro rc w1 w8 Q cx cy) := Lib.hid (HDX.out.later ((Below.refl _ _).drew.trans hb8))
                        go_wp2_with fail
                        refine hK.out _ _ (HSG.out w8 Q HD8.out) (fun hH => ?_)
                        clear hK K
                        refine hOne (i := 7) rfl (by kernel_rfl) (fun K hK => ?_)
                        go_simp
                        refine (put_row HD8.out (by omega) (rowZ (lcells tx) (C : Int) (kk : Int)) (none) (by have := rowZ_len (lcells tx) (C : Int) (kk : Int); have := HLC.out; omega)).mono ?_
                        rintro e w9 ⟨rfl, hd9⟩
                        have HD9 := Lib.hid hd9
                        clear hd9
                        go_wp2_with fail
                        refine hK.out _ _ (HSG.out w9 _ HD9.out) (fun hH => ?_)
                        clear hK K
                        refine wpAnyH_done (by kernel_rfl) ?_ _
                        clear hH
                        go_wp2_with fail
                        exact ⟨⟨kk + 1, Q ++ [s.item i kk], by omega, .inr (by omega), by go_num, by rw [List.length_append]; go_num, by rw [List.length_append]; simp; omega, Lib.hid (by rw [lineI_succ s i hkk1, ← List.append_assoc, ← HQE.out]), Lib.hid (by rw [← HCXY.out.1, ← HCXY.out.2, HCI.out]; exact HD9.out)⟩, by simp [intOf]; omega⟩
                    · have hq2 : ¬ (Q.length : Int) < (R : Int) - 1 := by omega
                      have hq3 : decide ((Q.length : Int) < (R : Int) - 1) = false := decide_eq_false hq2
                      go_wp2_with fail
                      (with_reducible refine CR1.mono ?_); rintro e w6 ⟨rfl, hb6⟩
                      have HD6 := Lib.hid (HDQ.out.later hb6)
                      clear y0 y1 y2 y3 y4 y5 y6
                      obtain ⟨⟨y0, y1, y2, y3, y4, y5, y6⟩, _⟩ := HS7.out w6 HD6.out.bel
                      go_wp2_with fail
                      exact ⟨⟨i + 1, 0, Q, by omega, .inl (by omega), by go_num, rfl, rfl, by omega, hQl, Lib.hid (by rw [if_neg (by omega)]), Lib.hid (HNEXT.out (.inr (by omega))), Lib.hid (HDQ.out.later hb6)⟩, by simp [intOf]; omega⟩
                  · go_wp2_with fail
                    (with_reducible refine CR1.mono ?_); rintro e w6 ⟨rfl, hb6⟩
                    go_wp2_with fail
                    exact ⟨⟨i + 1, 0, Q, by omega, .inl (by omega), by go_num, rfl, rfl, by omega, hQl, Lib.hid (by rw [if_neg (by omega)]), Lib.hid (HNEXT.out (.inl (by omega))), Lib.hid (HDQ.out.later hb6)⟩, by simp [intOf]; omega⟩
              · have hrow2 : ¬ (P.length : Int) < (R : Int) - 1 := by omega
                have hrow3 : decide ((P.length : Int) < (R : Int) - 1) = false := decide_eq_false hrow2
                have HPS : Hid (P = shownI s tp) := Lib.hid (by rw [HLEN.out]; exact rows_done s hi1 (by omega) HP.out (.inr (by omega)))
                go_wp2_with fail
                go_meet
                exact ⟨by rw [HPS.out], Lib.hid (by rw [← HPS.out]; exact HD.out)⟩
            · have HPS : Hid (P = shownI s tp) := Lib.hid (by rw [HLEN.out]; exact rows_done s hi1 (by omega) HP.out (.inl (by omega)))
              go_wp2_with fail
              go_meet
              exact ⟨by rw [HPS.out], Lib.hid (by rw [← HPS.out]; exact HD.out)⟩
        case rest =>
          obtain ⟨rfl, HDS⟩ := hcut
          obtain ⟨w6, rfl⟩ : ∃ w6 : World, w6 = wc := ⟨_, rfl⟩
          clear HLEN HD5
          obtain ⟨PL, hPL⟩ : ∃ PL, PL = (shownI s tp).length := ⟨_, rfl⟩
          have HPL := Lib.hid hPL
          have hPLb : PL ≤ R - 1 := by rw [hPL]; exact HSIL.out
          obtain ⟨cx, hcx⟩ : ∃ x : Int, x = ((curF (shownI s tp)).2.1 : Nat) := ⟨_, rfl⟩
          obtain ⟨cy, hcy⟩ : ∃ x : Int, x = ((curF (shownI s tp)).2.2 : Nat) := ⟨_, rfl⟩
          have HCX := Lib.hid hcx
          have HCY := Lib.hid hcy
          rw [← hcx, ← hcy] at HDS
          rw [← hPL]
          clear hPL hcx hcy
          have FIN0 : Hid (∀ (x y : Int) (wz : World), DI s R C B2 hb GB gcap rb ro rc w1 wz (allRows s tp) x y → ∀ W', W' = ((((wz.setCell ⟨B4, 0, none⟩ (.int .i64 (R : Int))).setCell ⟨B4, 1, none⟩ (.int .i64 (C : Int))).setCell ⟨B4, 2, none⟩ (.slice (some ⟨hb, 0, none⟩) R gcap)).setCell ⟨B4, 3, none⟩ (.int .i64 x)).setCell ⟨B4, 4, none⟩ (.int .i64 y) → (if s.typing = true then x = (R : Int) - 1 ∧ y = min ((statT s).length : Int) ((C : Int) - 1) else x = cx ∧ y = cy) → QQ (.returned (.tuple #[.agg #[.int .i64 (R : Int), .int .i64 (C : Int), .slice (some ⟨hb, 0, none⟩) R gcap, .int .i64 x, .int .i64 y], .int .i64 0])) W') := Lib.hid (fun x y wz hd W' hW' hxy => by
            rw [HQQ.out, HE0.out, if_pos rfl, Int.toNat_natCast]
            have hlt5 : B4 < B2 := by rw [HB2.out]; exact HB5.out.lt'
            have hoth : ∀ c : Nat, B2 ≤ c → c < wz.heap.size → W'.heap[c]? = wz.heap[c]? := fun c hc _ => by rw [hW']; exact sets_other _ _ _ _ _ _ _ _ (by omega)
            have hsz : wz.heap.size ≤ W'.heap.size := by rw [hW', set_size, set_size, set_size, set_size, set_size]; exact Nat.le_refl _
            have hlA : (allRows s tp).length = R := by rw [all_len s tp HF.out.r2, hd.rn]
            have hgr := hd.grid hlA W' hsz hoth
            have hwb : w.heap.size ≤ B2 := by rw [HB2.out]; exact HBEL.out.size
            have hbz : Below w.heap.size w wz := HBEL.out.trans (hd.bel.mono hwb)
            refine ⟨⟨_, rfl, ?_⟩, by rw [hW']; exact Below_sets hbz _ HB4.out _ _ _ _ _⟩
            have hG : drawG s tp = ⟨s.rows, s.cols, cellsOf s (allRows s tp), x, y⟩ := by
              unfold drawG
              cases hty : s.typing with
              | true =>
                rw [hty, if_pos rfl] at hxy
                rw [if_pos rfl, if_pos rfl, hxy.1, hxy.2, hd.rr, hd.cc]
              | false =>
                rw [hty, if_neg (by decide)] at hxy
                rw [if_neg (by decide), if_neg (by decide), hxy.1, hxy.2, HCX.out, HCY.out]
            rw [hG]
            exact hgr.mono hwb)
          go_wp2_with fail
          go_loopw [9] (fun s9 wr => ∃ k : Nat, PL ≤ k ∧ k ≤ R - 1 ∧ s9 = .int .i64 (k : Nat) ∧ Hid (DI s R C B2 hb GB gcap rb ro rc w1 wr (shownI s tp ++ pads s PL k) cx cy)) (fun s9 _ => R - (intOf s9).toNat)
          case atStart => exact ⟨PL, Nat.le_refl _, hPLb, rfl, Lib.hid (by rw [pads_same, List.append_nil]; exact HDS.out)⟩
          case round =>
            obtain ⟨k, hk1, hk2, rfl, HD⟩ := hrel
            obtain ⟨⟨y0, y1, y2, y3, y4, y5, y6⟩, _⟩ := HS7.out wr HD.out.bel
            have hlen : (shownI s tp ++ pads s PL k).length = k := by rw [List.length_append, pads_len, ← HPL.out]; omega
            have HLEN := Lib.hid hlen
            clear hlen
            by_cases hkr : k < R - 1
            · have hkr2 : (k : Int) < (R : Int) - 1 := by omega
              by_cases hz : k = 0 ∧ n = 0
              · have HNX : Hid (DI s R C B2 hb GB gcap rb ro rc w1 wr (shownI s tp ++ pads s PL (k + 1)) cx cy) := Lib.hid (by
                  have h0 := HD.out.blank (by rw [HLEN.out]; omega)
                  have e : padI s k = ([], none) := by unfold padI; rw [if_pos ⟨hz.1, by rw [← HN.out]; exact hz.2⟩]
                  rw [pads_succ s hk1, ← List.append_assoc, e]; exact h0)
                have d1 : decide ((0 : Int) < (k : Int)) = false := decide_eq_false (by omega)
                have d2 : decide (0 < n) = false := decide_eq_false (by omega)
                have d3 : decide (0 < k) = false := decide_eq_false (by omega)
                clear hz
                go_wp2_with fail
                exact ⟨⟨k + 1, by omega, by omega, by go_num, HNX⟩, by simp [intOf]; omega⟩
              · have HNX : Hid (DI s R C B2 hb GB gcap rb ro rc w1 (wr.setCell ⟨rb k, ro k, none⟩ (.int .u8 126)) (shownI s tp ++ pads s PL (k + 1)) cx cy) := Lib.hid (by
                  have h0 := HD.out.tilde (by rw [HLEN.out]; omega) (by omega)
                  have e : padI s k = ([126], none) := by unfold padI; rw [if_neg (by rw [← HN.out]; exact hz)]
                  rw [HLEN.out] at h0
                  rw [pads_succ s hk1, ← List.append_assoc, e]; exact h0)
                obtain ⟨g0, g1, g2⟩ := HD.out.head (by rw [HLEN.out]; omega) (by omega)
                rw [HLEN.out] at g0 g1 g2
                have b2 := HD.out.box.c2
                have hkR : (k : Int) < (R : Int) := by omega
                have hkR2 : k < R := by omega
                have hC0 : (0 : Int) < (C : Int) := by omega
                have hC1 : 0 < C := by omega
                by_cases hk0 : 0 < k
                · have hk3 : (0 : Int) < (k : Int) := by omega
                  clear hz
                  go_wp2_with fail
                  exact ⟨⟨k + 1, by omega, by omega, by go_num, HNX⟩, by simp [intOf]; omega⟩
                · have hn0 : 0 < n := by omega
                  have hn3 : (0 : Int) < (n : Int) := by omega
                  have d1 : decide ((0 : Int) < (k : Int)) = false := decide_eq_false (by omega)
                  have d3 : decide (0 < k) = false := decide_eq_false (by omega)
                  clear hz
                  go_wp2_with fail
                  exact ⟨⟨k + 1, by omega, by omega, by go_num, HNX⟩, by simp [intOf]; omega⟩
            · have hkr2 : ¬ (k : Int) < (R : Int) - 1 := by omega
              have hk3 : k = R - 1 := by omega
              have HK3 := Lib.hid hk3
              have CST := Lib.hid (sstatus_any s _ wr (HKN.out wr (HKB.out wr HD.out.bel)).2.2.2 (HSV.out wr (HKN.out wr (HKB.out wr HD.out.bel)).2.2.1) HF.out)
              have hstl : (statT s).length ≤ 100000 := by
                have hst := HF.out.lim.st
                have h2 := (cellsTo_len s.status.data.toList s.status.size (Nat.le_refl _)).2
                have h4 : (lcells s.status).length = (cellsTo s.status.data.toList s.status.size).length := rfl
                unfold statT
                split
                · rw [List.length_drop]; omega
                · omega
              have HSTL := Lib.hid hstl
              clear hk3 hstl
              go_wp2_with fail
              (with_reducible refine CST.out.mono ?_); rintro e w7 ⟨rfl, hb7⟩
              have HD7 := Lib.hid (HD.out.later hb7)
              clear y0 y1 y2 y3 y4 y5 y6 CST hb7
              obtain ⟨⟨y0, y1, y2, y3, y4, y5, y6⟩, _⟩ := HS7.out w7 HD7.out.bel
              have v0 := HD7.out.box.c0
              have v1 := HD7.out.box.c1
              have v2 := HD7.out.box.c2
              have v3 := HD7.out.box.c3
              have v4 := HD7.out.box.c4
              have CPT : Hid (Calls Tryd.prog 39 #[.agg #[.int .i64 (R : Int), .int .i64 (C : Int), .slice (some ⟨hb, 0, none⟩) R gcap, .int .i64 cx, .int .i64 cy], .int .i64 ((R : Int) - 1), .string ⟨(statT s).toArray⟩] w7 fun e w' => e = .returned (.tuple #[]) ∧ DI s R C B2 hb GB gcap rb ro rc w1 w' (allRows s tp) cx cy) := Lib.hid (by
                have h0 := put_row HD7.out (by rw [HLEN.out]; omega) (statT s) none HSTL.out
                rw [HLEN.out, show ((k : Nat) : Int) = (R : Int) - 1 by have := HK3.out; omega] at h0
                refine h0.mono ?_
                rintro e w' ⟨he, hd⟩
                refine ⟨he, ?_⟩
                have e : allRows s tp = shownI s tp ++ pads s PL k ++ [(statT s, none)] := by
                  unfold allRows
                  rw [← HPL.out, HK3.out, hd.rn]
                rw [e]; exact hd)
              obtain ⟨ST, hST⟩ : ∃ ST : ByteArray, ST = ⟨(statT s).toArray⟩ := ⟨_, rfl⟩
              rw [← hST] at CPT ⊢
              have HSZ2 : Hid (((ST.size : Nat) : Int) = ((statT s).length : Nat)) := Lib.hid (by rw [hST]; rfl)
              clear hST
              have hwr2 : IntKind.i64.wrap ((C : Int) - 1) = (C : Int) - 1 := IntWalk.i64_in _ ⟨by omega, by omega⟩
              go_wp2_with fail
              (with_reducible refine CPT.out.mono ?_); rintro e w8 ⟨rfl, hd8⟩
              have HD8 := Lib.hid hd8
              clear hd8 y0 y1 y2 y3 y4 y5 y6 v0 v1 v2 v3 v4 CPT
              obtain ⟨⟨y0, y1, y2, y3, y4, y5, y6⟩, _⟩ := HS7.out w8 HD8.out.bel
              cases hty : s.typing with
              | false =>
                have HTY := Lib.hid hty
                rw [hty] at y4
                clear hty
                have hgx : ∃ gx, gx = cx := ⟨_, rfl⟩
                obtain ⟨gx, rfl⟩ := hgx
                have hgy : ∃ gy, gy = cy := ⟨_, rfl⟩
                obtain ⟨gy, rfl⟩ := hgy
                have b0 := (HB5.out.below (HKB.out _ HD8.out.bel) HB5.out.lt').c0
                have b1 := (HB5.out.below (HKB.out _ HD8.out.bel) HB5.out.lt').c1
                have b2 := (HB5.out.below (HKB.out _ HD8.out.bel) HB5.out.lt').c2
                have b3 := (HB5.out.below (HKB.out _ HD8.out.bel) HB5.out.lt').c3
                have b4 := (HB5.out.below (HKB.out _ HD8.out.bel) HB5.out.lt').c4
                have f0 := (HB5.out.below (HKB.out _ HD8.out.bel) HB5.out.lt').free 0
                have f1 := (HB5.out.below (HKB.out _ HD8.out.bel) HB5.out.lt').free 1
                have f2 := (HB5.out.below (HKB.out _ HD8.out.bel) HB5.out.lt').free 2
                have f3 := (HB5.out.below (HKB.out _ HD8.out.bel) HB5.out.lt').free 3
                have f4 := (HB5.out.below (HKB.out _ HD8.out.bel) HB5.out.lt').free 4
                have z0 := HD8.out.box.c0
                have z1 := HD8.out.box.c1
                have z2 := HD8.out.box.c2
                have z3 := HD8.out.box.c3
                have z4 := HD8.out.box.c4
                have FZ := Lib.hid (FIN0.out _ _ _ HD8.out)
                have HBZ := Lib.hid (HB5.out.below (HKB.out _ HD8.out.bel) HB5.out.lt')
                go_upto_region 32 with fail
                rename_i KK hKK
                have HKK := Lib.hid hKK
                clear hKK
                go_wp2_with fail
                refine HKK.out _ _ ?_
                apply wp_ret
                generalize hW' : World.setCell (World.setCell (World.setCell (World.setCell (World.setCell _ _ _) _ _) _ _) _ _) _ _ = W'
                have hbox := HBZ.out.sets (.int .i64 (R : Int)) (.int .i64 (C : Int)) (.slice (some ⟨hb, 0, none⟩) R gcap) (.int .i64 gx) (.int .i64 gy)
                have hq := FZ.out W' hW'.symm (by rw [HTY.out]; simp)
                rw [hW'] at hbox
                clear hW' b0 b1 b2 b3 b4 f0 f1 f2 f3 f4 z0 z1 z2 z3 z4
                have a0 := hbox.c0
                have a1 := hbox.c1
                have a2 := hbox.c2
                have a3 := hbox.c3
                have a4 := hbox.c4
                have HQ := Lib.hid hq
                clear hq
                (try simp only [Exit.inBlock, Exit.then])
                refine bodyPost_ret (by simp [results, Tryd.results17, go_sem, a0, a1, a2, a3, a4]; try rfl) rfl ?_
                exact HQ.out
              | true =>
                have HTY := Lib.hid hty
                rw [hty] at y4
                clear hty
                obtain ⟨mn, hmn⟩ : ∃ mn : Int, min ((ST.size : Nat) : Int) ((C : Int) - 1) = mn := ⟨_, rfl⟩
                have HMN := Lib.hid hmn
                have v3 := HD8.out.box.c3
                have v4 := HD8.out.box.c4
                have f3 := HD8.out.box.free 3
                have f4 := HD8.out.box.free 4
                go_upto_region 31 with fail
                go_region
                have HDC := Lib.hid ((HD8.out.cur (by rw [all_len s tp HF.out.r2, HD8.out.rn]; exact Nat.le_refl _) ((R : Int) - 1) mn).later (Below.refl _ _).drew)
                clear v3 v4 f3 f4 hmn
                obtain ⟨gx, hgx⟩ : ∃ gx : Int, gx = (R : Int) - 1 := ⟨_, rfl⟩
                obtain ⟨gy, hgy⟩ : ∃ gy : Int, gy = mn := ⟨_, rfl⟩
                have HGX := Lib.hid hgx
                have HGY : Hid (gy = min ((statT s).length : Int) ((C : Int) - 1)) := Lib.hid (by rw [hgy, ← HMN.out, HSZ2.out])
                have HDD0 : Hid (DI s R C B2 hb GB gcap rb ro rc w1 (World.drew ((w8.setCell ⟨GB, 3, none⟩ (.int .i64 ((R : Int) - 1))).setCell ⟨GB, 4, none⟩ (.int .i64 mn))) (allRows s tp) gx gy) := Lib.hid (by rw [hgx, hgy]; exact HDC.out)
                clear HDC hgx hgy
                generalize hw9 : World.drew (World.setCell (World.setCell w8 _ _) _ _) = w9 at HDD0 ⊢
                have HDD := Lib.hid HDD0.out
                clear HDD0 hw9
                have b0 := (HB5.out.below (HKB.out _ HDD.out.bel) HB5.out.lt').c0
                have b1 := (HB5.out.below (HKB.out _ HDD.out.bel) HB5.out.lt').c1
                have b2 := (HB5.out.below (HKB.out _ HDD.out.bel) HB5.out.lt').c2
                have b3 := (HB5.out.below (HKB.out _ HDD.out.bel) HB5.out.lt').c3
                have b4 := (HB5.out.below (HKB.out _ HDD.out.bel) HB5.out.lt').c4
                have f0 := (HB5.out.below (HKB.out _ HDD.out.bel) HB5.out.lt').free 0
                have f1 := (HB5.out.below (HKB.out _ HDD.out.bel) HB5.out.lt').free 1
                have f2 := (HB5.out.below (HKB.out _ HDD.out.bel) HB5.out.lt').free 2
                have f3 := (HB5.out.below (HKB.out _ HDD.out.bel) HB5.out.lt').free 3
                have f4 := (HB5.out.below (HKB.out _ HDD.out.bel) HB5.out.lt').free 4
                have z0 := HDD.out.box.c0
                have z1 := HDD.out.box.c1
                have z2 := HDD.out.box.c2
                have z3 := HDD.out.box.c3
                have z4 := HDD.out.box.c4
                have FZ := Lib.hid (FIN0.out _ _ _ HDD.out)
                have HBZ := Lib.hid (HB5.out.below (HKB.out _ HDD.out.bel) HB5.out.lt')
                go_upto_region 32 with fail
                rename_i KK hKK
                have HKK := Lib.hid hKK
                clear hKK
                go_wp2_with fail
                refine HKK.out _ _ ?_
                apply wp_ret
                generalize hW' : World.setCell (World.setCell (World.setCell (World.setCell (World.setCell _ _ _) _ _) _ _) _ _) _ _ = W'
                have hbox := HBZ.out.sets (.int .i64 (R : Int)) (.int .i64 (C : Int)) (.slice (some ⟨hb, 0, none⟩) R gcap) (.int .i64 gx) (.int .i64 gy)
                have hq := FZ.out W' hW'.symm (by rw [if_pos HTY.out]; exact ⟨HGX.out, HGY.out⟩)
                rw [hW'] at hbox
                clear hW' b0 b1 b2 b3 b4 f0 f1 f2 f3 f4 z0 z1 z2 z3 z4
                have a0 := hbox.c0
                have a1 := hbox.c1
                have a2 := hbox.c2
                have a3 := hbox.c3
                have a4 := hbox.c4
                have HQ := Lib.hid hq
                clear hq
                (try simp only [Exit.inBlock, Exit.then])
                refine bodyPost_ret (by simp [results, Tryd.results17, go_sem, a0, a1, a2, a3, a4]; try rfl) rfl ?_
                exact HQ.out
  · obtain ⟨a, c, rfl, hX⟩ := h
    have HX := Lib.hid hX
    have HTB := Lib.hid hT
    obtain ⟨n, hn⟩ : ∃ n, n = s.lines.length := ⟨_, rfl⟩
    have HN := Lib.hid hn
    obtain ⟨line, hline⟩ : ∃ x, x = s.line := ⟨_, rfl⟩
    have HLI := Lib.hid hline
    rw [hch] at CC
    have HE2 : Hid (drawE s top = 2) := Lib.hid (by unfold drawE; rw [if_neg (by rw [hch]; decide), hch])
    rw [← hn] at HX CC ⊢
    rw [← hline] at CC ⊢
    clear hX hT hn hline hch hl
    have CC2 : Hid (∀ wx, Below w.heap.size w wx → Calls Tryd.prog 34 #[.agg #[.slice a n c, .int .i64 line, .int .i64 s.col, .string s.status, .bool s.typing, .int .i64 s.rows, .int .i64 s.cols]] wx fun e w' => e = .returned (.int .i64 2) ∧ Below wx.heap.size wx w') := Lib.hid (fun wx hb => (CC wx ⟨a, c, by rw [← HN.out, ← HLI.out], by rw [← HN.out]; exact HX.out.later hb⟩).out)
    clear CC
    go_enter Tryd.func17, Tryd.ntmps17
    go_upto_region 1 with fail
    obtain ⟨W, hW, hbW, hsW, hbox, hbox5⟩ := box75_new w (.slice a n c) (.int .i64 line) (.int .i64 s.col) (.string s.status) (.bool s.typing) (.int .i64 s.rows) (.int .i64 s.cols) 26 37
    rw [hW]
    clear hW
    have HB := Lib.hid hbox
    have HBW := Lib.hid hbW
    have HB50 := Lib.hid hbox5
    have x0 := hbox.c0
    have x1 := hbox.c1
    have x2 := hbox.c2
    have x3 := hbox.c3
    have x4 := hbox.c4
    have x5 := hbox.c5
    have x6 := hbox.c6
    clear hbox hsW hbox5
    obtain ⟨B0, hB0⟩ : ∃ B, B = w.heap.size := ⟨_, rfl⟩
    have HB0 := Lib.hid hB0
    rw [← hB0] at HB HB50 x0 x1 x2 x3 x4 x5 x6 ⊢
    clear hB0
    obtain ⟨B4, hB4⟩ : ∃ B, B = B0 + 1 := ⟨_, rfl⟩
    have HB04 := Lib.hid hB4
    rw [← hB4] at HB50 ⊢
    clear hB4
    have HB4 : Hid (w.heap.size ≤ B4) := Lib.hid (by have := HB0.out; have := HB04.out; omega)
    have C1 := CC2.out W hbW
    clear CC2
    go_wp2_with fail
    (with_reducible refine C1.mono ?_); rintro e w1 ⟨rfl, hb1⟩
    have HBEL : Hid (Below w.heap.size w w1) := Lib.hid (below_tr hbW hb1)
    have HB5 : Hid (Box5 w1 B4 37 (.int .i64 0) (.int .i64 0) (.slice none 0 0) (.int .i64 0) (.int .i64 0)) := Lib.hid (HB50.out.below hb1 HB50.out.lt')
    have HB1 := Lib.hid (HB.out.later hb1)
    clear C1 x0 x1 x2 x3 x4 x5 x6
    have b0 := HB5.out.c0
    have b1 := HB5.out.c1
    have b2 := HB5.out.c2
    have b3 := HB5.out.c3
    have b4 := HB5.out.c4
    have f0 := HB5.out.free 0
    have f1 := HB5.out.free 1
    have f2 := HB5.out.free 2
    have f3 := HB5.out.free 3
    have f4 := HB5.out.free 4
    go_upto_region 3 with fail
    rename_i KK hKK
    have HKK := Lib.hid hKK
    clear hKK
    go_wp2_with fail
    refine HKK.out _ _ ?_
    apply wp_ret
    generalize hW' : World.setCell (World.setCell (World.setCell (World.setCell (World.setCell _ _ _) _ _) _ _) _ _) _ _ = W'
    have hbox : Box5 W' B4 37 (.int .i64 0) (.int .i64 0) (.slice none 0 0) (.int .i64 0) (.int .i64 0) := by rw [← hW']; exact HB5.out.sets _ _ _ _ _
    have hoth : ∀ c : Nat, c ≠ B4 → W'.heap[c]? = w1.heap[c]? := fun c hc => by rw [← hW']; exact sets_other _ _ _ _ _ _ _ _ hc
    have hbelW : Below w.heap.size w W' := by rw [← hW']; exact Below_sets HBEL.out _ HB4.out _ _ _ _ _
    clear hW' b0 b1 b2 b3 b4 f0 f1 f2 f3 f4
    have a0 := hbox.c0
    have a1 := hbox.c1
    have a2 := hbox.c2
    have a3 := hbox.c3
    have a4 := hbox.c4
    have Hoth := Lib.hid hoth
    clear hoth
    refine bodyPost_ret (by simp [results, Tryd.results17, go_sem, a0, a1, a2, a3, a4]; try rfl) rfl ?_
    exact FIN2.out HE2.out _ hbelW
end Go.Proofs.YtnpdpfkoghhioaaDoor
