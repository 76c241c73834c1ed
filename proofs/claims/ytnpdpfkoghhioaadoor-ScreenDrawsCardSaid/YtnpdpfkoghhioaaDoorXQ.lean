/- The chapter's screens: Top. -/
import Derived.Test.YtnpdpfkoghhioaaDoorXP
namespace Go.Proofs.YtnpdpfkoghhioaaDoor
open Go.RowKit

set_option maxRecDepth 100000 in
set_option maxHeartbeats 16000000 in
theorem rctop_any (s : SH) (v : Value) (w : World) (hT : TabOK w) (h : ShowAt w v s) (hl : Lim s) (was : Int) :
    Calls Tryd.prog 15 #[v, .int .i64 was] w fun e w' => (∃ T : Nat, e = .returned (.tuple #[.int .i64 (T : Nat), .int .i64 (checkS s)]) ∧ (checkS s = 0 → TopIs s was T) ∧ (checkS s ≠ 0 → T = 0)) ∧ Below w.heap.size w w' := by
  have CC := fun wx hx => Lib.hid (rcheck_any s v wx hx hl)
  have hch := check_or s
  obtain ⟨a, c, rfl, hX⟩ := h
  have HX := Lib.hid hX
  have HTB := Lib.hid hT
  have HLM := Lib.hid hl
  obtain ⟨QQ, hK0⟩ : ∃ QQ : Ending → World → Prop, QQ = fun e w' => (∃ T : Nat, e = .returned (.tuple #[.int .i64 (T : Nat), .int .i64 (checkS s)]) ∧ (checkS s = 0 → TopIs s was T) ∧ (checkS s ≠ 0 → T = 0)) ∧ Below w.heap.size w w' := ⟨_, rfl⟩
  have HK := Lib.hid hK0
  rw [← hK0]
  clear hK0
  obtain ⟨n, hn⟩ : ∃ n, n = s.lines.length := ⟨_, rfl⟩
  have HN := Lib.hid hn
  have hn1 := hl.n
  rw [← hn] at HX hn1 ⊢
  obtain ⟨E, hE⟩ : ∃ E, E = checkS s := ⟨_, rfl⟩
  have HE := Lib.hid hE
  rw [← hE] at hch CC
  obtain ⟨line, hline⟩ : ∃ x, x = s.line := ⟨_, rfl⟩
  have HLI := Lib.hid hline
  obtain ⟨rows, hrows⟩ : ∃ x, x = s.rows := ⟨_, rfl⟩
  have HRW := Lib.hid hrows
  have HSV : Hid (∀ wx, Below w.heap.size w wx → ShowAt wx (.agg #[.slice a n c, .int .i64 line, .int .i64 s.col, .string s.status, .bool s.typing, .int .i64 rows, .int .i64 s.cols]) s) := Lib.hid (fun wx hb => ⟨a, c, by rw [hn, hline, hrows], by rw [← hn]; exact HX.out.later hb⟩)
  rw [← hline, ← hrows]
  clear hX hT hl hn hE hline hrows
  have CC2 : Hid (∀ wx, Below w.heap.size w wx → Calls Tryd.prog 36 #[.agg #[.slice a n c, .int .i64 line, .int .i64 s.col, .string s.status, .bool s.typing, .int .i64 rows, .int .i64 s.cols]] wx fun e w' => e = .returned (.int .i64 E) ∧ Below wx.heap.size wx w') := Lib.hid (fun wx hb => by
    have h0 := CC wx
    rw [← HN.out, ← HLI.out, ← HRW.out] at h0
    exact (h0 (HSV.out wx hb)).out)
  clear CC
  go_enter Tryd.func15, Tryd.ntmps15
  go_upto_region 1 with fail
  obtain ⟨W, hW, hbW, hsW, hbox⟩ := box7_new w (.slice a n c) (.int .i64 line) (.int .i64 s.col) (.string s.status) (.bool s.typing) (.int .i64 rows) (.int .i64 s.cols) 33
  rw [hW]
  clear hW
  have HB := Lib.hid hbox
  have HBW := Lib.hid hbW
  have x0 := hbox.c0
  have x1 := hbox.c1
  have x2 := hbox.c2
  have x3 := hbox.c3
  have x4 := hbox.c4
  have x5 := hbox.c5
  have x6 := hbox.c6
  clear hbox hsW
  obtain ⟨B, hBB⟩ : ∃ B, B = w.heap.size := ⟨_, rfl⟩
  have HBB := Lib.hid hBB
  rw [← hBB] at HB x0 x1 x2 x3 x4 x5 x6 ⊢
  clear hBB
  go_wp2_with fail
  (with_reducible refine (CC2.out _ hbW).mono ?_); rintro e w1 ⟨rfl, hb1⟩
  have hbel1 : Below w.heap.size w w1 := below_tr hbW hb1
  have HB1 := Lib.hid (HB.out.later hb1)
  clear x0 x1 x2 x3 x4 x5 x6 hbW hb1
  have x0 := HB1.out.c0
  have x1 := HB1.out.c1
  have x5 := HB1.out.c5
  rcases hch with h0 | h2
  · have hE0 : checkS s = 0 := by rw [← HE.out]; exact h0
    subst h0
    have HFit := Lib.hid (fit_of HLM.out hE0)
    obtain ⟨hb1, hb2⟩ := check_ok hE0
    have hr2 : 2 ≤ rows ∧ rows ≤ 60 := by rw [HRW.out]; exact ⟨hb1.1, hb1.2.1⟩
    have HE0 := Lib.hid hE0
    clear hb1 hE0
    by_cases hn0 : n = 0
    · have hn2 : ((n : Int) == 0) = true := by simpa using hn0
      have hn3 : (n == 0) = true := by simpa using hn0
      have FIN : QQ (.returned (.tuple #[.int .i64 1, .int .i64 0])) w1 := by
        rw [HK.out]
        exact ⟨⟨1, by rw [HE0.out]; rfl, fun _ => .inl ⟨by rw [← HN.out]; exact hn0, rfl⟩, fun h => absurd HE0.out h⟩, hbel1⟩
      have HFN := Lib.hid FIN
      clear FIN hn0 hb2
      go_wp2_with fail
      exact HFN.out
    · have hn2 : ((n : Int) == 0) = false := by simpa using hn0
      have hn3 : (n == 0) = false := by simpa using hn0
      have hpos : 1 ≤ line ∧ line ≤ n := by
        rw [HLI.out, HN.out]
        rcases hb2 with h | h
        · exact absurd (HN.out.trans h.2.2) hn0
        · exact ⟨h.2.1, h.2.2.1⟩
      obtain ⟨t0, ht0⟩ : ∃ t0 : Nat, max (min was (n : Int)) 1 = (t0 : Int) := ⟨(max (min was (n : Int)) 1).toNat, by omega⟩
      have ht1 : 1 ≤ t0 ∧ t0 ≤ n := by omega
      have HT0 : Hid (top0 s was = (t0 : Int)) := Lib.hid (by unfold top0; rw [← HN.out]; omega)
      have HN0 : Hid (s.lines.length ≠ 0) := Lib.hid (by rw [← HN.out]; exact hn0)
      clear hb2 hn0
      obtain ⟨l, rfl⟩ : ∃ l : Nat, line = (l : Int) := ⟨line.toNat, by omega⟩
      have CN : Hid (∀ (t : Nat) (wx : World), 1 ≤ t → t ≤ 1000 → Below w.heap.size w wx → Calls Tryd.prog 37 #[.agg #[.slice a n c, .int .i64 (l : Int), .int .i64 s.col, .string s.status, .bool s.typing, .int .i64 rows, .int .i64 s.cols], .int .i64 (t : Nat)] wx fun e w' => (e = .returned (.int .i64 (need s t : Nat)) ∧ need s t ≤ 10000000) ∧ Below wx.heap.size wx w') := Lib.hid (fun t wx h1 h2 hb =>
        rneed_any s _ wx (HTB.out.later hb) (HSV.out wx hb) HFit.out (by rw [← HLI.out, ← HN.out]; exact hpos) t h1 (by omega))
      have HSB : Hid (∀ wx, Below w1.heap.size w1 wx → (wx.cell? ⟨B, 0, none⟩ = some (.slice a n c) ∧ wx.cell? ⟨B, 1, none⟩ = some (.int .i64 (l : Int)) ∧ wx.cell? ⟨B, 2, none⟩ = some (.int .i64 s.col) ∧ wx.cell? ⟨B, 3, none⟩ = some (.string s.status) ∧ wx.cell? ⟨B, 4, none⟩ = some (.bool s.typing) ∧ wx.cell? ⟨B, 5, none⟩ = some (.int .i64 rows) ∧ wx.cell? ⟨B, 6, none⟩ = some (.int .i64 s.cols)) ∧ Below w1.heap.size w1 wx) := Lib.hid (fun wx hb => by
        have g := HB1.out.later hb
        exact ⟨⟨g.c0, g.c1, g.c2, g.c3, g.c4, g.c5, g.c6⟩, hb⟩)
      have hbr : IntKind.i64.wrap (rows - 1) = rows - 1 := IntWalk.i64_in _ ⟨by omega, by omega⟩
      go_wp2_with fail
      go_loopw [8] (fun i wr => ∃ t : Nat, t0 ≤ t ∧ (t = t0 ∨ t ≤ l) ∧ i = .int .i64 (t : Nat) ∧ Hid (∀ j : Nat, t0 ≤ j → j < t → rows - 1 < (need s j : Int)) ∧ Below w1.heap.size w1 wr) (fun i _ => l - (intOf i).toNat)
      case atStart => exact ⟨t0, Nat.le_refl _, .inl rfl, rfl, Lib.hid (fun j h1 h2 => by omega), Below.refl _ _⟩
      case round =>
        clear ht0 x0 x1 x5
        obtain ⟨t, h1, h2, rfl, hj, hbel⟩ := hrel
        have g1 := (HSB.out _ hbel).1.2.1
        by_cases hlt : t < l
        · have FIN : Hid (∀ wz, (need s t : Int) ≤ rows - 1 → Below w1.heap.size w1 wz → QQ (.returned (.tuple #[.int .i64 (t : Nat), .int .i64 0])) wz) := Lib.hid (fun wz he hbz => by
            rw [HK.out]
            exact ⟨⟨t, by rw [HE0.out], fun _ => .inr (.inr ⟨HN0.out, by rw [HT0.out, ← HLI.out]; omega, by rw [HT0.out]; omega, by rw [← HLI.out]; omega, fun j g1 g2 => by rw [HT0.out] at g1; rw [← HRW.out]; exact hj.out j (by omega) g2, by rw [← HRW.out]; exact .inr he⟩), fun h => absurd HE0.out h⟩, below_tr hbel1 hbz⟩)
          have CN1 := Lib.hid (CN.out t)
          obtain ⟨nd, hnd⟩ : ∃ nd, nd = need s t := ⟨_, rfl⟩
          have HND := Lib.hid hnd
          rw [← hnd] at CN1 FIN
          clear hnd
          have i9 : IntKind.i64.wrap ((t : Int) + 1) = (t : Int) + 1 := IntWalk.i64_in _ ⟨by omega, by omega⟩
          go_upto_region 10 with fail
          clear g1
          refine wp_region_held_drew (S := fun wx => (wx.cell? ⟨B, 0, none⟩ = some (.slice a n c) ∧ wx.cell? ⟨B, 1, none⟩ = some (.int .i64 (l : Int)) ∧ wx.cell? ⟨B, 2, none⟩ = some (.int .i64 s.col) ∧ wx.cell? ⟨B, 3, none⟩ = some (.string s.status) ∧ wx.cell? ⟨B, 4, none⟩ = some (.bool s.typing) ∧ wx.cell? ⟨B, 5, none⟩ = some (.int .i64 rows) ∧ wx.cell? ⟨B, 6, none⟩ = some (.int .i64 s.cols)) ∧ Below w1.heap.size w1 wx) (by kernel_rfl) (HSB.out _ hbel.drew) (fun hH => ?_)
          (refine hTake (i := 0) (v := ?_) rfl (by kernel_rfl) (by kernel_rfl) (by kernel_rfl) (fun _ _ _ h => h) (by kernel_rfl) ?_ (by assumption) ?_; rotate_left; focus (intro w' hS'; (try dsimp only at hS'); go_split_ands; (try go_simp); (try (with_reducible rfl)); done); try simp only [Act.put, List.setIfInBounds_toArray, List.set_cons_zero, List.set_cons_succ]); (refine hTake (i := 1) (v := ?_) rfl (by kernel_rfl) (by kernel_rfl) (by kernel_rfl) (fun _ _ _ h => h) (by kernel_rfl) ?_ (by assumption) ?_; rotate_left; focus (intro w' hS'; (try dsimp only at hS'); go_split_ands; (try go_simp); (try (with_reducible rfl)); done); try simp only [Act.put, List.setIfInBounds_toArray, List.set_cons_zero, List.set_cons_succ]); (refine hTake (i := 3) (v := ?_) rfl (by kernel_rfl) (by kernel_rfl) (by kernel_rfl) (fun _ _ _ h => h) (by kernel_rfl) ?_ (by assumption) ?_; rotate_left; focus (intro w' hS'; (try dsimp only at hS'); go_split_ands; (try go_simp); (try (with_reducible rfl)); done); try simp only [Act.put, List.setIfInBounds_toArray, List.set_cons_zero, List.set_cons_succ]); (refine hTake (i := 4) (v := ?_) rfl (by kernel_rfl) (by kernel_rfl) (by kernel_rfl) (fun _ _ _ h => h) (by kernel_rfl) ?_ (by assumption) ?_; rotate_left; focus (intro w' hS'; (try dsimp only at hS'); go_split_ands; (try go_simp); (try (with_reducible rfl)); done); try simp only [Act.put, List.setIfInBounds_toArray, List.set_cons_zero, List.set_cons_succ]); (refine hTake (i := 5) (v := ?_) rfl (by kernel_rfl) (by kernel_rfl) (by kernel_rfl) (fun _ _ _ h => h) (by kernel_rfl) ?_ (by assumption) ?_; rotate_left; focus (intro w' hS'; (try dsimp only at hS'); go_split_ands; (try go_simp); (try (with_reducible rfl)); done); try simp only [Act.put, List.setIfInBounds_toArray, List.set_cons_zero, List.set_cons_succ])
          refine hOne (i := 2) rfl (by kernel_rfl) (fun K hK => ?_)
          go_simp
          refine (CN1.out _ (by omega) (by omega) (below_tr hbel1 hH.2)).mono ?_
          rintro e w3 ⟨⟨rfl, hr2⟩, hb3⟩
          have hbel3 := below_tr hH.2 hb3
          go_wp2_with fail
          refine hK.out _ _ (HSB.out _ hbel3) (fun hH => ?_)
          clear hK K
          by_cases hgt : (nd : Int) ≤ rows - 1
          · have hd : decide ((nd : Int) ≤ rows - 1) = true := decide_eq_true hgt
            (refine hTake (i := 6) (v := ?_) rfl (by kernel_rfl) (by kernel_rfl) (by kernel_rfl) (fun _ _ _ h => h) (by kernel_rfl) ?_ (by assumption) ?_; rotate_left; focus (intro w' hS'; (try dsimp only at hS'); go_split_ands; (try go_simp); (try (with_reducible rfl)); done); try simp only [Act.put, List.setIfInBounds_toArray, List.set_cons_zero, List.set_cons_succ])
            refine wpAnyH_done (by kernel_rfl) ?_ _
            clear hH hb3 hbel
            go_wp2_with fail
            exact FIN.out _ hgt hbel3
          · have hd : decide ((nd : Int) ≤ rows - 1) = false := decide_eq_false hgt
            (refine hTake (i := 6) (v := ?_) rfl (by kernel_rfl) (by kernel_rfl) (by kernel_rfl) (fun _ _ _ h => h) (by kernel_rfl) ?_ (by assumption) ?_; rotate_left; focus (intro w' hS'; (try dsimp only at hS'); go_split_ands; (try go_simp); (try (with_reducible rfl)); done); try simp only [Act.put, List.setIfInBounds_toArray, List.set_cons_zero, List.set_cons_succ])
            refine wpAnyH_done (by kernel_rfl) ?_ _
            clear hH hb3 hbel
            go_wp2_with fail
            exact ⟨⟨t + 1, by omega, .inr (by omega), by go_num, Lib.hid (fun j g1 g2 => by
              by_cases hjt : j < t
              · exact hj.out j g1 hjt
              · obtain rfl : j = t := by omega
                have := HND.out
                omega), hbel3⟩, by simp [intOf]; omega⟩
        · have FIN : Hid (∀ wz, Below w1.heap.size w1 wz → QQ (.returned (.tuple #[.int .i64 (l : Nat), .int .i64 0])) wz) := Lib.hid (fun wz hbz => by
            rw [HK.out]
            refine ⟨⟨l, by rw [HE0.out], fun _ => ?_, fun h => absurd HE0.out h⟩, below_tr hbel1 hbz⟩
            by_cases htl : t = t0
            · exact .inr (.inl ⟨HN0.out, by rw [HT0.out, ← HLI.out]; omega, HLI.out⟩)
            · have hte : t = l := by omega
              subst hte
              exact .inr (.inr ⟨HN0.out, by rw [HT0.out, ← HLI.out]; omega, by rw [HT0.out]; omega, by rw [← HLI.out]; exact Int.le_refl _, fun j g1 g2 => by rw [HT0.out] at g1; rw [← HRW.out]; exact hj.out j (by omega) g2, .inl HLI.out⟩))
          go_wp2_with fail
          exact FIN.out _ hbel
  · have HE2 : Hid (checkS s = 2) := Lib.hid (by rw [← HE.out]; exact h2)
    subst h2
    have FIN : Hid (QQ (.returned (.tuple #[.int .i64 0, .int .i64 2])) w1) := Lib.hid (by
      rw [HK.out]
      exact ⟨⟨0, by rw [HE2.out]; rfl, fun h => absurd (HE2.out.symm.trans h) (by decide), fun _ => rfl⟩, hbel1⟩)
    go_wp2_with fail
    exact FIN.out
end Go.Proofs.YtnpdpfkoghhioaaDoor
