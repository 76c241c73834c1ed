/- The chapter's screens: Need. -/
import Derived.Test.YtnpdpfkoghhioaaDoorXO
namespace Go.Proofs.YtnpdpfkoghhioaaDoor
open Go.RowKit

set_option maxRecDepth 100000 in
set_option maxHeartbeats 16000000 in
theorem rneed_any (s : SH) (v : Value) (w : World) (hT : TabOK w) (h : ShowAt w v s) (hF : Fit s) (hp : 1 ≤ s.line ∧ s.line ≤ s.lines.length) (top : Nat) (ht1 : 1 ≤ top) (ht2 : top ≤ 100000) :
    Calls Tryd.prog 37 #[v, .int .i64 (top : Nat)] w fun e w' => (e = .returned (.int .i64 (need s top : Nat)) ∧ need s top ≤ 10000000) ∧ Below w.heap.size w w' := by
  obtain ⟨a, c, rfl, hX⟩ := h
  have HX := Lib.hid hX
  have HTB := Lib.hid hT
  have HF := Lib.hid hF
  obtain ⟨n, hn⟩ : ∃ n, n = s.lines.length := ⟨_, rfl⟩
  have HN := Lib.hid hn
  obtain ⟨l, hll⟩ : ∃ l : Nat, s.line = (l : Int) := ⟨s.line.toNat, by omega⟩
  have HL := Lib.hid hll
  obtain ⟨rows, hrows⟩ : ∃ x, x = s.rows := ⟨_, rfl⟩
  obtain ⟨cols, hcols⟩ : ∃ x, x = s.cols := ⟨_, rfl⟩
  have HCL := Lib.hid hcols
  have hn1 := hF.lim.n
  have hb3 := hF.c8
  have hb4 := hF.c132
  rw [hll, ← hn] at hp
  rw [← hn] at HX hn1
  rw [← hcols] at hb3 hb4
  rw [hll, ← hn, ← hrows, ← hcols]
  have hnd : need s top = 1 + s.sum top l + (s.atOf l).1 := by unfold need; rw [hll]; rfl
  have HND := Lib.hid hnd
  obtain ⟨nd, hndd⟩ : ∃ nd, nd = need s top := ⟨_, rfl⟩
  have HNDD := Lib.hid hndd
  rw [← hndd]
  clear hX hT hF hn hll hrows hcols hnd hndd
  go_enter Tryd.func37, Tryd.ntmps37
  go_upto_region 1 with fail
  obtain ⟨W, hW, hbW, hsW, hbox⟩ := box7_new w (.slice a n c) (.int .i64 (l : Int)) (.int .i64 s.col) (.string s.status) (.bool s.typing) (.int .i64 rows) (.int .i64 cols) 33
  rw [hW]
  clear hW
  have HB := Lib.hid hbox
  have HBW := Lib.hid hbW
  clear hbox hsW
  obtain ⟨B, hBB⟩ : ∃ B, B = w.heap.size := ⟨_, rfl⟩
  have HBB := Lib.hid hBB
  rw [← hBB] at HB ⊢
  clear hBB hbW
  have HTX : ∀ wx, Below W.heap.size W wx → Hid (TextsAt wx (.slice a n c) s.lines ∧ TabOK wx ∧ Box7 wx B 33 (.slice a n c) (.int .i64 (l : Int)) (.int .i64 s.col) (.string s.status) (.bool s.typing) (.int .i64 rows) (.int .i64 cols)) := fun wx hb =>
    Lib.hid ⟨(HX.out.later HBW.out).later hb, (HTB.out.later HBW.out).later hb, HB.out.later hb⟩
  go_wp2_with fail
  go_loopw [5, 6] (fun nn i wr => ∃ k m : Nat, top ≤ k ∧ (k ≤ top ∨ k ≤ l) ∧ nn = .int .i64 (m : Nat) ∧ i = .int .i64 (k : Nat) ∧ m ≤ 1 + 9000 * k ∧ Hid (m = 1 + s.sum top k) ∧ Below W.heap.size W wr) (fun _ i _ => l + 1 - (intOf i).toNat)
  case atStart => exact ⟨top, 1, Nat.le_refl _, .inl (Nat.le_refl _), rfl, rfl, by omega, Lib.hid (by rw [sum_same s top]), Below.refl _ _⟩
  case round =>
    obtain ⟨k, m, hk1, hk2, rfl, rfl, hm, hsum, hbel⟩ := hrel
    obtain ⟨bx1, bx2, bx3⟩ := (HTX wr hbel).out
    have y0 := bx3.c0
    have y1 := bx3.c1
    have y2 := bx3.c2
    have y5 := bx3.c5
    have y6 := bx3.c6
    have HAT := Lib.hid (rat_any (s.text l) cols s.col)
    have hts := HF.out.lim.text l
    have hatle := (HF.out.at l).1
    by_cases hlt : k < l
    · obtain ⟨tb, tq, rfl, htb, q1⟩ := bx1.get (k := k - 1) (by rw [← HN.out]; omega)
      have HS1 : Hid (∀ wx, Below W.heap.size W wx → (wx.cell? ⟨B, 0, none⟩ = some (.slice (some ⟨tb, tq, none⟩) n c) ∧ wx.cell? ⟨B, 6, none⟩ = some (.int .i64 cols) ∧ wx.cell? ⟨tb, tq + (k - 1), none⟩ = some (.string (s.text k))) ∧ Below W.heap.size W wx) := Lib.hid (fun wx hb => by
        obtain ⟨g1, g2, g3⟩ := (HTX wx hb).out
        obtain ⟨tb', tq', e, _, q2⟩ := g1.get (k := k - 1) (by rw [← HN.out]; omega)
        injection e with e
        injection e with e1 e2
        subst e1 e2
        exact ⟨⟨g3.c0, g3.c6, q2⟩, hb⟩)
      have CRW : Hid (∀ wx, Below W.heap.size W wx → Calls Tryd.prog 28 #[.string (s.text k), .int .i64 cols] wx fun e w' => e = .returned (.int .i64 ((s.rowsOf k : Nat) : Int)) ∧ Below wx.heap.size wx w') := Lib.hid (fun wx hb => by
        have h0 := rrows_any (s.text k) cols wx (by have := HF.out.lim.text k; omega) (by omega)
        rw [HCL.out] at h0 ⊢
        exact h0)
      have hrk := HF.out.rows k
      generalize s.text k = tx at *
      obtain ⟨R, hR⟩ : ∃ R, R = s.rowsOf k := ⟨_, rfl⟩
      have HR := Lib.hid hR
      rw [← hR] at CRW hrk
      have i1 : (1 : Int) ≤ (k : Int) := by omega
      have i2 : 0 < k := by omega
      have i4 : (0 : Int) ≤ (k : Int) - 1 := by omega
      have i5 : (k : Int) - 1 < (n : Int) := by omega
      have i6 : ((k : Int) - 1).toNat = k - 1 := by omega
      have i7 : IntKind.i64.wrap ((k : Int) - 1) = (k : Int) - 1 := IntWalk.i64_in _ ⟨by omega, by omega⟩
      have i8 : IntKind.i64.wrap ((m : Int) + (R : Int)) = (m : Int) + (R : Int) := IntWalk.i64_in _ ⟨by omega, by omega⟩
      have i9 : IntKind.i64.wrap ((k : Int) + 1) = (k : Int) + 1 := IntWalk.i64_in _ ⟨by omega, by omega⟩
      have HM2 : Hid (m + R ≤ 1 + 9000 * (k + 1)) := Lib.hid (by omega)
      clear bx1 bx2 bx3 q1 y2 hR hts hatle hm
      go_upto_region 5 with fail
      refine wp_region_held_drew (S := fun wx => (wx.cell? ⟨B, 0, none⟩ = some (.slice (some ⟨tb, tq, none⟩) n c) ∧ wx.cell? ⟨B, 6, none⟩ = some (.int .i64 cols) ∧ wx.cell? ⟨tb, tq + (k - 1), none⟩ = some (.string tx)) ∧ Below W.heap.size W wx) (by kernel_rfl) (HS1.out _ hbel.drew) (fun hH => ?_)
      clear y0 y1 y5 y6
      (refine hTake (i := 0) (v := ?_) rfl (by kernel_rfl) (by kernel_rfl) (by kernel_rfl) (fun _ _ _ h => h) (by kernel_rfl) ?_ (by assumption) ?_; rotate_left; focus (intro w' hS'; (try dsimp only at hS'); go_split_ands; (try go_simp); (try (with_reducible rfl)); done); try simp only [Act.put, List.setIfInBounds_toArray, List.set_cons_zero, List.set_cons_succ]); (refine hTake (i := 1) (v := ?_) rfl (by kernel_rfl) (by kernel_rfl) (by kernel_rfl) (fun _ _ _ h => h) (by kernel_rfl) ?_ (by assumption) ?_; rotate_left; focus (intro w' hS'; (try dsimp only at hS'); go_split_ands; (try go_simp); (try (with_reducible rfl)); done); try simp only [Act.put, List.setIfInBounds_toArray, List.set_cons_zero, List.set_cons_succ]); (refine hTake (i := 2) (v := ?_) rfl (by kernel_rfl) (by kernel_rfl) (by kernel_rfl) (fun _ _ _ h => h) (by kernel_rfl) ?_ (by assumption) ?_; rotate_left; focus (intro w' hS'; (try dsimp only at hS'); go_split_ands; (try go_simp); (try (with_reducible rfl)); done); try simp only [Act.put, List.setIfInBounds_toArray, List.set_cons_zero, List.set_cons_succ]); (refine hTake (i := 3) (v := ?_) rfl (by kernel_rfl) (by kernel_rfl) (by kernel_rfl) (fun _ _ _ h => h) (by kernel_rfl) ?_ (by assumption) ?_; rotate_left; focus (intro w' hS'; (try dsimp only at hS'); go_split_ands; (try go_simp); (try (with_reducible rfl)); done); try simp only [Act.put, List.setIfInBounds_toArray, List.set_cons_zero, List.set_cons_succ]); (refine hTake (i := 4) (v := ?_) rfl (by kernel_rfl) (by kernel_rfl) (by kernel_rfl) (fun _ _ _ h => h) (by kernel_rfl) ?_ (by assumption) ?_; rotate_left; focus (intro w' hS'; (try dsimp only at hS'); go_split_ands; (try go_simp); (try (with_reducible rfl)); done); try simp only [Act.put, List.setIfInBounds_toArray, List.set_cons_zero, List.set_cons_succ]); (refine hTake (i := 5) (v := ?_) rfl (by kernel_rfl) (by kernel_rfl) (by kernel_rfl) (fun _ _ _ h => h) (by kernel_rfl) ?_ (by assumption) ?_; rotate_left; focus (intro w' hS'; (try dsimp only at hS'); go_split_ands; (try go_simp); (try (with_reducible rfl)); done); try simp only [Act.put, List.setIfInBounds_toArray, List.set_cons_zero, List.set_cons_succ]); (refine hTake (i := 6) (v := ?_) rfl (by kernel_rfl) (by kernel_rfl) (by kernel_rfl) (fun _ _ _ h => h) (by kernel_rfl) ?_ (by assumption) ?_; rotate_left; focus (intro w' hS'; (try dsimp only at hS'); go_split_ands; (try go_simp); (try (with_reducible rfl)); done); try simp only [Act.put, List.setIfInBounds_toArray, List.set_cons_zero, List.set_cons_succ]); (refine hTake (i := 7) (v := ?_) rfl (by kernel_rfl) (by kernel_rfl) (by kernel_rfl) (fun _ _ _ h => h) (by kernel_rfl) ?_ (by assumption) ?_; rotate_left; focus (intro w' hS'; (try dsimp only at hS'); go_split_ands; (try go_simp); (try (with_reducible rfl)); done); try simp only [Act.put, List.setIfInBounds_toArray, List.set_cons_zero, List.set_cons_succ]); (refine hTake (i := 8) (v := ?_) rfl (by kernel_rfl) (by kernel_rfl) (by kernel_rfl) (fun _ _ _ h => h) (by kernel_rfl) ?_ (by assumption) ?_; rotate_left; focus (intro w' hS'; (try dsimp only at hS'); go_split_ands; (try go_simp); (try (with_reducible rfl)); done); try simp only [Act.put, List.setIfInBounds_toArray, List.set_cons_zero, List.set_cons_succ])
      refine hOne (i := 9) rfl (by kernel_rfl) (fun K hK => ?_)
      go_simp
      refine (CRW.out _ hH.2).mono ?_
      rintro e w3 ⟨rfl, hb3⟩
      have hbel3 := below_tr hH.2 hb3
      go_wp2_with fail
      refine hK.out _ _ (HS1.out _ hbel3) (fun hH => ?_)
      clear hK K
      (refine hTake (i := 10) (v := ?_) rfl (by kernel_rfl) (by kernel_rfl) (by kernel_rfl) (fun _ _ _ h => h) (by kernel_rfl) ?_ (by assumption) ?_; rotate_left; focus (intro w' hS'; (try dsimp only at hS'); go_split_ands; (try go_simp); (try (with_reducible rfl)); done); try simp only [Act.put, List.setIfInBounds_toArray, List.set_cons_zero, List.set_cons_succ]); (refine hTake (i := 11) (v := ?_) rfl (by kernel_rfl) (by kernel_rfl) (by kernel_rfl) (fun _ _ _ h => h) (by kernel_rfl) ?_ (by assumption) ?_; rotate_left; focus (intro w' hS'; (try dsimp only at hS'); go_split_ands; (try go_simp); (try (with_reducible rfl)); done); try simp only [Act.put, List.setIfInBounds_toArray, List.set_cons_zero, List.set_cons_succ])
      refine wpAnyH_done (by kernel_rfl) ?_ _
      clear hH hb3 hbel
      go_wp2_with fail
      exact ⟨⟨k + 1, m + R, by omega, .inr (by omega), by go_num, by go_num, HM2.out, Lib.hid (by rw [sum_succ s hk1, ← HR.out, hsum.out]; omega), hbel3⟩, by simp [intOf]; omega⟩
    · have FIN : Hid ((m : Int) + ((s.atOf l).1 : Nat) = ((nd : Nat) : Int) ∧ nd ≤ 10000000) := Lib.hid (by
        have h3 := hsum.out
        have h4 : s.sum top k = s.sum top l := by
          by_cases hkt : k ≤ top
          · rw [sum_none s hkt, sum_none s (by omega)]
          · rw [show k = l by omega]
        have h5 : nd = 1 + s.sum top l + (s.atOf l).1 := by rw [HNDD.out, HND.out]
        have h6 : k ≤ 101000 := by omega
        have h7 : s.sum top k ≤ 9000 * 1000 := by
          by_cases hkt : k ≤ top
          · rw [sum_none s hkt]; omega
          · have : m ≤ 1 + 9000 * k := hm
            have : k ≤ 1000 := by omega
            omega
        constructor
        · omega
        · omega)
      have hmb : m ≤ 1 + 9000 * 101000 := by omega
      clear hm
      go_upto_region 6 with fail
      obtain ⟨tb, tq, rfl, htb, q1⟩ := bx1.get (k := l - 1) (by rw [← HN.out]; omega)
      have HS1 : Hid (∀ wx, Below W.heap.size W wx → (wx.cell? ⟨B, 0, none⟩ = some (.slice (some ⟨tb, tq, none⟩) n c) ∧ wx.cell? ⟨B, 1, none⟩ = some (.int .i64 (l : Int)) ∧ wx.cell? ⟨B, 2, none⟩ = some (.int .i64 s.col) ∧ wx.cell? ⟨B, 6, none⟩ = some (.int .i64 cols) ∧ wx.cell? ⟨tb, tq + (l - 1), none⟩ = some (.string (s.text l))) ∧ Below W.heap.size W wx) := Lib.hid (fun wx hb => by
        obtain ⟨g1, g2, g3⟩ := (HTX wx hb).out
        obtain ⟨tb', tq', e, _, q2⟩ := g1.get (k := l - 1) (by rw [← HN.out]; omega)
        injection e with e
        injection e with e1 e2
        subst e1 e2
        exact ⟨⟨g3.c0, g3.c1, g3.c2, g3.c6, q2⟩, hb⟩)
      have CAT : Hid (∀ wx, Below W.heap.size W wx → Calls Tryd.prog 26 #[.string (s.text l), .int .i64 cols, .int .i64 s.col] wx fun e w' => e = .returned (.tuple #[.int .i64 ((s.atOf l).1 : Nat), .int .i64 ((s.atOf l).2 : Nat)]) ∧ Below wx.heap.size wx w') := Lib.hid (fun wx hb => by
        have h0 := HAT.out wx (by omega) (by omega)
        rw [HCL.out] at h0 ⊢
        exact h0)
      generalize s.text l = tx at *
      generalize s.atOf l = at2 at *
      obtain ⟨A1, A2⟩ := at2
      generalize s.col = col at *
      have i1 : (1 : Int) ≤ (l : Int) := by omega
      have i2 : 0 < l := by omega
      have i4 : (0 : Int) ≤ (l : Int) - 1 := by omega
      have i5 : (l : Int) - 1 < (n : Int) := by omega
      have i6 : ((l : Int) - 1).toNat = l - 1 := by omega
      have i7 : IntKind.i64.wrap ((l : Int) - 1) = (l : Int) - 1 := IntWalk.i64_in _ ⟨by omega, by omega⟩
      have i8 : IntKind.i64.wrap ((m : Int) + (A1 : Int)) = (m : Int) + (A1 : Int) := IntWalk.i64_in _ ⟨by omega, by omega⟩
      clear bx1 bx2 bx3 q1 HAT
      refine wp_region_held_drew (S := fun wx => (wx.cell? ⟨B, 0, none⟩ = some (.slice (some ⟨tb, tq, none⟩) n c) ∧ wx.cell? ⟨B, 1, none⟩ = some (.int .i64 (l : Int)) ∧ wx.cell? ⟨B, 2, none⟩ = some (.int .i64 col) ∧ wx.cell? ⟨B, 6, none⟩ = some (.int .i64 cols) ∧ wx.cell? ⟨tb, tq + (l - 1), none⟩ = some (.string tx)) ∧ Below W.heap.size W wx) (by kernel_rfl) (HS1.out _ hbel.drew) (fun hH => ?_)
      clear y0 y1 y2 y5 y6
      (refine hTake (i := 0) (v := ?_) rfl (by kernel_rfl) (by kernel_rfl) (by kernel_rfl) (fun _ _ _ h => h) (by kernel_rfl) ?_ (by assumption) ?_; rotate_left; focus (intro w' hS'; (try dsimp only at hS'); go_split_ands; (try go_simp); (try (with_reducible rfl)); done); try simp only [Act.put, List.setIfInBounds_toArray, List.set_cons_zero, List.set_cons_succ]); (refine hTake (i := 1) (v := ?_) rfl (by kernel_rfl) (by kernel_rfl) (by kernel_rfl) (fun _ _ _ h => h) (by kernel_rfl) ?_ (by assumption) ?_; rotate_left; focus (intro w' hS'; (try dsimp only at hS'); go_split_ands; (try go_simp); (try (with_reducible rfl)); done); try simp only [Act.put, List.setIfInBounds_toArray, List.set_cons_zero, List.set_cons_succ]); (refine hTake (i := 2) (v := ?_) rfl (by kernel_rfl) (by kernel_rfl) (by kernel_rfl) (fun _ _ _ h => h) (by kernel_rfl) ?_ (by assumption) ?_; rotate_left; focus (intro w' hS'; (try dsimp only at hS'); go_split_ands; (try go_simp); (try (with_reducible rfl)); done); try simp only [Act.put, List.setIfInBounds_toArray, List.set_cons_zero, List.set_cons_succ]); (refine hTake (i := 3) (v := ?_) rfl (by kernel_rfl) (by kernel_rfl) (by kernel_rfl) (fun _ _ _ h => h) (by kernel_rfl) ?_ (by assumption) ?_; rotate_left; focus (intro w' hS'; (try dsimp only at hS'); go_split_ands; (try go_simp); (try (with_reducible rfl)); done); try simp only [Act.put, List.setIfInBounds_toArray, List.set_cons_zero, List.set_cons_succ]); (refine hTake (i := 4) (v := ?_) rfl (by kernel_rfl) (by kernel_rfl) (by kernel_rfl) (fun _ _ _ h => h) (by kernel_rfl) ?_ (by assumption) ?_; rotate_left; focus (intro w' hS'; (try dsimp only at hS'); go_split_ands; (try go_simp); (try (with_reducible rfl)); done); try simp only [Act.put, List.setIfInBounds_toArray, List.set_cons_zero, List.set_cons_succ]); (refine hTake (i := 5) (v := ?_) rfl (by kernel_rfl) (by kernel_rfl) (by kernel_rfl) (fun _ _ _ h => h) (by kernel_rfl) ?_ (by assumption) ?_; rotate_left; focus (intro w' hS'; (try dsimp only at hS'); go_split_ands; (try go_simp); (try (with_reducible rfl)); done); try simp only [Act.put, List.setIfInBounds_toArray, List.set_cons_zero, List.set_cons_succ]); (refine hTake (i := 6) (v := ?_) rfl (by kernel_rfl) (by kernel_rfl) (by kernel_rfl) (fun _ _ _ h => h) (by kernel_rfl) ?_ (by assumption) ?_; rotate_left; focus (intro w' hS'; (try dsimp only at hS'); go_split_ands; (try go_simp); (try (with_reducible rfl)); done); try simp only [Act.put, List.setIfInBounds_toArray, List.set_cons_zero, List.set_cons_succ]); (refine hTake (i := 7) (v := ?_) rfl (by kernel_rfl) (by kernel_rfl) (by kernel_rfl) (fun _ _ _ h => h) (by kernel_rfl) ?_ (by assumption) ?_; rotate_left; focus (intro w' hS'; (try dsimp only at hS'); go_split_ands; (try go_simp); (try (with_reducible rfl)); done); try simp only [Act.put, List.setIfInBounds_toArray, List.set_cons_zero, List.set_cons_succ]); (refine hTake (i := 8) (v := ?_) rfl (by kernel_rfl) (by kernel_rfl) (by kernel_rfl) (fun _ _ _ h => h) (by kernel_rfl) ?_ (by assumption) ?_; rotate_left; focus (intro w' hS'; (try dsimp only at hS'); go_split_ands; (try go_simp); (try (with_reducible rfl)); done); try simp only [Act.put, List.setIfInBounds_toArray, List.set_cons_zero, List.set_cons_succ]); (refine hTake (i := 9) (v := ?_) rfl (by kernel_rfl) (by kernel_rfl) (by kernel_rfl) (fun _ _ _ h => h) (by kernel_rfl) ?_ (by assumption) ?_; rotate_left; focus (intro w' hS'; (try dsimp only at hS'); go_split_ands; (try go_simp); (try (with_reducible rfl)); done); try simp only [Act.put, List.setIfInBounds_toArray, List.set_cons_zero, List.set_cons_succ]); (refine hTake (i := 10) (v := ?_) rfl (by kernel_rfl) (by kernel_rfl) (by kernel_rfl) (fun _ _ _ h => h) (by kernel_rfl) ?_ (by assumption) ?_; rotate_left; focus (intro w' hS'; (try dsimp only at hS'); go_split_ands; (try go_simp); (try (with_reducible rfl)); done); try simp only [Act.put, List.setIfInBounds_toArray, List.set_cons_zero, List.set_cons_succ]); (refine hTake (i := 11) (v := ?_) rfl (by kernel_rfl) (by kernel_rfl) (by kernel_rfl) (fun _ _ _ h => h) (by kernel_rfl) ?_ (by assumption) ?_; rotate_left; focus (intro w' hS'; (try dsimp only at hS'); go_split_ands; (try go_simp); (try (with_reducible rfl)); done); try simp only [Act.put, List.setIfInBounds_toArray, List.set_cons_zero, List.set_cons_succ]); (refine hTake (i := 12) (v := ?_) rfl (by kernel_rfl) (by kernel_rfl) (by kernel_rfl) (fun _ _ _ h => h) (by kernel_rfl) ?_ (by assumption) ?_; rotate_left; focus (intro w' hS'; (try dsimp only at hS'); go_split_ands; (try go_simp); (try (with_reducible rfl)); done); try simp only [Act.put, List.setIfInBounds_toArray, List.set_cons_zero, List.set_cons_succ])
      refine hOne (i := 13) rfl (by kernel_rfl) (fun K hK => ?_)
      go_simp
      refine (CAT.out _ hH.2).mono ?_
      rintro e w3 ⟨rfl, hb3⟩
      have hbel3 := below_tr hH.2 hb3
      go_wp2_with fail
      refine hK.out _ _ (HS1.out _ hbel3) (fun hH => ?_)
      clear hK K
      (refine hTake (i := 14) (v := ?_) rfl (by kernel_rfl) (by kernel_rfl) (by kernel_rfl) (fun _ _ _ h => h) (by kernel_rfl) ?_ (by assumption) ?_; rotate_left; focus (intro w' hS'; (try dsimp only at hS'); go_split_ands; (try go_simp); (try (with_reducible rfl)); done); try simp only [Act.put, List.setIfInBounds_toArray, List.set_cons_zero, List.set_cons_succ]); (refine hTake (i := 15) (v := ?_) rfl (by kernel_rfl) (by kernel_rfl) (by kernel_rfl) (fun _ _ _ h => h) (by kernel_rfl) ?_ (by assumption) ?_; rotate_left; focus (intro w' hS'; (try dsimp only at hS'); go_split_ands; (try go_simp); (try (with_reducible rfl)); done); try simp only [Act.put, List.setIfInBounds_toArray, List.set_cons_zero, List.set_cons_succ]); (refine hTake (i := 16) (v := ?_) rfl (by kernel_rfl) (by kernel_rfl) (by kernel_rfl) (fun _ _ _ h => h) (by kernel_rfl) ?_ (by assumption) ?_; rotate_left; focus (intro w' hS'; (try dsimp only at hS'); go_split_ands; (try go_simp); (try (with_reducible rfl)); done); try simp only [Act.put, List.setIfInBounds_toArray, List.set_cons_zero, List.set_cons_succ]); (refine hTake (i := 17) (v := ?_) rfl (by kernel_rfl) (by kernel_rfl) (by kernel_rfl) (fun _ _ _ h => h) (by kernel_rfl) ?_ (by assumption) ?_; rotate_left; focus (intro w' hS'; (try dsimp only at hS'); go_split_ands; (try go_simp); (try (with_reducible rfl)); done); try simp only [Act.put, List.setIfInBounds_toArray, List.set_cons_zero, List.set_cons_succ]); (refine hTake (i := 18) (v := ?_) rfl (by kernel_rfl) (by kernel_rfl) (by kernel_rfl) (fun _ _ _ h => h) (by kernel_rfl) ?_ (by assumption) ?_; rotate_left; focus (intro w' hS'; (try dsimp only at hS'); go_split_ands; (try go_simp); (try (with_reducible rfl)); done); try simp only [Act.put, List.setIfInBounds_toArray, List.set_cons_zero, List.set_cons_succ])
      refine wpAnyH_done (by kernel_rfl) ?_ _
      clear hH hb3 hbel
      go_wp2_with fail
      go_ret
      exact ⟨⟨ret_int FIN.out.1, FIN.out.2⟩, below_tr HBW.out hbel3⟩
end Go.Proofs.YtnpdpfkoghhioaaDoor
