/- The chapter's screens: Check. -/
import Derived.Test.YtnpdpfkoghhioaaDoorXL
namespace Go.Proofs.YtnpdpfkoghhioaaDoor
open Go.RowKit

set_option maxRecDepth 100000 in
set_option maxHeartbeats 16000000 in
theorem rcheck_any (s : SH) (v : Value) (w : World) (h : ShowAt w v s) (hl : Lim s) :
    Calls Tryd.prog 36 #[v] w fun e w' => e = .returned (.int .i64 (checkS s)) ∧ Below w.heap.size w w' := by
  obtain ⟨a, c, rfl, ht⟩ := h
  have HT := Lib.hid ht
  obtain ⟨n, hn⟩ : ∃ n, n = s.lines.length := ⟨_, rfl⟩
  have HN := Lib.hid hn
  obtain ⟨line, hline⟩ : ∃ x, x = s.line := ⟨_, rfl⟩
  obtain ⟨col, hcol⟩ : ∃ x, x = s.col := ⟨_, rfl⟩
  have hn1 := hl.n
  have HCS : Hid (checkS s = if sizedB s.rows s.cols = true then (if line = 0 ∧ col = 0 ∧ n = 0 then 0 else if line < 1 ∨ (n : Int) < line ∨ col < 0 ∨ ((s.text line.toNat).size : Int) < col then 2 else 0) else 2) := Lib.hid (by
    rw [hn, hline, hcol]; rfl)
  obtain ⟨E, hE⟩ : ∃ E, E = checkS s := ⟨_, rfl⟩
  rw [← hE] at HCS ⊢
  rw [← hn, ← hline, ← hcol]
  rw [← hn] at HT hn1
  have HLT := Lib.hid hl.text
  clear ht hn hline hcol hl hE
  have CN := fun wx => Lib.hid (rnew_any s.rows s.cols wx)
  go_enter Tryd.func36, Tryd.ntmps36
  go_upto_region 1 with fail
  obtain ⟨W, hW, hbW, hsW, hbox⟩ := box7_new w (.slice a n c) (.int .i64 line) (.int .i64 col) (.string s.status) (.bool s.typing) (.int .i64 s.rows) (.int .i64 s.cols) 33
  rw [hW]
  clear hW
  have x5 := hbox.c5
  have x6 := hbox.c6
  by_cases hs : sizedB s.rows s.cols = true
  · simp only [hs, if_true] at CN HCS
    clear hs
    go_wp2_with fail
    (with_reducible refine (CN _).out.mono ?_); rintro e w1 ⟨⟨gv, rfl, hg⟩, hb1⟩
    obtain ⟨ga, gc, rfl, _⟩ := hg
    clear CN x5 x6
    have hbox1 := hbox.later hb1
    clear hbox hsW
    have y0 := fun o => (hbox1.later ((Below.refl _ _).alloc (Nat.le_refl _) o)).c0
    go_upto_region 5 with fail
    generalize hW2 : World.alloc w1 _ = W2
    have hb2 : Below w1.heap.size w1 W2 := by rw [← hW2]; exact (Below.refl _ _).alloc (Nat.le_refl _) _
    clear hW2 y0
    have z0 := (hbox1.later hb2).c0
    have z1 := (hbox1.later hb2).c1
    have z2 := (hbox1.later hb2).c2
    have hbe : Below w.heap.size w W2 := below_tr (below_tr hbW hb1) hb2
    have HTE := Lib.hid (HT.out.later hbe)
    clear hbox1 hbW hb1 hb2
    by_cases hn0 : n = 0
    · have n1 : ((n : Int) == 0) = true := by simpa using hn0
      have n2 : (n == 0) = true := by simpa using hn0
      have n3 : (n : Int) ≤ 0 := by omega
      by_cases l0 : line = 0
      · have l1 : (line == 0) = true := by simpa using l0
        by_cases c0 : col = 0
        · have c1 : (col == 0) = true := by simpa using c0
          have HE : Hid (E = 0) := Lib.hid (by rw [HCS.out]; rw [if_pos ⟨l0, c0, hn0⟩])
          clear HCS hn0 l0 c0
          go_wp2_with fail
          go_ret
          exact ⟨by rw [HE.out]; rfl, hbe⟩
        · have c1 : (col == 0) = false := by simpa using c0
          have HE : Hid (E = 2) := Lib.hid (by rw [HCS.out]; rw [if_neg (fun h => c0 h.2.1), if_pos (.inl (by omega))])
          have d1 : decide (line < 1) = true := decide_eq_true (by omega)
          clear HCS hn0 l0
          go_upto_region 7 with fail
          go_quiet (fail)
          go_wp2_with fail
          go_ret
          exact ⟨by rw [HE.out]; rfl, below_drewN hbe _⟩
      · have l1 : (line == 0) = false := by simpa using l0
        by_cases h1 : line < 1
        · have d1 : decide (line < 1) = true := decide_eq_true h1
          have HE : Hid (E = 2) := Lib.hid (by rw [HCS.out]; rw [if_neg (fun h => l0 h.1), if_pos (.inl h1)])
          clear HCS hn0 l0
          go_upto_region 7 with fail
          go_quiet (fail)
          go_wp2_with fail
          go_ret
          exact ⟨by rw [HE.out]; rfl, below_drewN hbe _⟩
        · have d1 : decide (line < 1) = false := decide_eq_false h1
          have d2 : decide ((n : Int) < line) = true := decide_eq_true (by omega)
          have HE : Hid (E = 2) := Lib.hid (by rw [HCS.out]; rw [if_neg (fun h => l0 h.1), if_pos (.inr (.inl (by omega)))])
          clear HCS hn0 l0
          go_upto_region 7 with fail
          go_quiet (fail)
          go_wp2_with fail
          go_ret
          exact ⟨by rw [HE.out]; rfl, below_drewN hbe _⟩
    · have n1 : ((n : Int) == 0) = false := by simpa using hn0
      have n2 : (n == 0) = false := by simpa using hn0
      have hno : ¬ (line = 0 ∧ col = 0 ∧ n = 0) := fun h => hn0 h.2.2
      go_upto_region 7 with fail
      by_cases h1 : line < 1
      · have d1 : decide (line < 1) = true := decide_eq_true h1
        have HE : Hid (E = 2) := Lib.hid (by rw [HCS.out]; rw [if_neg hno, if_pos (.inl h1)])
        clear HCS hn0 hno
        go_quiet (fail)
        go_wp2_with fail
        go_ret
        exact ⟨by rw [HE.out]; rfl, below_drewN hbe _⟩
      · have d1 : decide (line < 1) = false := decide_eq_false h1
        by_cases h2 : (n : Int) < line
        · have d2 : decide ((n : Int) < line) = true := decide_eq_true h2
          have HE : Hid (E = 2) := Lib.hid (by rw [HCS.out]; rw [if_neg hno, if_pos (.inr (.inl h2))])
          clear HCS hn0 hno
          go_quiet (fail)
          go_wp2_with fail
          go_ret
          exact ⟨by rw [HE.out]; rfl, below_drewN hbe _⟩
        · have d2 : decide ((n : Int) < line) = false := decide_eq_false h2
          by_cases h3 : col < 0
          · have d3 : decide (col < 0) = true := decide_eq_true h3
            have HE : Hid (E = 2) := Lib.hid (by rw [HCS.out]; rw [if_neg hno, if_pos (.inr (.inr (.inl h3)))])
            clear HCS hn0 hno
            go_quiet (fail)
            go_wp2_with fail
            go_ret
            exact ⟨by rw [HE.out]; rfl, below_drewN hbe _⟩
          · have d3 : decide (col < 0) = false := decide_eq_false h3
            obtain ⟨k, rfl⟩ : ∃ k : Nat, line = (k : Int) + 1 := ⟨(line - 1).toNat, by omega⟩
            have hkn : (k : Int) < (n : Int) := by omega
            have hkt : ((k : Int) + 1).toNat = k + 1 := by omega
            have HTX : Hid (s.lines[k]?.getD ByteArray.empty = s.text (k + 1)) := Lib.hid (by unfold SH.text; rw [Nat.add_sub_cancel])
            have htz := HLT.out (k + 1)
            rw [hkt] at HCS
            clear hkt HLT
            obtain ⟨tb, tq, rfl, htb, q1⟩ := HTE.out.get (k := k) (by rw [← HN.out]; omega)
            rw [HTX.out] at q1
            clear HTX HT HTE
            generalize s.text (k + 1) = tx at *
            have hsub : IntKind.i64.wrap ((k : Int) + 1 - 1) = (k : Int) := by rw [show (k : Int) + 1 - 1 = (k : Int) by omega]; exact IntWalk.i64_in _ ⟨by omega, by omega⟩
            by_cases h4 : (tx.size : Int) < col
            · have d4 : decide ((tx.size : Int) < col) = true := decide_eq_true h4
              have HE : Hid (E = 2) := Lib.hid (by rw [HCS.out]; rw [if_neg hno, if_pos (.inr (.inr (.inr h4)))])
              clear HCS hn0 hno
              go_quiet (fail)
              go_wp2_with fail
              go_ret
              exact ⟨by rw [HE.out]; rfl, below_drewN hbe _⟩
            · have d4 : decide ((tx.size : Int) < col) = false := decide_eq_false h4
              have HE : Hid (E = 0) := Lib.hid (by rw [HCS.out]; rw [if_neg hno, if_neg (by rintro (h | h | h | h); exact h1 h; exact h2 h; exact h3 h; exact h4 h)])
              clear HCS hn0 hno
              go_quiet (fail)
              go_wp2_with fail
              go_ret
              exact ⟨by rw [HE.out]; rfl, below_drewN hbe _⟩
  · have hs2 : sizedB s.rows s.cols = false := by cases e : sizedB s.rows s.cols; rfl; exact absurd e hs
    simp only [hs2, Bool.false_eq_true, if_false] at CN HCS
    have HE : Hid (E = 2) := HCS
    clear hs hs2 HCS
    go_wp2_with fail
    (with_reducible refine (CN _).out.mono ?_); rintro e w1 ⟨⟨gv, rfl, hg⟩, hb1⟩
    obtain ⟨ga, gc, rfl, _⟩ := hg
    clear CN x5 x6
    go_wp2_with fail
    go_ret
    exact ⟨by rw [HE.out]; rfl, below_tr hbW (below_tr hb1 ((Below.refl _ _).alloc (Nat.le_refl _) _))⟩
end Go.Proofs.YtnpdpfkoghhioaaDoor
