/- The chapter's own Same, and the law's Same over it. -/
import Derived.Test.YtnpdpfkoghhioaaGF
namespace Go.Proofs.Ytnpdpfkoghhioaa
open Go.RowKit

set_option maxRecDepth 100000 in
set_option maxHeartbeats 2000000 in
theorem rsame_any (v1 v2 : Value) (g1 g2 : G) (w : World) (h1 : GridAt w.heap.size w v1 g1) (h2 : GridAt w.heap.size w v2 g2) (hb1 : g1.cells.length ≤ 1000000) (hb2 : g2.cells.length ≤ 1000000) :
    Calls Try.prog 24 #[v1, v2] w fun e w' => e = .returned (.bool (sameB g1 g2)) ∧ Below w.heap.size w w' := by
  obtain ⟨r1, d1, L1, x1, y1⟩ := g1
  obtain ⟨r2, d2, L2, x2, y2⟩ := g2
  obtain ⟨c1, rfl, a1, k1, rfl, hc1⟩ := h1
  obtain ⟨c2, rfl, a2, k2, rfl, hc2⟩ := h2
  simp only [sameB] at hb1 hb2 ⊢
  have Hc1 := Lib.hid hc1
  have Hc2 := Lib.hid hc2
  clear hc1 hc2
  obtain ⟨n1, hn1⟩ : ∃ n, n = L1.length := ⟨_, rfl⟩
  obtain ⟨n2, hn2⟩ : ∃ n, n = L2.length := ⟨_, rfl⟩
  have H1 := Lib.hid hn1
  have H2 := Lib.hid hn2
  rw [← hn1] at hb1 ⊢
  rw [← hn2] at hb2 ⊢
  clear hn1 hn2
  go_enter Try.func24, Try.ntmps24
  by_cases t1 : r1 = r2
  · by_cases t2 : d1 = d2
    · by_cases t3 : x1 = x2
      · by_cases t4 : y1 = y2
        · subst t1 t2 t3 t4
          by_cases hn : n1 = n2
          · subst hn
            go_wp2_with fail
            go_loopw [5] (fun i wr => ∃ k : Nat, k ≤ n1 ∧ i = .int .i64 k ∧ Hid (L1.take k = L2.take k) ∧ Hid (wr.cell? ⟨w.heap.size, 2, none⟩ = some (.slice a1 n1 k1)) ∧ Hid (wr.cell? ⟨w.heap.size + 1, 2, none⟩ = some (.slice a2 n1 k2)) ∧ Below w.heap.size w wr) (fun i _ => n1 - (intOf i).toNat)
            case atStart =>
              refine ⟨0, Nat.zero_le _, rfl, Lib.hid rfl, Lib.hid ?_, Lib.hid ?_, by go_grown⟩
              · rw [cell2a]; rfl
              · rw [cell2b]; rfl
            case round =>
              obtain ⟨k, hk, rfl, he, q1, q2, hbel⟩ := hrel
              have p1 := q1.out
              have p2 := q2.out
              by_cases h : k < n1
              · obtain ⟨b1, o1, rfl, s1, hr1⟩ := Hc1.out (by intro e; rw [H1.out, e] at h; simp at h)
                obtain ⟨b2, o2, rfl, s2, hr2⟩ := Hc2.out (by intro e; rw [H2.out, e] at h; simp at h)
                obtain ⟨u1, z1, t1⟩ := hr1 k (by rw [← H1.out]; exact h)
                obtain ⟨u2, z2, t2⟩ := hr2 k (by rw [← H2.out]; omega)
                have m1 := (hbel.cell (p := ⟨b1, o1 + k, none⟩) s1).trans z1
                have m2 := (hbel.cell (p := ⟨b2, o2 + k, none⟩) s2).trans z2
                have e1 := conv_row (P := Try.prog) (t1.below hbel.drew) 32 5 9 rfl rfl rfl
                have e2 := conv_row (P := Try.prog) (t2.below hbel.drew) 32 5 9 rfl rfl rfl
                have l1 : k < L1.length := by rw [← H1.out]; exact h
                have l2 : k < L2.length := by rw [← H2.out]; exact h
                have hst := take_step L1 L2 k l1 l2 he.out
                rw [List.getElem?_eq_getElem l1] at hst e1
                rw [List.getElem?_eq_getElem l2] at hst e2
                simp only [Option.getD_some] at e1 e2
                clear hr1 hr2 t1 t2 z1 z2
                by_cases hd : L1[k] = L2[k]
                · have hnext := Lib.hid (hst.2 (by rw [hd]))
                  clear hst
                  go_wp2_with fail
                  go_region
                  all_goals
                    go_wp2_with fail
                    refine ⟨⟨k + 1, by omega, by go_num, hnext, q1, q2, hbel.drew⟩, ?_⟩
                    simp [intOf]; omega
                · have hne : L1 ≠ L2 := fun e => hd (by subst e; rfl)
                  have hd2 : (L1[k] == L2[k]) = false := by simp [hd]
                  clear hst
                  go_wp2_with fail
                  go_region
                  all_goals
                    go_wp2_with fail
                    go_ret
                    exact ⟨by simp, hbel.drew⟩
              · have hL : L1 = L2 := by
                  have hx := he.out
                  rwa [List.take_of_length_le (by rw [← H1.out]; omega), List.take_of_length_le (by rw [← H2.out]; omega)] at hx
                have HL := Lib.hid hL
                clear hL
                go_wp2_with fail
                go_ret
                exact ⟨by rw [HL.out]; simp, hbel⟩
          · have hne : L1 ≠ L2 := fun e => hn (by rw [H1.out, H2.out, e])
            go_wp2_with fail
            go_ret
            exact ⟨by simp, by go_grown⟩
        · go_wp2_with fail
          go_ret
          exact ⟨by simp, by go_grown⟩
      · go_wp2_with fail
        go_ret
        exact ⟨by simp, by go_grown⟩
    · go_wp2_with fail
      go_ret
      exact ⟨by simp, by go_grown⟩
  · go_wp2_with fail
    go_ret
    exact ⟨by simp, by go_grown⟩

theorem lsame_any (v1 v2 : Value) (g1 g2 : G) (w : World) (h1 : GridAt w.heap.size w v1 g1) (h2 : GridAt w.heap.size w v2 g2) (hb1 : g1.cells.length ≤ 1000000) (hb2 : g2.cells.length ≤ 1000000) :
    Calls Try.prog 11 #[v1, v2] w fun e w' => e = .returned (.bool (sameB g1 g2)) ∧ Below w.heap.size w w' := by
  obtain ⟨c1, rfl, hc1⟩ := h1
  obtain ⟨c2, rfl, hc2⟩ := h2
  have C : ∀ o1 o2, Hid (Calls Try.prog 24 #[.agg #[.int .i64 g1.rows, .int .i64 g1.cols, c1, .int .i64 g1.row, .int .i64 g1.col], .agg #[.int .i64 g2.rows, .int .i64 g2.cols, c2, .int .i64 g2.row, .int .i64 g2.col]] ((w.alloc o1).alloc o2) fun e w' => e = .returned (.bool (sameB g1 g2)) ∧ Below ((w.alloc o1).alloc o2).heap.size ((w.alloc o1).alloc o2) w') := fun o1 o2 =>
    Lib.hid (rsame_any _ _ g1 g2 _ ⟨c1, rfl, hc1.later (by go_grown)⟩ ⟨c2, rfl, hc2.later (by go_grown)⟩ hb1 hb2)
  clear hc1 hc2
  go_enter Try.func11, Try.ntmps11
  go_wp2_with fail
  (with_reducible refine (C _ _).out.mono ?_); rintro e w' ⟨rfl, hb⟩
  go_wp2_with fail
  go_ret
  exact ⟨rfl, below_tr (by go_grown) hb⟩
end Go.Proofs.Ytnpdpfkoghhioaa
