/- The chapter's May and Check. -/
import Derived.Test.YtnpdpfkoghhioaaGI
namespace Go.Proofs.Ytnpdpfkoghhioaa
open Go.RowKit

theorem plain_int (c : UInt8) : plainC c = (decide (32 ≤ (c.toNat : Int)) && decide ((c.toNat : Int) ≤ 126)) := by unfold plainC; congr 1 <;> (apply decide_eq_decide.2; omega)
theorem all_step {α : Type} (L : List α) (p : α → Bool) (k : Nat) (h : k < L.length) (he : (L.take k).all p = true) : (L.take (k + 1)).all p = p L[k] := by
  rw [List.take_add_one, List.all_append, he, List.getElem?_eq_getElem h]; simp
theorem all_not {α : Type} (L : List α) (p : α → Bool) (k : Nat) (h : k < L.length) (he : p L[k] = false) : L.all p = false := by
  cases hx : L.all p with
  | false => rfl
  | true => rw [List.all_eq_true.1 hx _ (List.getElem_mem h)] at he; cases he

set_option maxRecDepth 100000 in
set_option maxHeartbeats 4000000 in
theorem rmay_any (v : Value) (g : G) (w : World) (h : GridAt w.heap.size w v g) (hb : Small g) :
    Calls Try.prog 33 #[v] w fun e w' => e = .returned (.bool (mayB g)) ∧ Below w.heap.size w w' := by
  obtain ⟨r, c, L, x, y⟩ := g
  obtain ⟨cv, rfl, hc⟩ := h
  obtain ⟨hb1, hb2⟩ := hb
  simp only at hb1 hb2 hc
  have C1 : ∀ w, Hid (Calls Try.prog 27 #[.int .i64 r, .int .i64 c] w fun e w' => e = .returned (.bool (sizedB r c)) ∧ w = w') := fun w => Lib.hid (rsized_any r c w)
  have hbox : Box5 (w.alloc (.cells #[.int .i64 r, .int .i64 c, cv, .int .i64 x, .int .i64 y] 24)) w.heap.size 24 (.int .i64 r) (.int .i64 c) cv (.int .i64 x) (.int .i64 y) := by
    unfold Box5; rw [heap_alloc, if_pos rfl]
  have Hbox := Lib.hid hbox
  have Hb2 := Lib.hid hb2
  clear hbox hb2
  obtain ⟨a, k0, rfl, hx⟩ := hc
  have Hx := Lib.hid hx
  clear hx
  rw [mayB_eq]
  simp only
  obtain ⟨p1, hp1⟩ : ∃ p, p = sizedB r c := ⟨_, rfl⟩
  have Hp1 := Lib.hid hp1
  rw [← hp1]
  simp only [← hp1] at C1
  clear hp1
  obtain ⟨n, hn⟩ : ∃ n, n = L.length := ⟨_, rfl⟩
  have H := Lib.hid hn
  rw [← hn] at hb1 Hbox ⊢
  clear hn
  go_enter Try.func33, Try.ntmps33
  go_wp2_with fail
  (with_reducible refine (C1 _).out.mono ?_); rintro e w' ⟨rfl, rfl⟩
  cases p1 with
  | false =>
    go_wp2_with fail
    all_goals (go_ret; exact ⟨by simp, by go_grown⟩)
  | true =>
    by_cases t : (n : Int) = r
    · by_cases t1 : x < 0
      · go_wp2_with fail
        all_goals (go_ret; exact ⟨by simp; omega, by go_grown⟩)
      · by_cases t2 : r ≤ x
        · go_wp2_with fail
          all_goals (go_ret; exact ⟨by simp; omega, by go_grown⟩)
        · by_cases t3 : y < 0
          · go_wp2_with fail
            all_goals (go_ret; exact ⟨by simp; omega, by go_grown⟩)
          · by_cases t4 : c ≤ y
            · go_wp2_with fail
              all_goals (go_ret; exact ⟨by simp; omega, by go_grown⟩)
            · have hs : 8 ≤ c := by
                have := Hp1.out
                simp [sizedB] at this; omega
              obtain ⟨m, rfl⟩ := Int.eq_ofNat_of_zero_le (show 0 ≤ c by omega)
              have hm : m ≤ 132 := by
                have := Hp1.out
                simp [sizedB] at this; omega
              subst t
              go_wp2_with fail
              go_loopw [3] (fun i wr => ∃ k : Nat, k ≤ n ∧ i = .int .i64 k ∧ Hid ((L.take k).all (lineB m) = true) ∧ Hid (Box5 wr w.heap.size 24 (.int .i64 n) (.int .i64 m) (.slice a n k0) (.int .i64 x) (.int .i64 y)) ∧ Below w.heap.size w wr) (fun i _ => n - (intOf i).toNat)
              case atStart => exact ⟨0, Nat.zero_le _, rfl, Lib.hid rfl, Hbox, by go_grown⟩
              case round =>
                obtain ⟨k, hk, rfl, he, hbx, hbel⟩ := hrel
                have b0 := hbx.out.c0
                have b1 := hbx.out.c1
                have b2 := hbx.out.c2
                by_cases h : k < n
                · obtain ⟨b, o, rfl, s1, hr⟩ := Hx.out (by intro e; rw [H.out, e] at h; simp at h)
                  have hl : k < L.length := by rw [← H.out]; exact h
                  obtain ⟨rv, q, hrow⟩ := hr k hl
                  rw [List.getElem?_eq_getElem hl, Option.getD_some] at hrow
                  have hst := all_step L (lineB m) k hl he.out
                  have hq := (hbel.cell (p := ⟨b, o + k, none⟩) s1).trans q
                  obtain ⟨l, hll⟩ : ∃ l, l = L[k] := ⟨_, rfl⟩
                  have Hll := Lib.hid hll
                  rw [← hll] at hrow hst
                  have q0 := q
                  clear hr hll q
                  obtain ⟨ra, rc, rfl, hrc⟩ := hrow
                  have Hrc := Lib.hid hrc
                  have Hst := Lib.hid hst
                  clear hst hrc
                  obtain ⟨z, hz⟩ : ∃ z, z = l.length := ⟨_, rfl⟩
                  have Hz := Lib.hid hz
                  rw [← hz] at hq q0
                  clear hz
                  have Hq := Lib.hid q0
                  clear q0
                  by_cases hzm : z = m
                  · subst hzm
                    go_wp2_with fail
                    go_region
                    all_goals
                      go_wp2_with fail
                      go_loopw [4] (fun i wr => ∃ j : Nat, j ≤ z ∧ i = .int .i64 j ∧ Hid ((l.take j).all plainC = true) ∧ Hid (Box5 wr w.heap.size 24 (.int .i64 n) (.int .i64 z) (.slice (some ⟨b, o, none⟩) n k0) (.int .i64 x) (.int .i64 y)) ∧ Below w.heap.size w wr) (fun i _ => z - (intOf i).toNat)
                      case atStart => exact ⟨0, Nat.zero_le _, rfl, Lib.hid rfl, hbx, hbel.drew⟩
                      case round =>
                        clear b0 b1 b2 hq
                        obtain ⟨j, hj, rfl, he2, hbx2, hbel2⟩ := hrel
                        have b0 := hbx2.out.c0
                        have b1 := hbx2.out.c1
                        have b2 := hbx2.out.c2
                        have hq := (hbel2.cell (p := ⟨b, o + k, none⟩) s1).trans Hq.out
                        by_cases hjz : j < z
                        · obtain ⟨b', o', rfl, s2, hr2⟩ := Hrc.out (by intro e; rw [Hz.out, e] at hjz; simp at hjz)
                          have hl2 : j < l.length := by rw [← Hz.out]; exact hjz
                          have q2 := hr2 j hl2
                          rw [List.getElem?_eq_getElem hl2, Option.getD_some] at q2
                          have hq2 := (hbel2.cell (p := ⟨b', o' + j, none⟩) s2).trans q2
                          have hst2 := all_step l plainC j hl2 he2.out
                          have hpi := plain_int l[j]
                          clear hr2 q2
                          obtain ⟨u, hu⟩ : ∃ u, u = (l[j].toNat : Int) := ⟨_, rfl⟩
                          rw [← hu] at hq2 hpi
                          clear hu
                          by_cases u1 : u < 32
                          · have hbad := Lib.hid (all_not L (lineB z) k hl (by rw [← Hll.out]; unfold lineB; rw [all_not l plainC j hl2 (by rw [hpi]; first | (simp; done) | (simp; omega))]; simp))
                            clear hst2 hpi
                            go_wp2_with fail
                            go_ret
                            exact ⟨by rw [hbad.out]; simp, hbel2⟩
                          · by_cases u2 : 126 < u
                            · have hbad := Lib.hid (all_not L (lineB z) k hl (by rw [← Hll.out]; unfold lineB; rw [all_not l plainC j hl2 (by rw [hpi]; first | (simp; done) | (simp; omega))]; simp))
                              clear hst2 hpi
                              go_wp2_with fail
                              go_ret
                              exact ⟨by rw [hbad.out]; simp, hbel2⟩
                            · have hnext : Hid ((l.take (j + 1)).all plainC = true) := Lib.hid (hst2.trans (by rw [hpi]; first | (simp; done) | (simp; omega)))
                              clear hst2 hpi
                              go_wp2_with fail
                              go_roundw
                              case rel => exact ⟨j + 1, by omega, by go_num, hnext, hbx2, hbel2⟩
                              case measure => simp [intOf]; omega
                        · have hx := he2.out
                          rw [List.take_of_length_le (by rw [← Hz.out]; omega)] at hx
                          have hnext : Hid ((L.take (k + 1)).all (lineB z) = true) := Lib.hid (Hst.out.trans (by unfold lineB; rw [hx, ← Hz.out]; simp))
                          clear hx
                          go_wp2_with fail
                          refine ⟨⟨k + 1, by omega, by go_num, hnext, hbx2, hbel2⟩, ?_⟩
                          simp [intOf]; omega
                  · have hzm2 : ¬ ((z : Int) = (m : Int)) := by omega
                    have hbad0 : lineB m L[k] = false := by rw [← Hll.out]; unfold lineB; rw [← Hz.out]; simp [hzm2]
                    have hbad : L.all (lineB m) = false := all_not L (lineB m) k hl hbad0
                    clear hbad0 hzm2
                    have Hbad := Lib.hid hbad
                    clear hbad
                    go_wp2_with fail
                    go_region
                    all_goals
                      go_wp2_with fail
                      go_ret
                      exact ⟨by rw [Hbad.out]; simp, hbel.drew⟩
                · have hx := he.out
                  rw [List.take_of_length_le (by rw [← H.out]; omega)] at hx
                  have HX := Lib.hid hx
                  clear hx
                  go_wp2_with fail
                  go_ret
                  exact ⟨by rw [HX.out]; first | (simp; done) | (simp; omega), hbel⟩
    · go_wp2_with fail
      all_goals (go_ret; exact ⟨by simp [t], by go_grown⟩)
end Go.Proofs.Ytnpdpfkoghhioaa
