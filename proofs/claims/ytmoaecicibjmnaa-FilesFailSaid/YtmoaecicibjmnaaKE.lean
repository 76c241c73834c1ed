/- Whether two lists of texts, or of numbers, are the same. -/
import Derived.Test.YtmoaecicibjmnaaKD
namespace Go.Proofs.Ytmoaecicibjmnaa
open Go.RowKit

theorem take_step {α : Type} [DecidableEq α] (L1 L2 : List α) (k : Nat) (h1 : k < L1.length) (h2 : k < L2.length) (he : L1.take k = L2.take k) : (L1.take (k + 1) = L2.take (k + 1)) ↔ L1[k]? = L2[k]? := by
  rw [List.take_add_one, List.take_add_one, he]
  constructor
  · intro h
    have := List.append_cancel_left h
    rw [List.getElem?_eq_getElem h1, List.getElem?_eq_getElem h2] at this ⊢
    simpa using this
  · intro h; rw [h]
/-- A slice of texts. -/
def TextsAt (w : World) (v : Value) (T : List ByteArray) : Prop :=
  ∃ a c, v = .slice a T.length c ∧ (T ≠ [] → ∃ b o, a = some ⟨b, o, none⟩ ∧ b < w.heap.size ∧ ∀ j, (h : j < T.length) → w.cell? ⟨b, o + j, none⟩ = some (.string T[j]))

set_option maxRecDepth 100000 in
set_option maxHeartbeats 2000000 in
theorem tsame_any (v1 v2 : Value) (T1 T2 : List ByteArray) (w : World) (h1 : TextsAt w v1 T1) (h2 : TextsAt w v2 T2) (hb : T1.length ≤ 1000000) (hb2 : T2.length ≤ 1000000) :
    Calls Try.prog 19 #[v1, v2] w fun e w' => e = .returned (.bool (decide (T1 = T2))) ∧ Below w.heap.size w w' := by
  obtain ⟨a1, k1, rfl, hc1⟩ := h1
  obtain ⟨a2, k2, rfl, hc2⟩ := h2
  have Hc1 := Lib.hid hc1
  have Hc2 := Lib.hid hc2
  clear hc1 hc2
  obtain ⟨n1, hn1⟩ : ∃ n, n = T1.length := ⟨_, rfl⟩
  obtain ⟨n2, hn2⟩ : ∃ n, n = T2.length := ⟨_, rfl⟩
  have H1 := Lib.hid hn1
  have H2 := Lib.hid hn2
  rw [← hn1] at hb ⊢
  rw [← hn2] at hb2 ⊢
  clear hn1 hn2
  go_enter Try.func19, Try.ntmps19
  by_cases hn : n1 = n2
  · subst hn
    go_wp2_with fail
    go_loopw [5] (fun i wr => ∃ k : Nat, k ≤ n1 ∧ i = .int .i64 k ∧ Hid (T1.take k = T2.take k) ∧ Below w.heap.size w wr) (fun i _ => n1 - (intOf i).toNat)
    case atStart => exact ⟨0, Nat.zero_le _, rfl, Lib.hid rfl, Below.refl _ _⟩
    case round =>
      obtain ⟨k, hk, rfl, he, hbel⟩ := hrel
      by_cases h : k < n1
      · obtain ⟨b1, o1, rfl, s1, hr1⟩ := Hc1.out (by intro e; rw [H1.out, e] at h; simp at h)
        obtain ⟨b2, o2, rfl, s2, hr2⟩ := Hc2.out (by intro e; rw [H2.out, e] at h; simp at h)
        have l1 : k < T1.length := by rw [← H1.out]; exact h
        have l2 : k < T2.length := by rw [← H2.out]; exact h
        have m1 := (hbel.cell (p := ⟨b1, o1 + k, none⟩) s1).trans (hr1 k l1)
        have m2 := (hbel.cell (p := ⟨b2, o2 + k, none⟩) s2).trans (hr2 k l2)
        have hst : (T1.take (k + 1) = T2.take (k + 1)) ↔ T1[k]? = T2[k]? := take_step T1 T2 k l1 l2 he.out
        rw [List.getElem?_eq_getElem l1, List.getElem?_eq_getElem l2] at hst
        clear hr1 hr2
        obtain ⟨x1, hx1⟩ : ∃ x, x = T1[k] := ⟨_, rfl⟩
        obtain ⟨x2, hx2⟩ : ∃ x, x = T2[k] := ⟨_, rfl⟩
        rw [← hx1] at m1 hst
        rw [← hx2] at m2 hst
        by_cases hd : x1 = x2
        · have hnext := Lib.hid (hst.2 (by rw [hd]))
          clear hst hx1 hx2
          subst hd
          go_wp2_with fail
          go_region
          all_goals
            go_wp2_with fail
            refine ⟨⟨k + 1, by omega, by go_num, hnext, hbel.drew⟩, ?_⟩
            simp [intOf]; omega
        · have hne : T1 ≠ T2 := fun e => hd (by rw [hx1, hx2]; subst e; rfl)
          have Hne := Lib.hid hne
          have hd2 : (x1.toList == x2.toList) = false := by
            cases hb : (x1.toList == x2.toList) with
            | false => rfl
            | true =>
              exfalso; apply hd
              rw [ByteArray.toList_eq, ByteArray.toList_eq] at hb
              cases x1; cases x2
              congr 1
              simpa using hb
          clear hst hx1 hx2 hne
          go_wp2_with fail
          go_region
          all_goals
            go_wp2_with fail
            go_ret
            exact ⟨by simp [Hne.out], hbel.drew⟩
      · have hL : T1 = T2 := by
          have hx := he.out
          rwa [List.take_of_length_le (by rw [← H1.out]; omega), List.take_of_length_le (by rw [← H2.out]; omega)] at hx
        have HL := Lib.hid hL
        clear hL
        go_wp2_with fail
        go_ret
        exact ⟨by rw [HL.out]; simp, hbel⟩
  · have hne : T1 ≠ T2 := fun e => hn (by rw [H1.out, H2.out, e])
    go_wp2_with fail
    go_ret
    exact ⟨by simp [hne], by go_grown⟩
set_option maxRecDepth 100000 in
set_option maxHeartbeats 2000000 in
theorem numbers_any {P1 P2 : Nat → Prop} (v1 v2 : Value) (T1 T2 : List Int) (w : World) (h1 : IntsIn P1 w v1 T1) (h2 : IntsIn P2 w v2 T2) (hb : T1.length ≤ 1000000) (hb2 : T2.length ≤ 1000000) :
    Calls Try.prog 31 #[v1, v2] w fun e w' => e = .returned (.bool (decide (T1 = T2))) ∧ Below w.heap.size w w' := by
  obtain ⟨a1, k1, rfl, hc1⟩ := h1
  obtain ⟨a2, k2, rfl, hc2⟩ := h2
  have Hc1 := Lib.hid hc1
  have Hc2 := Lib.hid hc2
  clear hc1 hc2
  obtain ⟨n1, hn1⟩ : ∃ n, n = T1.length := ⟨_, rfl⟩
  obtain ⟨n2, hn2⟩ : ∃ n, n = T2.length := ⟨_, rfl⟩
  have H1 := Lib.hid hn1
  have H2 := Lib.hid hn2
  rw [← hn1] at hb ⊢
  rw [← hn2] at hb2 ⊢
  clear hn1 hn2
  go_enter Try.func31, Try.ntmps31
  by_cases hn : n1 = n2
  · subst hn
    go_wp2_with fail
    go_loopw [5] (fun i wr => ∃ k : Nat, k ≤ n1 ∧ i = .int .i64 k ∧ Hid (T1.take k = T2.take k) ∧ Below w.heap.size w wr) (fun i _ => n1 - (intOf i).toNat)
    case atStart => exact ⟨0, Nat.zero_le _, rfl, Lib.hid rfl, Below.refl _ _⟩
    case round =>
      obtain ⟨k, hk, rfl, he, hbel⟩ := hrel
      by_cases h : k < n1
      · obtain ⟨b1, o1, rfl, s1, _, hr1⟩ := Hc1.out (by intro e; rw [H1.out, e] at h; simp at h)
        obtain ⟨b2, o2, rfl, s2, _, hr2⟩ := Hc2.out (by intro e; rw [H2.out, e] at h; simp at h)
        have l1 : k < T1.length := by rw [← H1.out]; exact h
        have l2 : k < T2.length := by rw [← H2.out]; exact h
        have m1 := (hbel.cell (p := ⟨b1, o1 + k, none⟩) s1).trans (hr1 k l1)
        have m2 := (hbel.cell (p := ⟨b2, o2 + k, none⟩) s2).trans (hr2 k l2)
        rw [List.getElem?_eq_getElem l1, Option.getD_some] at m1
        rw [List.getElem?_eq_getElem l2, Option.getD_some] at m2
        have hst : (T1.take (k + 1) = T2.take (k + 1)) ↔ T1[k]? = T2[k]? := take_step T1 T2 k l1 l2 he.out
        rw [List.getElem?_eq_getElem l1, List.getElem?_eq_getElem l2] at hst
        clear hr1 hr2
        obtain ⟨x1, hx1⟩ : ∃ x, x = T1[k] := ⟨_, rfl⟩
        obtain ⟨x2, hx2⟩ : ∃ x, x = T2[k] := ⟨_, rfl⟩
        rw [← hx1] at m1 hst
        rw [← hx2] at m2 hst
        by_cases hd : x1 = x2
        · have hnext := Lib.hid (hst.2 (by rw [hd]))
          clear hst hx1 hx2
          subst hd
          go_wp2_with fail
          go_region
          all_goals
            go_wp2_with fail
            refine ⟨⟨k + 1, by omega, by go_num, hnext, hbel.drew⟩, ?_⟩
            simp [intOf]; omega
        · have hne : T1 ≠ T2 := fun e => hd (by rw [hx1, hx2]; subst e; rfl)
          have Hne := Lib.hid hne
          have hd2 : (x1 == x2) = false := by simpa using hd
          clear hst hx1 hx2 hne
          go_wp2_with fail
          go_region
          all_goals
            go_wp2_with fail
            go_ret
            exact ⟨by simp [Hne.out], hbel.drew⟩
      · have hL : T1 = T2 := by
          have hx := he.out
          rwa [List.take_of_length_le (by rw [← H1.out]; omega), List.take_of_length_le (by rw [← H2.out]; omega)] at hx
        have HL := Lib.hid hL
        clear hL
        go_wp2_with fail
        go_ret
        exact ⟨by rw [HL.out]; simp, hbel⟩
  · have hne : T1 ≠ T2 := fun e => hn (by rw [H1.out, H2.out, e])
    go_wp2_with fail
    go_ret
    exact ⟨by simp [hne], by go_grown⟩
end Go.Proofs.Ytmoaecicibjmnaa
