/- Whether two lists of ints are the same; wraps.Rows. -/
import Derived.Test.YtnpdpfkoghhioaaDoorWJ
import Derived.RegionTactic
import Derived.BigRegion
namespace Go.Proofs.YtnpdpfkoghhioaaDoor
open Go.RowKit

theorem take_next {α : Type} (L1 L2 : List α) (k : Nat) (h1 : k < L1.length) (h2 : k < L2.length) (he : L1.take k = L2.take k) : (L1.take (k + 1) = L2.take (k + 1)) ↔ L1[k]? = L2[k]? := by
  rw [List.take_add_one, List.take_add_one, he]
  constructor
  · intro h
    have := List.append_cancel_left h
    rw [List.getElem?_eq_getElem h1, List.getElem?_eq_getElem h2] at this ⊢
    simpa using this
  · intro h; rw [h]

set_option maxRecDepth 100000 in
set_option maxHeartbeats 2000000 in
theorem isame_any (v1 v2 : Value) (l1 l2 : List Nat) (w : World) (h1 : IntsAt w v1 l1) (h2 : IntsAt w v2 l2) (hb : l1.length ≤ 1000000) (hb2 : l2.length ≤ 1000000) :
    Calls Tryd.prog 23 #[v1, v2] w fun e w' => e = .returned (.bool (decide (l1 = l2))) ∧ Below w.heap.size w w' := by
  obtain ⟨a1, k1, rfl, hc1⟩ := h1
  obtain ⟨a2, k2, rfl, hc2⟩ := h2
  have Hc1 := Lib.hid hc1
  have Hc2 := Lib.hid hc2
  clear hc1 hc2
  obtain ⟨n1, hn1⟩ : ∃ n, n = l1.length := ⟨_, rfl⟩
  obtain ⟨n2, hn2⟩ : ∃ n, n = l2.length := ⟨_, rfl⟩
  have H1 := Lib.hid hn1
  have H2 := Lib.hid hn2
  rw [← hn1] at hb ⊢
  rw [← hn2] at hb2 ⊢
  clear hn1 hn2
  go_enter Tryd.func23, Tryd.ntmps23
  by_cases hn : n1 = n2
  · subst hn
    go_wp2_with fail
    go_loopw [5] (fun i wr => ∃ k : Nat, k ≤ n1 ∧ i = .int .i64 k ∧ Hid (l1.take k = l2.take k) ∧ Below w.heap.size w wr) (fun i _ => n1 - (intOf i).toNat)
    case atStart => exact ⟨0, Nat.zero_le _, rfl, Lib.hid rfl, Below.refl _ _⟩
    case round =>
      obtain ⟨k, hk, rfl, he, hbel⟩ := hrel
      by_cases h : k < n1
      · obtain ⟨b1, o1, rfl, s1, hr1⟩ := Hc1.out (by intro e; rw [H1.out, e] at h; simp at h)
        obtain ⟨b2, o2, rfl, s2, hr2⟩ := Hc2.out (by intro e; rw [H2.out, e] at h; simp at h)
        have q1 : k < l1.length := by rw [← H1.out]; exact h
        have q2 : k < l2.length := by rw [← H2.out]; exact h
        have m1 := (hbel.cell (p := ⟨b1, o1 + k, none⟩) s1).trans (hr1 k q1)
        have m2 := (hbel.cell (p := ⟨b2, o2 + k, none⟩) s2).trans (hr2 k q2)
        have hst := take_next l1 l2 k q1 q2 he.out
        rw [List.getElem?_eq_getElem q1, List.getElem?_eq_getElem q2] at hst
        rw [List.getElem?_eq_getElem q1, Option.getD_some] at m1
        rw [List.getElem?_eq_getElem q2, Option.getD_some] at m2
        clear hr1 hr2
        obtain ⟨x1, hx1⟩ : ∃ x, x = l1[k] := ⟨_, rfl⟩
        obtain ⟨x2, hx2⟩ : ∃ x, x = l2[k] := ⟨_, rfl⟩
        rw [← hx1] at m1 hst
        rw [← hx2] at m2 hst
        by_cases hd : x1 = x2
        · have hnext := Lib.hid (hst.2 (by rw [hd]))
          clear hst hx1 hx2
          subst hd
          go_wp2_with fail
          go_region
          all_goals
            go_wp2_with fail
            refine ⟨⟨k + 1, by omega, by go_num, hnext, hbel.drew⟩, ?_⟩
            simp [intOf]; omega
        · have hne : l1 ≠ l2 := fun e => hd (by rw [hx1, hx2]; subst e; rfl)
          have Hne := Lib.hid hne
          have hd2 : ((x1 : Int) == (x2 : Int)) = false := by simp; omega
          clear hst hx1 hx2 hne
          go_wp2_with fail
          go_region
          all_goals
            go_wp2_with fail
            go_ret
            exact ⟨by simp [Hne.out], hbel.drew⟩
      · have hL : l1 = l2 := by
          have hx := he.out
          rwa [List.take_of_length_le (by rw [← H1.out]; omega), List.take_of_length_le (by rw [← H2.out]; omega)] at hx
        have HL := Lib.hid hL
        clear hL
        go_wp2_with fail
        go_ret
        exact ⟨by rw [HL.out]; simp, hbel⟩
  · have hne : l1 ≠ l2 := fun e => hn (by rw [H1.out, H2.out, e])
    go_wp2_with fail
    go_ret
    exact ⟨by simp [hne], Below.refl _ _⟩

def rowsZ (n : Nat) (cols : Int) : Nat := if cols < 1 then 0 else rowsN n cols.toNat

set_option maxRecDepth 100000 in
set_option maxHeartbeats 2000000 in
theorem rows_any (s : ByteArray) (cols : Int) (w : World) (h : TabOK w) (hs : s.size ≤ 100000) (hc : cols ≤ 9223372036854775807) :
    Calls Tryd.prog 27 #[.string s, .int .i64 cols] w fun e w' => e = .returned (.int .i64 ((rowsZ (cellsTo s.data.toList s.size).length cols : Nat) : Int)) ∧ Below w.heap.size w w' := by
  have HC := Lib.hid (cells_any s w h hs)
  have hlen := (cellsTo_len s.data.toList s.size (by exact Nat.le_refl _)).2
  clear h
  obtain ⟨X, hX⟩ : ∃ X, X = cellsTo s.data.toList s.size := ⟨_, rfl⟩
  rw [← hX] at HC hlen ⊢
  clear hX
  obtain ⟨S, hS⟩ : ∃ S : ByteArray, S = ⟨X.toArray⟩ := ⟨_, rfl⟩
  rw [← hS] at HC
  have hSs : S.size = X.length := by rw [hS]; show X.toArray.size = _; rw [List.size_toArray]
  obtain ⟨n, hn⟩ : ∃ n, n = X.length := ⟨_, rfl⟩
  rw [← hn] at hlen hSs ⊢
  clear hn hS
  obtain ⟨z, hz⟩ : ∃ z : Nat, z = rowsZ n cols := ⟨_, rfl⟩
  rw [← hz]
  have HZ := Lib.hid hz
  clear hz
  go_enter Tryd.func27, Tryd.ntmps27
  by_cases hc1 : cols < 1
  · have H0 : Hid (z = 0) := Lib.hid (by rw [HZ.out, rowsZ, if_pos hc1])
    go_wp2_with fail
    go_ret
    exact ⟨by rw [H0.out]; rfl, Below.refl _ _⟩
  · obtain ⟨c, rfl⟩ := Int.eq_ofNat_of_zero_le (show 0 ≤ cols by omega)
    have hc0 : 0 < c := by omega
    have hdiv : n / c ≤ n := Nat.div_le_self n c
    have hmod : n % c < c := Nat.mod_lt n hc0
    have hmod2 : n % c ≤ n := Nat.mod_le n c
    have H0 : Hid (z = max 1 (n / c + min 1 (n % c))) := Lib.hid (by rw [HZ.out, rowsZ, if_neg hc1, Int.toNat_natCast]; rfl)
    go_wp2_with fail
    (with_reducible refine HC.out.mono ?_); rintro e w2 ⟨⟨v, rfl, hv⟩, hb⟩
    go_wp2_with fail
    have i1 : (1 : Int) ≤ (c : Int) := by omega
    have i0 : (0 : Int) ≤ (n : Int) := by omega
    go_region
    all_goals
      go_wp2_with fail
      go_ret
      refine ⟨?_, hb.drew⟩
      show Ending.returned (.int .i64 (max 1 (wrap64 (wrap64 ((n : Int) / (c : Int)) + min 1 ((n : Int) % (c : Int)))))) = _
      rw [H0.out]
      refine congrArg (fun x : Int => Ending.returned (.int .i64 x)) ?_
      have e1 : (n : Int) / (c : Int) = ((n / c : Nat) : Int) := (Int.natCast_ediv n c).symm
      have e2 : (n : Int) % (c : Int) = ((n % c : Nat) : Int) := (Int.natCast_emod n c).symm
      rw [e1, e2]
      generalize n / c = a at *
      generalize n % c = b at *
      rw [IntWalk.wrap64_in (a : Int) (by omega), IntWalk.wrap64_in _ (by omega)]
      omega
end Go.Proofs.YtnpdpfkoghhioaaDoor
