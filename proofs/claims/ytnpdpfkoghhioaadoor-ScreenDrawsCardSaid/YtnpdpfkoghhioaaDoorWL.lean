/- The chapter's Rows and Row. -/
import Derived.Test.YtnpdpfkoghhioaaDoorWK
namespace Go.Proofs.YtnpdpfkoghhioaaDoor
open Go.RowKit

theorem rowsC_le (c n : Nat) : rowsC c n ≤ n + 1 := by rw [rows_same]; exact rowsN_le n c

set_option maxRecDepth 100000 in
set_option maxHeartbeats 2000000 in
theorem rrows_any (s : ByteArray) (cols : Int) (w : World) (hs : s.size ≤ 100000) (hc : cols ≤ 9223372036854775807) :
    Calls Tryd.prog 28 #[.string s, .int .i64 cols] w fun e w' => e = .returned (.int .i64 ((rowsZ (cellsTo s.data.toList s.size).length cols : Nat) : Int)) ∧ Below w.heap.size w w' := by
  have HC := Lib.hid (rcells_any s w hs)
  have hlen := (cellsTo_len s.data.toList s.size (by exact Nat.le_refl _)).2
  obtain ⟨X, hX⟩ : ∃ X, X = cellsTo s.data.toList s.size := ⟨_, rfl⟩
  rw [← hX] at HC hlen ⊢
  clear hX
  obtain ⟨S, hS⟩ : ∃ S : ByteArray, S = ⟨X.toArray⟩ := ⟨_, rfl⟩
  rw [← hS] at HC
  have hSs : S.size = X.length := by rw [hS]; show X.toArray.size = _; rw [List.size_toArray]
  obtain ⟨n, hn⟩ : ∃ n, n = X.length := ⟨_, rfl⟩
  rw [← hn] at hlen hSs ⊢
  clear hn hS
  obtain ⟨z, hz⟩ : ∃ z : Nat, z = rowsZ n cols := ⟨_, rfl⟩
  rw [← hz]
  have HZ := Lib.hid hz
  clear hz
  go_enter Tryd.func28, Tryd.ntmps28
  by_cases hc1 : cols < 1
  · have H0 : Hid (z = 0) := Lib.hid (by rw [HZ.out, rowsZ, if_pos hc1])
    go_wp2_with fail
    go_ret
    exact ⟨by rw [H0.out]; rfl, Below.refl _ _⟩
  · obtain ⟨c, rfl⟩ := Int.eq_ofNat_of_zero_le (show 0 ≤ cols by omega)
    have hc0 : 0 < c := by omega
    have H0 : Hid (z = rowsC c n) := Lib.hid (by rw [HZ.out, rowsZ, if_neg hc1, Int.toNat_natCast, rows_same])
    have HSS := Lib.hid hSs
    have i1 : (1 : Int) ≤ (c : Int) := by omega
    go_wp2_with fail
    (with_reducible refine HC.out.mono ?_); rintro e w2 ⟨⟨v, rfl, hv⟩, hb⟩
    go_wp2_with fail
    go_loop [7, 8] (fun m k => ∃ i : Nat, i ≤ n ∧ k = .int .i64 i ∧ m = .int .i64 ((rowsC c i : Nat) : Int)) (fun _ k => n - (intOf k).toNat)
    case atStart => exact ⟨0, Nat.zero_le _, rfl, rfl⟩
    case round =>
      obtain ⟨i, hi, rfl, rfl⟩ := hrel
      by_cases hlt : i < n
      · have hle := rowsC_le c i
        have hst : rowsC c (i + 1) = rowsC c i + if 0 < i ∧ i % c = 0 then 1 else 0 := rfl
        obtain ⟨q, hq⟩ : ∃ q, q = rowsC c i := ⟨_, rfl⟩
        obtain ⟨q', hq'⟩ : ∃ q, q = rowsC c (i + 1) := ⟨_, rfl⟩
        rw [← hq] at hle hst ⊢
        rw [← hq'] at hst
        have HQ' := Lib.hid hq'
        have HST := Lib.hid hst
        clear hq hq' hst
        by_cases h0 : i = 0
        · have hn1 : Hid (q' = q) := Lib.hid (by rw [HST.out, if_neg (by omega)]; rfl)
          subst h0
          go_wp2_with fail
          go_round
          case rel => exact ⟨1, by omega, by go_num, by rw [← hn1.out, HQ'.out]⟩
          case measure => simp [intOf]; omega
        · have d0 : decide ((0 : Int) < (i : Int)) = true := by simp; omega
          have i0 : (0 : Int) ≤ (i : Int) := by omega
          by_cases hm : i % c = 0
          · have hn1 : Hid (q' = q + 1) := Lib.hid (by rw [HST.out, if_pos ⟨by omega, hm⟩])
            have hmi : (((i : Int) % (c : Int)) == 0) = true := by rw [beq_iff_eq, ← Int.natCast_emod]; omega
            go_wp2_with fail
            go_round
            case rel => exact ⟨i + 1, by omega, by go_num, by rw [← HQ'.out, hn1.out]; go_num⟩
            case measure => simp [intOf]; omega
          · have hn1 : Hid (q' = q) := Lib.hid (by rw [HST.out, if_neg (by intro h; exact hm h.2)]; rfl)
            have hmi : (((i : Int) % (c : Int)) == 0) = false := by rw [beq_eq_false_iff_ne, ← Int.natCast_emod]; omega
            go_wp2_with fail
            go_round
            case rel => exact ⟨i + 1, by omega, by go_num, by rw [← HQ'.out, hn1.out]⟩
            case measure => simp [intOf]; omega
      · obtain rfl : i = n := by omega
        go_wp2_with fail
        go_ret
        exact ⟨by rw [H0.out]; rfl, hb⟩
end Go.Proofs.YtnpdpfkoghhioaaDoor
