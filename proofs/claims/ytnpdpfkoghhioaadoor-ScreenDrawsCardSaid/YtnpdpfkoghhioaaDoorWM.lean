/- The chapter's Row. -/
import Derived.Test.YtnpdpfkoghhioaaDoorWL
namespace Go.Proofs.YtnpdpfkoghhioaaDoor
open Go.RowKit

def rowZ (l : List UInt8) (cols k : Int) : List UInt8 := if cols < 1 ∨ k < 0 then [] else rowL l cols.toNat k.toNat

theorem byte_end (S : ByteArray) (X : List UInt8) (hS : S = ⟨X.toArray⟩) (j : Nat) (h : j < X.length) : S.extract j (j + 1) = ⟨[X[j]].toArray⟩ := by
  subst hS
  apply ByteArray.ext
  rw [ByteArray.data_extract]
  apply Array.ext'
  simp [List.extract, List.take_one, h]

theorem bytes_app (a b : List UInt8) : (⟨a.toArray⟩ : ByteArray) ++ ⟨b.toArray⟩ = ⟨(a ++ b).toArray⟩ := by
  apply ByteArray.ext
  rw [ByteArray.data_append]
  simp

set_option maxRecDepth 100000 in
set_option maxHeartbeats 2000000 in
theorem rrow_any (s : ByteArray) (cols k : Int) (w : World) (hs : s.size ≤ 100000) (hc : cols ≤ 9223372036854775807) :
    Calls Tryd.prog 30 #[.string s, .int .i64 cols, .int .i64 k] w fun e w' => e = .returned (.string ⟨(rowZ (cellsTo s.data.toList s.size) cols k).toArray⟩) ∧ Below w.heap.size w w' := by
  have HC := Lib.hid (rcells_any s w hs)
  have hlen := (cellsTo_len s.data.toList s.size (by exact Nat.le_refl _)).2
  obtain ⟨X, hX⟩ : ∃ X, X = cellsTo s.data.toList s.size := ⟨_, rfl⟩
  rw [← hX] at HC hlen ⊢
  clear hX
  obtain ⟨S, hS⟩ : ∃ S : ByteArray, S = ⟨X.toArray⟩ := ⟨_, rfl⟩
  rw [← hS] at HC
  have hSs : S.size = X.length := by rw [hS]; show X.toArray.size = _; rw [List.size_toArray]
  have HS := Lib.hid hS
  have HSS := Lib.hid hSs
  rw [← hSs] at hlen
  have hlen2 : S.size ≤ 800000 := by
    have : s.data.toList.length = s.size := rfl
    omega
  clear hS hSs hlen
  obtain ⟨F, hF⟩ : ∃ F : ByteArray, F = ⟨(rowZ X cols k).toArray⟩ := ⟨_, rfl⟩
  rw [← hF]
  have HF := Lib.hid hF
  clear hF
  go_enter Tryd.func30, Tryd.ntmps30
  go_wp2_with fail
  (with_reducible refine HC.out.mono ?_); rintro e w2 ⟨⟨v, rfl, hv⟩, hb⟩
  by_cases hc1 : cols < 1
  · have H0 : Hid (F = ⟨#[]⟩) := Lib.hid (by rw [HF.out, rowZ, if_pos (.inl hc1)])
    have hd : decide ((1 : Int) ≤ cols) = false := by simp; omega
    go_wp2_with fail
    go_loop [9, 10] (fun o i => i = .int .i64 0 ∧ o = .string ⟨#[]⟩) (fun _ _ => 0)
    case atStart => exact ⟨rfl, rfl⟩
    case round =>
      obtain ⟨rfl, rfl⟩ := hrel
      by_cases hz : 0 < S.size
      · go_wp2_with fail
        go_ret
        exact ⟨by rw [H0.out]; rfl, hb⟩
      · have hz0 : S.size = 0 := by omega
        go_wp2_with fail
        go_ret
        exact ⟨by rw [H0.out]; rfl, hb⟩
  · obtain ⟨c, rfl⟩ := Int.eq_ofNat_of_zero_le (show 0 ≤ cols by omega)
    have hc0 : 0 < c := by omega
    have i1 : (1 : Int) ≤ (c : Int) := by omega
    go_wp2_with fail
    go_loop [9, 10] (fun o i => ∃ j : Nat, ∃ T : ByteArray, j ≤ S.size ∧ i = .int .i64 j ∧ o = .string T ∧ T.size ≤ j ∧ Hid (T = ⟨(rowZ (X.take j) (c : Int) k).toArray⟩)) (fun _ i => S.size - (intOf i).toNat)
    case atStart => exact ⟨0, ⟨#[]⟩, Nat.zero_le _, rfl, rfl, Nat.le_refl _, Lib.hid (by unfold rowZ; split <;> simp [rowL])⟩
    case round =>
      obtain ⟨j, T, hj, rfl, rfl, hTs, hT⟩ := hrel
      by_cases hlt : j < S.size
      · have i0 : (0 : Int) ≤ (j : Int) := by omega
        have hjX : j < X.length := by rw [← HSS.out]; exact hlt
        have hwj : wrap64 (((j / c : Nat) : Int)) = ((j / c : Nat) : Int) := by
          have := Nat.div_le_self j c
          have h0 : (0 : Int) ≤ ((j / c : Nat) : Int) := Int.natCast_nonneg _
          have h1 : ((j / c : Nat) : Int) ≤ (j : Int) := Int.ofNat_le.mpr this
          revert h0 h1; generalize ((j / c : Nat) : Int) = q; intro h0 h1
          exact IntWalk.wrap64_in _ ⟨by omega, by omega⟩
        by_cases hk : ((j / c : Nat) : Int) = k
        · have hk2 : (wrap64 ((j : Int) / (c : Int)) == k) = true := by rw [beq_iff_eq, ← Int.natCast_ediv, hwj]; exact hk
          have hk0 : 0 ≤ k := by rw [← hk]; exact Int.natCast_nonneg _
          have hkt : k.toNat = j / c := by rw [← hk]; exact Int.toNat_natCast _
          have hstep : Hid (rowZ (X.take (j + 1)) (c : Int) k = rowZ (X.take j) (c : Int) k ++ [X[j]]) := by
            refine Lib.hid ?_
            unfold rowZ
            rw [if_neg (by omega), if_neg (by omega), Int.toNat_natCast, rowL_step X c k.toNat j hjX hc0, if_pos hkt.symm]
          have HK := Lib.hid hk
          clear hk
          clear hwj
          go_wp2_with fail
          go_round
          case rel =>
            refine ⟨j + 1, T ++ S.extract j (j + 1), by omega, by go_num, rfl, ?_, Lib.hid ?_⟩
            · rw [ByteArray.size_append, ByteArray.size_extract]; omega
            · rw [hstep.out, byte_end S X HS.out j hjX, hT.out]
              exact bytes_app _ _
          case measure => simp [intOf]; omega
        · have hk2 : (wrap64 ((j : Int) / (c : Int)) == k) = false := by rw [beq_eq_false_iff_ne, ← Int.natCast_ediv, hwj]; exact hk
          have hstep : Hid (rowZ (X.take (j + 1)) (c : Int) k = rowZ (X.take j) (c : Int) k) := by
            refine Lib.hid ?_
            unfold rowZ
            by_cases hneg : k < 0
            · rw [if_pos (.inr hneg), if_pos (.inr hneg)]
            · rw [if_neg (by omega), if_neg (by omega), Int.toNat_natCast, rowL_step X c k.toNat j hjX hc0, if_neg (fun e => hk (by rw [e]; omega)), List.append_nil]
          have HK := Lib.hid hk
          clear hk
          clear hwj
          go_wp2_with fail
          go_round
          case rel => exact ⟨j + 1, T, by omega, by go_num, rfl, by omega, Lib.hid (by rw [hstep.out]; exact hT.out)⟩
          case measure => simp [intOf]; omega
      · obtain rfl : j = S.size := by omega
        go_wp2_with fail
        go_ret
        refine ⟨?_, hb⟩
        obtain rfl : F = T := by rw [HF.out, hT.out, List.take_of_length_le (by rw [← HSS.out]; omega)]
        rfl
end Go.Proofs.YtnpdpfkoghhioaaDoor
