/- wraps.Row. -/
import Derived.Test.YtnpdpfkoghhioaaDoorWM
namespace Go.Proofs.YtnpdpfkoghhioaaDoor
open Go.RowKit

theorem bytes_cut (S : ByteArray) (X : List UInt8) (hS : S = ⟨X.toArray⟩) (a b : Nat) : S.extract a b = ⟨((X.drop a).take (b - a)).toArray⟩ := by
  subst hS
  apply ByteArray.ext
  rw [ByteArray.data_extract]
  apply Array.ext'
  simp [List.extract]

set_option maxRecDepth 100000 in
set_option maxHeartbeats 2000000 in
theorem row_any (s : ByteArray) (cols k : Int) (w : World) (h : TabOK w) (hs : s.size ≤ 100000) (hc : cols ≤ 9223372036854775807) :
    Calls Tryd.prog 29 #[.string s, .int .i64 cols, .int .i64 k] w fun e w' => e = .returned (.string ⟨(rowZ (cellsTo s.data.toList s.size) cols k).toArray⟩) ∧ Below w.heap.size w w' := by
  have HR := Lib.hid (rows_any s cols w h hs hc)
  have HC : Hid (∀ w2, Below w.heap.size w w2 → Calls Tryd.prog 21 #[.string s] w2 fun e w' => (∃ v, e = .returned (.tuple #[.string ⟨(cellsTo s.data.toList s.size).toArray⟩, v]) ∧ IntsAt w' v (placesL s.data.toList)) ∧ Below w2.heap.size w2 w') :=
    Lib.hid (fun w2 hb => cells_any s w2 (TabOK.later h hb) hs)
  have hlen := (cellsTo_len s.data.toList s.size (by exact Nat.le_refl _)).2
  clear h
  obtain ⟨X, hX⟩ : ∃ X, X = cellsTo s.data.toList s.size := ⟨_, rfl⟩
  rw [← hX] at HC HR hlen ⊢
  clear hX
  obtain ⟨S, hS⟩ : ∃ S : ByteArray, S = ⟨X.toArray⟩ := ⟨_, rfl⟩
  rw [← hS] at HC
  have hSs : S.size = X.length := by rw [hS]; show X.toArray.size = _; rw [List.size_toArray]
  have HS := Lib.hid hS
  have HSS := Lib.hid hSs
  rw [← hSs] at hlen HR
  have hlen2 : S.size ≤ 800000 := by
    have : s.data.toList.length = s.size := rfl
    omega
  clear hS hSs hlen
  obtain ⟨F, hF⟩ : ∃ F : ByteArray, F = ⟨(rowZ X cols k).toArray⟩ := ⟨_, rfl⟩
  rw [← hF]
  have HF := Lib.hid hF
  clear hF
  obtain ⟨R, hR⟩ : ∃ R : Nat, R = rowsZ S.size cols := ⟨_, rfl⟩
  rw [← hR] at HR
  have HRR := Lib.hid hR
  clear hR
  go_enter Tryd.func29, Tryd.ntmps29
  by_cases hk : k < 0
  · have H0 : Hid (F = ⟨#[]⟩) := Lib.hid (by rw [HF.out, rowZ, if_pos (.inr hk)])
    go_wp2_with fail
    go_ret
    exact ⟨by rw [H0.out]; rfl, Below.refl _ _⟩
  · obtain ⟨m, rfl⟩ := Int.eq_ofNat_of_zero_le (show 0 ≤ k by omega)
    have k0 : ¬ ((m : Int) < 0) := hk
    go_wp2_with fail
    (with_reducible refine HR.out.mono ?_); rintro e w2 ⟨rfl, hb⟩
    by_cases hRk : R ≤ m
    · have H0 : Hid (F = ⟨#[]⟩) := Lib.hid (by
        rw [HF.out, rowZ]
        split
        · rfl
        · rename_i hh
          have h1 : ¬ cols < 1 := fun e => hh (.inl e)
          rw [HRR.out, rowsZ, if_neg h1] at hRk
          have := rowsN_end S.size cols.toNat m (by omega) hRk
          rw [rowL, Int.toNat_natCast, List.drop_of_length_le (by rw [← HSS.out]; exact this), List.take_nil])
      go_wp2_with fail
      go_ret
      exact ⟨by rw [H0.out]; rfl, hb⟩
    · have h1 : ¬ cols < 1 := by
        intro hh
        rw [HRR.out, rowsZ, if_pos hh] at hRk
        exact hRk (Nat.zero_le _)
      obtain ⟨c, rfl⟩ := Int.eq_ofNat_of_zero_le (show 0 ≤ cols by omega)
      have hin : m * c ≤ S.size := by
        rw [HRR.out, rowsZ, if_neg h1, Int.toNat_natCast] at hRk
        rcases rowsN_in S.size c m (by omega) (by omega) with h2 | ⟨h2, h3⟩
        · omega
        · subst h3; omega
      have hmul : ((m : Int) * (c : Int)) = ((m * c : Nat) : Int) := by push_cast; rfl
      have HCC := Lib.hid (HC.out w2 hb)
      clear HC
      have HM : Hid (wrap64 ((m : Int) * (c : Int)) = ((m * c : Nat) : Int)) := Lib.hid (by
        rw [hmul]
        revert hin; generalize m * c = q; intro hin
        exact IntWalk.wrap64_in _ ⟨by omega, by omega⟩)
      clear hmul
      obtain ⟨p, hp⟩ : ∃ p, p = m * c := ⟨_, rfl⟩
      rw [← hp] at HM hin
      have HP := Lib.hid hp
      clear hp
      have HE : Hid (wrap64 (wrap64 ((m : Int) * (c : Int)) + min (c : Int) (S.size : Int)) = ((p + min c S.size : Nat) : Int)) := Lib.hid (by
        rw [HM.out, IntWalk.wrap64_in _ ⟨by omega, by omega⟩]; omega)
      have g1 : (0 : Int) ≤ min (wrap64 (wrap64 ((m : Int) * (c : Int)) + min (c : Int) (S.size : Int))) (S.size : Int) := by rw [HE.out]; omega
      have g2 : min (wrap64 (wrap64 ((m : Int) * (c : Int)) + min (c : Int) (S.size : Int))) (S.size : Int) ≤ (S.size : Int) := by omega
      have g3 : (0 : Int) ≤ wrap64 ((m : Int) * (c : Int)) := by rw [HM.out]; omega
      have g4 : wrap64 ((m : Int) * (c : Int)) ≤ min (wrap64 (wrap64 ((m : Int) * (c : Int)) + min (c : Int) (S.size : Int))) (S.size : Int) := by rw [HE.out, HM.out]; omega
      have g5 : wrap64 ((m : Int) * (c : Int)) ≤ (((min (wrap64 (wrap64 ((m : Int) * (c : Int)) + min (c : Int) (S.size : Int))) (S.size : Int)).toNat : Nat) : Int) := by rw [HE.out, HM.out]; omega
      go_wp2_with fail
      (with_reducible refine HCC.out.mono ?_); rintro e w3 ⟨⟨v, rfl, hv⟩, hb3⟩
      go_wp2_with fail
      go_ret
      refine ⟨?_, hb.trans (hb3.mono hb.size)⟩
      have hX : X.length = S.size := HSS.out.symm
      have h1n : ¬ ((c : Int) < 1) := by omega
      rw [HF.out, rowZ, if_neg (by omega), Int.toNat_natCast, Int.toNat_natCast, rowL_cut, HM.out, bytes_cut S X HS.out, ← HP.out, hX]
      have e1 : (min ((p : Int) + min (c : Int) (S.size : Int)) (S.size : Int)).toNat - ((p : Int)).toNat = min (min c S.size) (S.size - p) := by omega
      rw [e1, Int.toNat_natCast]
      rcases Nat.le_total (min c S.size) (S.size - p) with h3 | h3
      · rw [Nat.min_eq_left h3]; rfl
      · rw [Nat.min_eq_right h3, List.take_of_length_le (i := S.size - p) (by rw [List.length_drop]; omega), List.take_of_length_le (by rw [List.length_drop]; omega)]; rfl
end Go.Proofs.YtnpdpfkoghhioaaDoor
