/- The law WrapsCursor: its walk. -/
import Derived.Test.YtnpdpfkoghhioaaDoorWV
import Derived.Test.YtnpdpfkoghhioaaDoorWU
namespace Go.Proofs.YtnpdpfkoghhioaaDoor
open Go.RowKit

theorem cellsTo_lt (l : List UInt8) (k n : Nat) (h : k < n) (hn : n ≤ l.length) : (cellsTo l k).length < (cellsTo l n).length := by
  obtain ⟨r, hr⟩ := cellsTo_mono l (k + 1) n h
  rw [hr, List.length_append, cellsTo_succ l k (by omega), List.length_append]
  have := (shown_len l[k] (cellsTo l k).length).1
  omega
theorem cursor_facts (l : List UInt8) (d : Nat) (i : Int) (r c p : Nat) (hp : p = (cellsTo l (min (max i 0) (l.length : Int)).toNat).length) (h : atZ l (1 + (d : Int)) i = (r, c)) :
    r < rowsN (cellsTo l l.length).length (d + 1) ∧ c < d + 1 ∧
    (min (max i 0) (l.length : Int) < (l.length : Int) → r * (d + 1) + c = p ∧ p < (cellsTo l l.length).length ∧ c < (rowL (cellsTo l l.length) (d + 1) r).length) ∧
    (¬ min (max i 0) (l.length : Int) < (l.length : Int) → (0 < (cellsTo l l.length).length ∧ (cellsTo l l.length).length % (d + 1) = 0 → r * (d + 1) + c + 1 = (cellsTo l l.length).length) ∧
      ((cellsTo l l.length).length = 0 ∨ (cellsTo l l.length).length % (d + 1) ≠ 0 → r * (d + 1) + c = (cellsTo l l.length).length)) := by
  rw [atZ, if_neg (by omega), ← hp, show (1 + (d : Int)).toNat = d + 1 by omega] at h
  have hc : 0 < d + 1 := by omega
  by_cases hi : min (max i 0) (l.length : Int) < (l.length : Int)
  · rw [atN, if_neg (by simp; omega)] at h
    have h1 : p / (d + 1) = r := congrArg Prod.fst h
    have h2 : p % (d + 1) = c := congrArg Prod.snd h
    have h3 : p < (cellsTo l l.length).length := by rw [hp]; exact cellsTo_lt l _ _ (by omega) (Nat.le_refl _)
    have h4 : r * (d + 1) + c = p := by rw [← h1, ← h2]; exact Nat.div_add_mod' p (d + 1)
    have h5 : c < d + 1 := by rw [← h2]; exact Nat.mod_lt _ hc
    refine ⟨?_, h5, fun _ => ⟨h4, h3, ?_⟩, fun h => absurd hi h⟩
    · rw [rowsN_eq, if_neg (by omega), ← h1]
      have : p / (d + 1) ≤ ((cellsTo l l.length).length - 1) / (d + 1) := Nat.div_le_div_right (by omega)
      omega
    · rw [rowL_len]; omega
  · have hk : (min (max i 0) (l.length : Int)).toNat = l.length := by omega
    rw [hk] at hp
    rw [← hp]
    by_cases hz : 0 < p ∧ p % (d + 1) = 0
    · have hl0 : l.length ≠ 0 := by
        intro e
        have := (cellsTo_len l l.length (Nat.le_refl _)).2
        omega
      rw [atN, if_pos ⟨by simp; omega, hz⟩] at h
      have h1 : p / (d + 1) - 1 = r := congrArg Prod.fst h
      have h2 : d + 1 - 1 = c := congrArg Prod.snd h
      obtain ⟨e1, e2⟩ := pred_div p (d + 1) hc hz.1 hz.2
      have h4 : r * (d + 1) + c = p - 1 := by rw [← h1, ← h2, ← e1, ← e2]; exact Nat.div_add_mod' (p - 1) (d + 1)
      refine ⟨?_, by omega, fun h => absurd h hi, fun _ => ⟨fun _ => by omega, fun h => by omega⟩⟩
      rw [rowsN_eq, if_neg (by omega), ← h1, ← e1]; omega
    · rw [atN, if_neg (by rintro ⟨_, h⟩; exact hz h)] at h
      have h1 : p / (d + 1) = r := congrArg Prod.fst h
      have h2 : p % (d + 1) = c := congrArg Prod.snd h
      have h4 : r * (d + 1) + c = p := by rw [← h1, ← h2]; exact Nat.div_add_mod' p (d + 1)
      have h5 : c < d + 1 := by rw [← h2]; exact Nat.mod_lt _ hc
      refine ⟨?_, h5, fun h => absurd h hi, fun _ => ⟨fun h => absurd h hz, fun _ => h4⟩⟩
      rw [rowsN_eq]
      split
      · next h0 => rw [← h1, h0]; simp
      · next h0 =>
        have hm : p % (d + 1) ≠ 0 := fun e => hz ⟨by omega, e⟩
        obtain ⟨j, rfl⟩ : ∃ j, p = j + 1 := ⟨p - 1, by omega⟩
        rw [← h1, Nat.succ_div, if_neg (fun e => hm (Nat.mod_eq_zero_of_dvd e))]
        simp

set_option maxRecDepth 100000 in
set_option maxHeartbeats 4000000 in
theorem wrapsCursor_walk (s : ByteArray) (col i : Int) (w : World) (h : TabOK w) (h0 : 0 ≤ col) (h1 : col < 256) :
    Calls Tryd.prog 10 #[.string s, .int .u8 col, .int .i64 i] w fun e w' => e = .returned (.bool true) ∧ Below w.heap.size w w' := by
  have HT := Lib.hid h
  clear h
  obtain ⟨d, rfl⟩ := Int.eq_ofNat_of_zero_le h0
  have hd : d < 256 := by omega
  clear h0 h1
  by_cases hs : s.size ≤ 500
  · obtain ⟨S, R, r, c, p, n, hS, K1, K2, K3, K4, HF⟩ : ∃ (S R : ByteArray) (r c p n : Nat), S.size ≤ 4000 ∧
        Hid (∀ w2, TabOK w2 → Calls Tryd.prog 21 #[.string s] w2 fun e w' => (∃ b1 o1 k1, e = .returned (.tuple #[.string S, .slice (some ⟨b1, o1, none⟩) (s.size + 1) k1]) ∧ b1 < w'.heap.size ∧ w'.cell? ⟨b1, o1 + (min (max i 0) (s.size : Int)).toNat, none⟩ = some (.int .i64 (p : Int))) ∧ Below w2.heap.size w2 w') ∧
        Hid (∀ w2, TabOK w2 → Calls Tryd.prog 25 #[.string s, .int .i64 (1 + (d : Int)), .int .i64 i] w2 fun e w' => e = .returned (.tuple #[.int .i64 (r : Int), .int .i64 (c : Int)]) ∧ Below w2.heap.size w2 w') ∧
        Hid (∀ w2, TabOK w2 → Calls Tryd.prog 27 #[.string s, .int .i64 (1 + (d : Int))] w2 fun e w' => e = .returned (.int .i64 (n : Int)) ∧ Below w2.heap.size w2 w') ∧
        Hid (∀ w2, TabOK w2 → Calls Tryd.prog 29 #[.string s, .int .i64 (1 + (d : Int)), .int .i64 (r : Int)] w2 fun e w' => e = .returned (.string R) ∧ Below w2.heap.size w2 w') ∧
        (r < n ∧ n ≤ S.size + 1 ∧ c < d + 1 ∧ (min (max i 0) (s.size : Int) < (s.size : Int) → r * (d + 1) + c = p ∧ p < S.size ∧ c < R.size) ∧
          (¬ min (max i 0) (s.size : Int) < (s.size : Int) → (0 < S.size ∧ S.size % (d + 1) = 0 → r * (d + 1) + c + 1 = S.size) ∧ (S.size = 0 ∨ S.size % (d + 1) ≠ 0 → r * (d + 1) + c = S.size))) := by
      have hs2 : s.size ≤ 100000 := by omega
      have hc : 1 + (d : Int) ≤ 9223372036854775807 := by omega
      have hlen := (cellsTo_len s.data.toList s.size (by exact Nat.le_refl _)).2
      have hsl : s.data.toList.length = s.size := rfl
      have hsz : ∀ l : List UInt8, (⟨l.toArray⟩ : ByteArray).size = l.length := fun l => by show l.toArray.size = _; rw [List.size_toArray]
      have hf := cursor_facts s.data.toList d i (atZ s.data.toList (1 + (d : Int)) i).1 (atZ s.data.toList (1 + (d : Int)) i).2 _ rfl rfl
      rw [hsl] at hf
      refine ⟨⟨(cellsTo s.data.toList s.size).toArray⟩, ⟨(rowL (cellsTo s.data.toList s.size) (d + 1) (atZ s.data.toList (1 + (d : Int)) i).1).toArray⟩, (atZ s.data.toList (1 + (d : Int)) i).1, (atZ s.data.toList (1 + (d : Int)) i).2, (cellsTo s.data.toList (min (max i 0) (s.size : Int)).toNat).length, rowsN (cellsTo s.data.toList s.size).length (d + 1), ?_, Lib.hid fun w2 h => ?_, Lib.hid fun w2 h => at_any s (1 + (d : Int)) i w2 h hs2 hc, Lib.hid fun w2 h => ?_, Lib.hid fun w2 h => ?_, ?_⟩
      · rw [hsz]; omega
      · refine (cells_any s w2 h hs2).mono fun e w' ⟨⟨v, he, hv⟩, hb⟩ => ⟨?_, hb⟩
        obtain ⟨b1, o1, k1, rfl, hlt, hcell⟩ := ints_open hv (n := s.size + 1) (by rw [places_len, hsl]) (by omega)
        exact ⟨b1, o1, k1, he, hlt, by rw [hcell _ (by omega), places_get _ _ (by omega)]⟩
      · have := rows_any s (1 + (d : Int)) w2 h hs2 hc
        rw [rowsZ_nat] at this; exact this
      · have := row_any s (1 + (d : Int)) ((atZ s.data.toList (1 + (d : Int)) i).1 : Nat) w2 h hs2 hc
        rw [rowZ_nat] at this; exact this
      · rw [hsz, hsz]
        exact ⟨hf.1, rowsN_le _ _, hf.2⟩
    obtain ⟨hr, hn, hc, hA, hE⟩ := HF
    have hm0 : r * (d + 1) ≤ 4000 * 256 := Nat.mul_le_mul (by omega) (by omega)
    have hme : ((r * (d + 1) : Nat) : Int) = (r : Int) * (1 + (d : Int)) := by rw [Int.natCast_mul]; congr 1; omega
    have hm1 : (0 : Int) ≤ (r : Int) * (1 + (d : Int)) := by rw [← hme]; exact Int.natCast_nonneg _
    have hm2 : (r : Int) * (1 + (d : Int)) ≤ 1024000 := by rw [← hme]; omega
    have g1 : (0 : Int) ≤ min (max i 0) (s.size : Int) := by omega
    have g2 : min (max i 0) (s.size : Int) < ((s.size + 1 : Nat) : Int) := by omega
    go_enter Tryd.func10, Tryd.ntmps10
    by_cases hi : min (max i 0) (s.size : Int) < (s.size : Int)
    · obtain ⟨a1, a2, a3⟩ := hA hi
      have t0 : decide (min (max i 0) (s.size : Int) < (s.size : Int)) = true := by simp only [decide_eq_true_eq]; omega
      have t1 : (((r : Int) * (1 + (d : Int)) + (c : Int)) == (p : Int)) = true := by rw [beq_iff_eq, ← hme]; omega
      have t2 : decide ((r : Int) * (1 + (d : Int)) + (c : Int) < (S.size : Int)) = true := by rw [decide_eq_true_eq, ← hme]; omega
      clear hA hE hme hm0 a1 a2 hi
      go_wp2_with fail
      (with_reducible refine (K1.out w HT.out).mono ?_); rintro e w1 ⟨⟨b1, o1, k1, rfl, hl1, hc1⟩, hb1⟩
      go_wp2_with fail
      (with_reducible refine (K2.out w1 (TabOK.later HT.out hb1)).mono ?_); rintro e w2 ⟨rfl, hb2⟩
      have hc2 := (hb2.cell (p := ⟨b1, o1 + (min (max i 0) (s.size : Int)).toNat, none⟩) hl1).trans hc1
      have hl2 : b1 < w2.heap.size := Nat.lt_of_lt_of_le hl1 hb2.size
      have hb3 := tr_below hb1 hb2
      clear hb1 hb2 hc1 hl1
      go_wp2_with fail
      (with_reducible refine (K3.out w2 (TabOK.later HT.out hb3)).mono ?_); rintro e w3 ⟨rfl, hb4⟩
      have hc3 := (hb4.cell (p := ⟨b1, o1 + (min (max i 0) (s.size : Int)).toNat, none⟩) hl2).trans hc2
      have hb5 := tr_below hb3 hb4
      clear hb3 hb4 hc2 hl2
      go_wp2_with fail
      (with_reducible refine (K4.out w3 (TabOK.later HT.out hb5)).mono ?_); rintro e w4 ⟨rfl, hb6⟩
      have hb7 := tr_below hb5 hb6
      clear hb5 hb6 hc3
      go_wp2_with fail
      (with_reducible refine (does_any _ (TabOK.later HT.out hb7)).mono ?_); rintro e w5 ⟨rfl, hb8⟩
      have hb9 := tr_below hb7 hb8
      clear hb8 hb7
      go_wp2_with fail
      go_ret
      exact ⟨rfl, hb9⟩
    · obtain ⟨a1, a2⟩ := hE hi
      have t0 : decide (min (max i 0) (s.size : Int) < (s.size : Int)) = false := by simp only [decide_eq_false_iff_not]; omega
      clear hA hE hi g1 g2
      by_cases hz : S.size = 0
      · have e0 := a2 (.inl hz)
        have er : r = 0 := by
          rcases Nat.eq_zero_or_pos r with h | h
          · exact h
          · have := Nat.mul_le_mul h (show 1 ≤ d + 1 by omega); omega
        have ec : c = 0 := by omega
        subst er ec
        obtain rfl : S = ByteArray.empty := ByteArray.ext (Array.eq_empty_of_size_eq_zero hz)
        clear a1 a2 e0 hme hm0 hm1 hm2 hz hS
        go_wp2_with fail
        (with_reducible refine (K1.out w HT.out).mono ?_); rintro e w1 ⟨⟨b1, o1, k1, rfl, -, -⟩, hb1⟩
        go_wp2_with fail
        (with_reducible refine (K2.out w1 (TabOK.later HT.out hb1)).mono ?_); rintro e w2 ⟨rfl, hb2⟩
        have hb3 := tr_below hb1 hb2
        clear hb1 hb2
        go_wp2_with fail
        (with_reducible refine (K3.out w2 (TabOK.later HT.out hb3)).mono ?_); rintro e w3 ⟨rfl, hb4⟩
        have hb5 := tr_below hb3 hb4
        clear hb3 hb4
        go_wp2_with fail
        (with_reducible refine (does_any _ (TabOK.later HT.out hb5)).mono ?_); rintro e w5 ⟨rfl, hb8⟩
        have hb9 := tr_below hb5 hb8
        clear hb8 hb5
        go_wp2_with fail
        go_ret
        exact ⟨rfl, hb9⟩
      · have t4 : ¬ S = ByteArray.empty := fun e => hz (by rw [e]; rfl)
        have hcm : (S.size : Int) % (1 + (d : Int)) = ((S.size % (d + 1) : Nat) : Int) := by rw [Int.natCast_emod]; congr 1; omega
        by_cases hm : S.size % (d + 1) = 0
        · have e0 := a1 ⟨by omega, hm⟩
          have t1 : (((r : Int) * (1 + (d : Int)) + (c : Int)) == (S.size : Int)) = false := by rw [beq_eq_false_iff_ne, ← hme]; omega
          have t2 : (((r : Int) * (1 + (d : Int)) + (c : Int)) == (S.size : Int) - 1) = true := by rw [beq_iff_eq, ← hme]; omega
          have t3 : (((S.size : Int) % (1 + (d : Int))) == 0) = true := by rw [beq_iff_eq, hcm, hm]; rfl
          have t5 : (S.size : Int) % (1 + (d : Int)) = 0 := by rw [hcm, hm]; rfl
          clear a1 a2 e0 hme hm0 hcm hm hz
          go_wp2_with fail
          (with_reducible refine (K1.out w HT.out).mono ?_); rintro e w1 ⟨⟨b1, o1, k1, rfl, -, -⟩, hb1⟩
          go_wp2_with fail
          (with_reducible refine (K2.out w1 (TabOK.later HT.out hb1)).mono ?_); rintro e w2 ⟨rfl, hb2⟩
          have hb3 := tr_below hb1 hb2
          clear hb1 hb2
          go_wp2_with fail
          (with_reducible refine (K3.out w2 (TabOK.later HT.out hb3)).mono ?_); rintro e w3 ⟨rfl, hb4⟩
          have hb5 := tr_below hb3 hb4
          clear hb3 hb4
          go_wp2_with fail
          (with_reducible refine (does_any _ (TabOK.later HT.out hb5)).mono ?_); rintro e w5 ⟨rfl, hb8⟩
          have hb9 := tr_below hb5 hb8
          clear hb8 hb5
          go_wp2_with fail
          go_ret
          exact ⟨rfl, hb9⟩
        · have e0 := a2 (.inr hm)
          have t1 : (((r : Int) * (1 + (d : Int)) + (c : Int)) == (S.size : Int)) = true := by rw [beq_iff_eq, ← hme]; omega
          have t3 : (((S.size : Int) % (1 + (d : Int))) == 0) = false := by rw [beq_eq_false_iff_ne, hcm]; omega
          have t5 : ¬ (S.size : Int) % (1 + (d : Int)) = 0 := by rw [hcm]; omega
          clear a1 a2 e0 hme hm0 hcm hm hz
          go_wp2_with fail
          (with_reducible refine (K1.out w HT.out).mono ?_); rintro e w1 ⟨⟨b1, o1, k1, rfl, -, -⟩, hb1⟩
          go_wp2_with fail
          (with_reducible refine (K2.out w1 (TabOK.later HT.out hb1)).mono ?_); rintro e w2 ⟨rfl, hb2⟩
          have hb3 := tr_below hb1 hb2
          clear hb1 hb2
          go_wp2_with fail
          (with_reducible refine (K3.out w2 (TabOK.later HT.out hb3)).mono ?_); rintro e w3 ⟨rfl, hb4⟩
          have hb5 := tr_below hb3 hb4
          clear hb3 hb4
          go_wp2_with fail
          (with_reducible refine (does_any _ (TabOK.later HT.out hb5)).mono ?_); rintro e w5 ⟨rfl, hb8⟩
          have hb9 := tr_below hb5 hb8
          clear hb8 hb5
          go_wp2_with fail
          go_ret
          exact ⟨rfl, hb9⟩
  · go_enter Tryd.func10, Tryd.ntmps10
    have hd : decide ((500 : Int) < (s.size : Int)) = true := by simp; omega
    go_wp2_with fail
    go_ret
    exact ⟨rfl, Below.refl _ _⟩
end Go.Proofs.YtnpdpfkoghhioaaDoor
