/- The law WrapsWhole: its walk. -/
import Derived.Test.YtnpdpfkoghhioaaDoorWR
namespace Go.Proofs.YtnpdpfkoghhioaaDoor
open Go.RowKit

theorem rowZ_nat (X : List UInt8) (d k : Nat) : rowZ X (1 + (d : Int)) (k : Int) = rowL X (d + 1) k := by
  unfold rowZ
  rw [if_neg (by omega), Int.toNat_natCast, show (1 + (d : Int)).toNat = d + 1 by omega]
theorem rowZ_neg (X : List UInt8) (c : Int) : rowZ X c (-1) = [] := by unfold rowZ; rw [if_pos (.inr (by decide))]
theorem rowsZ_nat (n d : Nat) : rowsZ n (1 + (d : Int)) = rowsN n (d + 1) := by
  unfold rowsZ; rw [if_neg (by omega), show (1 + (d : Int)).toNat = d + 1 by omega]
theorem whole_facts (X : List UInt8) (c : Nat) (hc : 0 < c) :
    (∀ k, k < rowsN X.length c → (k + 1 < rowsN X.length c → (rowL X c k).length = c) ∧ (rowL X c k).length ≤ c ∧ ((rowL X c k).length = 0 → rowsN X.length c ≤ 1)) ∧ X.take (rowsN X.length c * c) = X ∧ rowL X c (rowsN X.length c) = [] := by
  have he := rowsN_end X.length c (rowsN X.length c) hc (Nat.le_refl _)
  refine ⟨fun k hk => ⟨fun h => ?_, ?_, fun h => ?_⟩, List.take_of_length_le he, by unfold rowL; rw [List.drop_of_length_le he]; simp⟩
  · rw [rowL_len]
    rcases rowsN_in X.length c (k + 1) hc h with h1 | ⟨_, h1⟩
    · rw [Nat.add_mul, Nat.one_mul] at h1; omega
    · omega
  · rw [rowL_len]; omega
  · rw [rowL_len] at h
    rcases rowsN_in X.length c k hc hk with h1 | ⟨h1, _⟩
    · omega
    · rw [h1, rowsN_eq]; simp

/-- What the walk asks of the rows: their bytes R k, the bytes ahead of them J k, how many they are n. -/
structure WholeOK (S : ByteArray) (d n : Nat) (R J : Nat → ByteArray) : Prop where
  pos : 1 ≤ n
  most : n ≤ S.size + 1
  full : ∀ k, k + 1 < n → (R k).size = d + 1
  le : ∀ k, k < n → (R k).size ≤ d + 1
  one : ∀ k, k < n → (R k).size = 0 → n ≤ 1
  zero : J 0 = ⟨#[]⟩
  step : ∀ k, J k ++ R k = J (k + 1)
  all : J n = S
  size : ∀ k, (J k).size ≤ S.size

theorem whole_ok (X : List UInt8) (d : Nat) : WholeOK ⟨X.toArray⟩ d (rowsN X.length (d + 1)) (fun k => ⟨(rowL X (d + 1) k).toArray⟩) (fun k => ⟨(X.take (k * (d + 1))).toArray⟩) := by
  have hf := whole_facts X (d + 1) (by omega)
  have hsz : ∀ l : List UInt8, (⟨l.toArray⟩ : ByteArray).size = l.length := fun l => by show l.toArray.size = _; rw [List.size_toArray]
  refine ⟨rowsN_pos _ _, by rw [hsz]; exact rowsN_le _ _, fun k hk => ?_, fun k hk => ?_, fun k hk h => ?_, by simp, fun k => ?_, ?_, fun k => ?_⟩
  · rw [hsz]; exact (hf.1 k (by omega)).1 hk
  · rw [hsz]; exact (hf.1 k hk).2.1
  · rw [hsz] at h; exact (hf.1 k hk).2.2 h
  · have h1 : ∀ a b : List UInt8, (⟨a.toArray⟩ : ByteArray) ++ ⟨b.toArray⟩ = ⟨(a ++ b).toArray⟩ := bytes_app
    rw [h1, rowL_join]
  · show (⟨(X.take (rowsN X.length (d + 1) * (d + 1))).toArray⟩ : ByteArray) = _
    rw [hf.2.1]
  · rw [hsz, hsz, List.length_take]; omega

set_option maxRecDepth 100000 in
set_option maxHeartbeats 4000000 in
theorem wrapsWhole_walk (s : ByteArray) (col : Int) (w : World) (h : TabOK w) (h0 : 0 ≤ col) (h1 : col < 256) :
    Calls Tryd.prog 7 #[.string s, .int .u8 col] w fun e w' => e = .returned (.bool true) ∧ Below w.heap.size w w' := by
  have HT := Lib.hid h
  clear h
  obtain ⟨d, rfl⟩ := Int.eq_ofNat_of_zero_le h0
  have hd : d < 256 := by omega
  clear h0 h1
  by_cases hs : s.size ≤ 500
  · obtain ⟨S, n, R, J, OK, hS, K1, K2, K3, K4, K5⟩ : ∃ (S : ByteArray) (n : Nat) (R J : Nat → ByteArray), Hid (WholeOK S d n R J) ∧ S.size ≤ 4000 ∧
        Hid (∀ w2, TabOK w2 → Calls Tryd.prog 21 #[.string s] w2 fun e w' => (∃ v, e = .returned (.tuple #[.string S, v])) ∧ Below w2.heap.size w2 w') ∧
        Hid (∀ w2, TabOK w2 → Calls Tryd.prog 27 #[.string s, .int .i64 (1 + (d : Int))] w2 fun e w' => e = .returned (.int .i64 (n : Int)) ∧ Below w2.heap.size w2 w') ∧
        Hid (∀ w2 (k : Nat), TabOK w2 → Calls Tryd.prog 29 #[.string s, .int .i64 (1 + (d : Int)), .int .i64 (k : Int)] w2 fun e w' => e = .returned (.string (R k)) ∧ Below w2.heap.size w2 w') ∧
        Hid (∀ w2, TabOK w2 → Calls Tryd.prog 29 #[.string s, .int .i64 (1 + (d : Int)), .int .i64 (-1)] w2 fun e w' => e = .returned (.string ⟨#[]⟩) ∧ Below w2.heap.size w2 w') ∧
        Hid (∀ w2, TabOK w2 → Calls Tryd.prog 29 #[.string s, .int .i64 (1 + (d : Int)), .int .i64 (n : Int)] w2 fun e w' => e = .returned (.string ⟨#[]⟩) ∧ Below w2.heap.size w2 w') := by
      have hs2 : s.size ≤ 100000 := by omega
      have hc : 1 + (d : Int) ≤ 9223372036854775807 := by omega
      have hlen := (cellsTo_len s.data.toList s.size (by exact Nat.le_refl _)).2
      refine ⟨⟨(cellsTo s.data.toList s.size).toArray⟩, _, _, _, Lib.hid (whole_ok (cellsTo s.data.toList s.size) d), ?_, Lib.hid fun w2 h => ?_, Lib.hid fun w2 h => ?_, Lib.hid fun w2 k h => ?_, Lib.hid fun w2 h => ?_, Lib.hid fun w2 h => ?_⟩
      · show (List.toArray _).size ≤ _; rw [List.size_toArray]; omega
      · exact (cells_any s w2 h hs2).mono fun e w' ⟨⟨v, he, _⟩, hb⟩ => ⟨⟨v, he⟩, hb⟩
      · have := rows_any s (1 + (d : Int)) w2 h hs2 hc
        rw [rowsZ_nat] at this; exact this
      · have := row_any s (1 + (d : Int)) (k : Int) w2 h hs2 hc
        rw [rowZ_nat] at this; exact this
      · have := row_any s (1 + (d : Int)) (-1) w2 h hs2 hc
        rw [rowZ_neg] at this; exact this
      · have := row_any s (1 + (d : Int)) (rowsN (cellsTo s.data.toList s.size).length (d + 1) : Nat) w2 h hs2 hc
        rw [rowZ_nat, (whole_facts _ _ (by omega)).2.2] at this; exact this
    have n1 := OK.out.pos
    have n2 := OK.out.most
    go_enter Tryd.func7, Tryd.ntmps7
    go_wp2_with fail
    (with_reducible refine (K1.out w HT.out).mono ?_); rintro e w1 ⟨⟨v1, rfl⟩, hb1⟩
    go_wp2_with fail
    (with_reducible refine (K2.out w1 (TabOK.later HT.out hb1)).mono ?_); rintro e w2 ⟨rfl, hb2⟩
    have hb3 := tr_below hb1 hb2
    clear hb1 hb2
    go_wp2_with fail
    go_loopw [9, 10, 11] (fun a k _ wr => ∃ j : Nat, j ≤ n ∧ k = .int .i64 j ∧ a = .string (J j) ∧ Below w.heap.size w wr) (fun _ k _ _ => n - (intOf k).toNat)
    case atStart => exact ⟨0, Nat.zero_le _, rfl, by rw [OK.out.zero], hb3⟩
    case round =>
      obtain ⟨j, hj, rfl, rfl, hbj⟩ := hrel
      clear hb3
      by_cases hlt : j < n
      · go_wp2_with fail
        (with_reducible refine (K3.out _ j (TabOK.later HT.out hbj)).mono ?_); rintro e w4 ⟨rfl, hb4⟩
        have hb5 := tr_below hbj hb4
        clear hb4 hbj
        obtain ⟨T, hT⟩ : ∃ T, T = R j := ⟨_, rfl⟩
        have HS : Hid (J j ++ T = J (j + 1)) := Lib.hid (by rw [hT]; exact OK.out.step j)
        have t1 : T.size ≤ d + 1 := by rw [hT]; exact OK.out.le j hlt
        have t2 : T.size = 0 → n ≤ 1 := by rw [hT]; exact OK.out.one j hlt
        have t3 : j + 1 < n → T.size = d + 1 := by rw [hT]; exact OK.out.full j
        have t4 : (J j).size + T.size ≤ 4000 := by
          have e := OK.out.size (j + 1)
          rw [← HS.out, ByteArray.size_append] at e
          omega
        rw [← hT]
        clear hT
        by_cases hz : T.size = 0
        · have hn := t2 hz
          clear t2 t3
          go_wp2_with fail
          all_goals
            go_roundw
            case rel =>
              refine ⟨j + 1, by omega, by go_num, ?_, hb5⟩
              rw [← HS.out]
              try simp [*]
            case measure => simp [intOf]; omega
        · have hn : ¬ T = ByteArray.empty := fun e => hz (by rw [e]; rfl)
          clear t2
          go_wp2_with fail
          all_goals
            go_roundw
            case rel =>
              refine ⟨j + 1, by omega, by go_num, ?_, hb5⟩
              rw [← HS.out]
              try simp [*]
            case measure => simp [intOf]; omega
      · obtain rfl : j = n := by omega
        rw [OK.out.all]
        go_wp2_with fail
        (with_reducible refine (K4.out _ (TabOK.later HT.out hbj)).mono ?_); rintro e w4 ⟨rfl, hb4⟩
        have hb5 := tr_below hbj hb4
        clear hb4 hbj
        go_wp2_with fail
        (with_reducible refine (K5.out _ (TabOK.later HT.out hb5)).mono ?_); rintro e w5 ⟨rfl, hb6⟩
        have hb7 := tr_below hb5 hb6
        clear hb6 hb5
        go_wp2_with fail
        (with_reducible refine (does_any _ (TabOK.later HT.out hb7)).mono ?_); rintro e w6 ⟨rfl, hb8⟩
        have hb9 := tr_below hb7 hb8
        clear hb8 hb7
        go_wp2_with fail
        go_ret
        exact ⟨rfl, hb9⟩
  · go_enter Tryd.func7, Tryd.ntmps7
    have hd : decide ((500 : Int) < (s.size : Int)) = true := by simp; omega
    go_wp2_with fail
    go_ret
    exact ⟨rfl, Below.refl _ _⟩
end Go.Proofs.YtnpdpfkoghhioaaDoor
