/- The walks of SumsWeigh, SumsNumbers, SumsRound: true for every input. -/
import Derived.Test.YtmldoinenfpofaaH
namespace Go.Proofs.Ytmldoinenfpofaa
open Go.RowKit

theorem below_tr {w a b : World} (h1 : Below w.heap.size w a) (h2 : Below a.heap.size a b) : Below w.heap.size w b := h1.trans (h2.mono h1.size)

theorem weigh_law (s : ByteArray) (x : Int) (w : World) (hs : s.size ≤ 9223372036854775807) (hx0 : 0 ≤ x) (hx1 : x < 4294967296) :
    Calls Try.prog 3 #[.string s, .int .u32 x] w fun e w' => e = .returned (.bool true) ∧ Below w.heap.size w w' := by
  by_cases h : s.size ≤ 40000
  · have C0 := Lib.hid (fun w => sum_any s w (by omega))
    have C1 := Lib.hid (fun w => rsum_any s w (by omega))
    have C2 := Lib.hid (fun w => more_any x s w hx0 hx1 (by omega))
    have C3 := Lib.hid (fun w => rmore_any x s w hx0 hx1 (by omega))
    go_enter Try.func3, Try.ntmps3
    go_wp2_with fail
    (with_reducible refine (C0.out _).mono ?_); rintro e w1 ⟨rfl, hb⟩
    go_wp2_with fail
    (with_reducible refine (C1.out _).mono ?_); rintro e w2 ⟨rfl, rfl⟩
    go_wp2_with fail
    (with_reducible refine (C2.out _).mono ?_); rintro e w3 ⟨rfl, hb2⟩; have hb := below_tr hb hb2; clear hb2
    go_wp2_with fail
    (with_reducible refine (C3.out _).mono ?_); rintro e w4 ⟨rfl, rfl⟩
    go_wp2_with fail
    (with_reducible refine (told_any _).mono ?_); rintro e w5 ⟨rfl, hb2⟩; have hb := below_tr hb hb2; clear hb2
    go_wp2_with fail
    go_ret
    exact ⟨rfl, hb⟩
  · go_enter Try.func3, Try.ntmps3
    go_wp2_with fail
    (with_reducible refine (told_any _).mono ?_); rintro e w5 ⟨rfl, hb⟩
    go_wp2_with fail
    go_ret
    exact ⟨rfl, hb⟩

theorem numbers_law (x y n : Int) (w : World) (hx0 : 0 ≤ x) (hx1 : x < 4294967296) (hy0 : 0 ≤ y) (hy1 : y < 4294967296) (hn0 : -9223372036854775808 ≤ n) (hn1 : n ≤ 9223372036854775807) :
    Calls Try.prog 4 #[.int .u32 x, .int .u32 y, .int .i64 n] w fun e w' => e = .returned (.bool true) ∧ Below w.heap.size w w' := by
  have C0 := Lib.hid (fun w => join_any x y n w hx0 hx1 hy0 hy1 hn0 hn1)
  have C1 := Lib.hid (fun w => rjoin_any x y n w hx0 hx1 hy0 hy1 hn0 hn1)
  have C2 := Lib.hid (fun w => hex_any x w hx0 hx1)
  have C3 := Lib.hid (fun w => rhex_any x w hx0 hx1)
  have C4 := Lib.hid (fun w => hex_any y w hy0 hy1)
  have C5 := Lib.hid (fun w => rhex_any y w hy0 hy1)
  go_enter Try.func4, Try.ntmps4
  go_wp2_with fail
  (with_reducible refine (C0.out _).mono ?_); rintro e w1 ⟨rfl, hb⟩
  go_wp2_with fail
  (with_reducible refine (C1.out _).mono ?_); rintro e w2 ⟨rfl, rfl⟩
  go_wp2_with fail
  (with_reducible refine (C2.out _).mono ?_); rintro e w3 ⟨rfl, hb2⟩; have hb := below_tr hb hb2; clear hb2
  go_wp2_with fail
  (with_reducible refine (C3.out _).mono ?_); rintro e w4 ⟨rfl, rfl⟩
  go_wp2_with fail
  (with_reducible refine (C4.out _).mono ?_); rintro e w5 ⟨rfl, hb2⟩; have hb := below_tr hb hb2; clear hb2
  go_wp2_with fail
  (with_reducible refine (C5.out _).mono ?_); rintro e w6 ⟨rfl, rfl⟩
  go_wp2_with fail
  (with_reducible refine (told_any _).mono ?_); rintro e w7 ⟨rfl, hb2⟩; have hb := below_tr hb hb2; clear hb2
  go_wp2_with fail
  go_ret
  exact ⟨rfl, hb⟩

theorem join_round (x y n : Int) : join x y (n + 65535) = join x y n := by unfold join; rw [show (n + 65535) % 65535 = n % 65535 from by omega]
theorem join_round' (x y n : Int) : join x y (n - 65535) = join x y n := by unfold join; rw [show (n - 65535) % 65535 = n % 65535 from by omega]
theorem join_comm (x y : Int) : join x y 0 = join y x 0 := by unfold join; simp [Int.add_comm]
theorem join_again (x y n : Int) : join (join x y n) 0 0 = join x y n := by
  have h : ∀ a b : Int, 0 ≤ a → a < 65535 → 0 ≤ b → b < 65535 → join (a * 65536 + b) 0 0 = a * 65536 + b := by
    intro a b h0 h1 h2 h3; unfold join hi lo; simp; omega
  exact h _ _ (by omega) (by omega) (by omega) (by omega)
theorem join_parts (x y n : Int) : join x y n % 65536 < 65535 ∧ join x y n / 65536 < 65535 := by unfold join; omega

theorem round_law (x y n : Int) (w : World) (hx0 : 0 ≤ x) (hx1 : x < 4294967296) (hy0 : 0 ≤ y) (hy1 : y < 4294967296) (hn0 : -9223372036854775808 ≤ n) (hn1 : n ≤ 9223372036854775807) :
    Calls Try.prog 8 #[.int .u32 x, .int .u32 y, .int .i64 n] w fun e w' => e = .returned (.bool true) ∧ Below w.heap.size w w' := by
  by_cases h : n ≤ 4611686018427387904 ∧ -4611686018427387904 ≤ n
  · obtain ⟨h1, h2⟩ := h
    have c0 := fun w => join_any x y n w hx0 hx1 hy0 hy1 hn0 hn1
    have c1 := fun w => join_any x y (n + 65535) w hx0 hx1 hy0 hy1 (by omega) (by omega)
    have c2 := fun w => join_any x y (n - 65535) w hx0 hx1 hy0 hy1 (by omega) (by omega)
    have c3 := fun w => join_any x y 0 w hx0 hx1 hy0 hy1 (by omega) (by omega)
    have c4 := fun w => join_any y x 0 w hy0 hy1 hx0 hx1 (by omega) (by omega)
    have hz := join_bd x y n
    have c5 := fun w => join_any (join x y n) 0 0 w hz.1 hz.2 (by omega) (by omega) (by omega) (by omega)
    have hp := join_parts x y n
    rw [join_round] at c1
    rw [join_round'] at c2
    rw [join_comm y x] at c4
    rw [join_again] at c5
    generalize join x y n = z at *
    generalize join x y 0 = z0 at *
    obtain ⟨hp1, hp2⟩ := hp
    obtain ⟨hz1, hz2⟩ := hz
    have C0 := Lib.hid c0
    have C1 := Lib.hid c1
    have C2 := Lib.hid c2
    have C3 := Lib.hid c3
    have C4 := Lib.hid c4
    have C5 := Lib.hid c5
    clear c0 c1 c2 c3 c4 c5
    go_enter Try.func8, Try.ntmps8
    go_wp2_with fail
    (with_reducible refine (C0.out _).mono ?_); rintro e w1 ⟨rfl, hb⟩
    go_wp2_with fail
    (with_reducible refine (C1.out _).mono ?_); rintro e w3 ⟨rfl, hb2⟩; have hb := below_tr hb hb2; clear hb2
    go_wp2_with fail
    (with_reducible refine (C2.out _).mono ?_); rintro e w3 ⟨rfl, hb2⟩; have hb := below_tr hb hb2; clear hb2
    go_wp2_with fail
    (with_reducible refine (C3.out _).mono ?_); rintro e w3 ⟨rfl, hb2⟩; have hb := below_tr hb hb2; clear hb2
    go_wp2_with fail
    (with_reducible refine (C4.out _).mono ?_); rintro e w3 ⟨rfl, hb2⟩; have hb := below_tr hb hb2; clear hb2
    go_wp2_with fail
    (with_reducible refine (C5.out _).mono ?_); rintro e w3 ⟨rfl, hb2⟩; have hb := below_tr hb hb2; clear hb2
    go_wp2_with fail
    (with_reducible refine (told_any _).mono ?_); rintro e w7 ⟨rfl, hb2⟩; have hb := below_tr hb hb2; clear hb2
    go_wp2_with fail
    go_ret
    exact ⟨rfl, hb⟩
  · by_cases h1 : 4611686018427387904 < n
    · clear h
      go_enter Try.func8, Try.ntmps8
      go_wp2_with fail
      (with_reducible refine (told_any _).mono ?_); rintro e w5 ⟨rfl, hb⟩
      go_wp2_with fail
      go_ret
      exact ⟨rfl, hb⟩
    · have h2 : n < -4611686018427387904 := by omega
      clear h
      go_enter Try.func8, Try.ntmps8
      go_wp2_with fail
      (with_reducible refine (told_any _).mono ?_); rintro e w5 ⟨rfl, hb⟩
      go_wp2_with fail
      go_ret
      exact ⟨rfl, hb⟩
end Go.Proofs.Ytmldoinenfpofaa
