/- Sum, Join, and the references' weigh, Sum, Join, More: what each returns; conditions: at most a million bytes, numbers of 32 bits, an int. -/
import Derived.Test.YtmldoinenfpofaaD
namespace Go.Proofs.Ytmldoinenfpofaa
open Go.RowKit

def join (x y n : Int) : Int := (hi x + hi y + lo x * (n % 65535)) % 65535 * 65536 + (lo x + lo y) % 65535
def sum (l : List UInt8) : Int := (f2 l : Int) % 65535 * 65536 + (f1 l : Int) % 65535
theorem more_zero (l : List UInt8) : more 0 l = sum l := by simp [more, sum, lo, hi]
theorem lo_sum (l : List UInt8) : lo (sum l) = f1 l % 65535 := by unfold lo sum; omega
theorem hi_sum (l : List UInt8) : hi (sum l) = f2 l % 65535 := by unfold hi sum; omega
theorem sum_bd (l : List UInt8) : 0 ≤ sum l ∧ sum l < 4294967296 := by unfold sum; omega
theorem lo_bd (x : Int) : 0 ≤ lo x ∧ lo x < 65535 := by unfold lo; omega
theorem hi_bd (x : Int) : 0 ≤ hi x ∧ hi x < 65535 := by unfold hi; omega
theorem more_bd (x : Int) (l : List UInt8) : 0 ≤ more x l ∧ more x l < 4294967296 := by unfold more; omega
theorem join_bd (x y n : Int) : 0 ≤ join x y n ∧ join x y n < 4294967296 := by unfold join; omega
theorem more_join (x : Int) (l : List UInt8) : more x l = join x (sum l) l.length := by
  unfold more join
  rw [lo_sum, hi_sum]
  congr 1
  · congr 1
    rw [Int.add_emod (hi x + (f2 l : Int) % 65535), Int.add_emod (hi x) ((f2 l : Int) % 65535), Int.emod_emod, ← Int.add_emod (hi x), Int.mul_emod (lo x) ((l.length : Int) % 65535), Int.emod_emod, ← Int.mul_emod, ← Int.add_emod]
  · omega

theorem sum_any (s : ByteArray) (w : World) (hs : s.size ≤ 1000000) :
    Calls Try.prog 11 #[.string s] w fun e w' => e = .returned (.int .u32 (sum s.data.toList)) ∧ Below w.heap.size w w' := by
  have h := fun w => more_any 0 s w (by omega) (by omega) hs
  rw [more_zero] at h
  have H := Lib.hid h
  clear h
  go_enter Try.func11, Try.ntmps11
  go_wp2_with (go_at_call 13; (with_reducible refine (H.out _).mono ?_); rintro e w' ⟨rfl, hb⟩)
  go_ret
  exact ⟨rfl, hb⟩

theorem join_any (x y n : Int) (w : World) (hx0 : 0 ≤ x) (hx1 : x < 4294967296) (hy0 : 0 ≤ y) (hy1 : y < 4294967296) (hn0 : -9223372036854775808 ≤ n) (hn1 : n ≤ 9223372036854775807) :
    Calls Try.prog 15 #[.int .u32 x, .int .u32 y, .int .i64 n] w fun e w' => e = .returned (.int .u32 (join x y n)) ∧ Below w.heap.size w w' := by
  have e1 : n.tmod 65535 = if n % 65535 = 0 ∨ 0 ≤ n then n % 65535 else n % 65535 - 65535 := by
    rw [Int.tmod_eq_emod]; split <;> split <;> omega
  have E := Lib.hid e1
  have hl := lo_bd x
  have hh := hi_bd x
  have hl' := lo_bd y
  have hh' := hi_bd y
  have fin : ∀ w1 w2 w3 w4, Below w.heap.size w w1 → Below w1.heap.size w1 w2 → Below w2.heap.size w2 w3 → Below w3.heap.size w3 w4 → Below w.heap.size w w4 := fun w1 w2 w3 w4 h1 h2 h3 h4 =>
    ((h1.trans (h2.mono h1.size)).trans (h3.mono (Nat.le_trans h1.size h2.size))).trans (h4.mono (Nat.le_trans h1.size (Nat.le_trans h2.size h3.size)))
  have el : lo x % 65535 = lo x := by omega
  have val : (hi x + hi y + lo x % 65535 * (n % 65535)) % 65535 * 65536 + (lo x + lo y) % 65535 = join x y n := by rw [el]; rfl
  have VAL := Lib.hid val
  have cb := fun w => behind_any (lo x) (hi x) 0 (lo y) (hi y) (n % 65535) w (by omega) (by omega) (by omega) (by omega) (by omega) (by omega) (by omega) (by omega) (by omega) (by omega)
  have cn := fun c w => numb_any ((lo x + lo y) % 65535) ((hi x + hi y + lo x % 65535 * (n % 65535)) % 65535) c w (by omega) (by omega) (by omega) (by omega)
  have c1 := fun w => of_any x 0 w hx0 hx1
  have c2 := fun w => of_any y (n % 65535) w hy0 hy1
  rw [show x % 65536 % 65535 = lo x from rfl, show x / 65536 % 65535 = hi x from rfl] at c1
  rw [show y % 65536 % 65535 = lo y from rfl, show y / 65536 % 65535 = hi y from rfl] at c2
  have CB := Lib.hid cb
  have CN := Lib.hid cn
  have C1 := Lib.hid c1
  have C2 := Lib.hid c2
  clear cb cn c1 c2 el val
  by_cases hneg : n.tmod 65535 < 0
  · have e2 : wrap64 (n.tmod 65535 + 65535) = n % 65535 := by
      unfold wrap64; split at e1 <;> omega
    clear e1
    go_enter Try.func15, Try.ntmps15
    go_wp2_with fail
    (with_reducible refine (C1.out _).mono ?_); rintro e w1 ⟨rfl, hb1⟩
    go_wp2_with fail
    (with_reducible refine (C2.out _).mono ?_); rintro e w2 ⟨rfl, hb2⟩
    go_wp2_with fail
    (with_reducible refine (CB.out _).mono ?_); rintro e w3 ⟨rfl, hb3⟩
    go_wp2_with fail
    (with_reducible refine (CN.out _ _).mono ?_); rintro e w4 ⟨rfl, hb4⟩
    go_wp2_with fail
    go_ret
    exact ⟨ret_int VAL.out, fin _ _ _ _ hb1 hb2 hb3 hb4⟩
  · have e2 : n.tmod 65535 = n % 65535 := by split at e1 <;> omega
    clear e1
    have hq := Int.emod_nonneg n (show (65535 : Int) ≠ 0 by decide)
    have hq2 := Int.emod_lt_of_pos n (show (0 : Int) < 65535 by decide)
    clear hneg
    go_enter Try.func15, Try.ntmps15
    go_wp2_with fail
    (with_reducible refine (C1.out _).mono ?_); rintro e w1 ⟨rfl, hb1⟩
    go_wp2_with fail
    (with_reducible refine (C2.out _).mono ?_); rintro e w2 ⟨rfl, hb2⟩
    go_wp2_with fail
    (with_reducible refine (CB.out _).mono ?_); rintro e w3 ⟨rfl, hb3⟩
    go_wp2_with fail
    (with_reducible refine (CN.out _ _).mono ?_); rintro e w4 ⟨rfl, hb4⟩
    go_wp2_with fail
    go_ret
    exact ⟨ret_int VAL.out, fin _ _ _ _ hb1 hb2 hb3 hb4⟩

/-! ### The references -/
theorem rweigh_step (s : ByteArray) (k : Nat) (h : k < s.size) (hs : s.size ≤ 1000000) :
    wrap64 (↑(f1 (s.data.toList.take k)) + wrap64 ↑s[k].toNat) = f1 (s.data.toList.take (k + 1)) ∧
    wrap64 (↑(w2 s.size (s.data.toList.take k)) + wrap64 ((↑s.size - ↑k) * wrap64 ↑s[k].toNat)) = w2 s.size (s.data.toList.take (k + 1)) := by
  have hl : k < s.data.toList.length := by simpa using h
  have b1 := f1_le (s.data.toList.take k)
  have b2 := w2_le s.size (s.data.toList.take k)
  have hlk : (s.data.toList.take k).length = k := by rw [List.length_take]; omega
  rw [hlk] at b1 b2
  have b3 : 255 * k * s.size ≤ 255 * 1000000 * 1000000 := Nat.mul_le_mul (by omega) hs
  have e : s[k] = s.data.toList[k] := by rw [Array.getElem_toList]; rfl
  rw [e, f1_snoc _ k hl, w2_snoc _ _ k hl]
  have b4 := s.data.toList[k].toNat_lt
  have b5 : s.data.toList[k].toNat * (s.size - k) ≤ 255 * 1000000 := Nat.mul_le_mul (by omega) (by omega)
  have c1 : wrap64 (s.data.toList[k].toNat : Int) = s.data.toList[k].toNat := IntWalk.wrap64_in _ ⟨by omega, by omega⟩
  rw [c1]
  have b6 : ((s.size : Int) - k) * (s.data.toList[k].toNat : Int) = ((s.data.toList[k].toNat * (s.size - k) : Nat) : Int) := by rw [Int.natCast_mul, Int.mul_comm]; congr 1; omega
  rw [b6]
  generalize s.data.toList[k].toNat * (s.size - k) = z at *
  generalize s.data.toList[k].toNat = y at *
  generalize f1 (s.data.toList.take k) = p at *
  generalize w2 s.size (s.data.toList.take k) = q at *
  rw [IntWalk.wrap64_in z ⟨by omega, by omega⟩, IntWalk.wrap64_in _ ⟨by omega, by omega⟩, IntWalk.wrap64_in _ ⟨by omega, by omega⟩]
  exact ⟨by simp, by simp⟩

set_option maxHeartbeats 400000 in
theorem rweigh_any (s : ByteArray) (w : World) (hs : s.size ≤ 1000000) :
    Calls Try.prog 19 #[.string s] w fun e w' => e = .returned (.tuple #[.int .i64 (f1 s.data.toList), .int .i64 (f2 s.data.toList)]) ∧ w = w' := by
  go_enter Try.func19, Try.ntmps19
  go_wp2
  go_loop [2, 3, 4] (fun a b i => ∃ k : Nat, k ≤ s.size ∧ i = .int .i64 k ∧ a = .int .i64 (f1 (s.data.toList.take k)) ∧ b = .int .i64 (w2 s.size (s.data.toList.take k))) (fun _ _ i => s.size - (intOf i).toNat)
  case atStart => exact ⟨0, Nat.zero_le _, rfl, rfl, rfl⟩
  case round =>
    obtain ⟨k, hk, rfl, rfl, rfl⟩ := hrel
    by_cases h : k < s.size
    · go_wp2
      go_round
      case rel =>
        obtain ⟨r1, r2⟩ := rweigh_step s k h hs
        exact ⟨k + 1, by omega, by go_num, by rw [r1], by rw [r2]⟩
      case measure => simp [intOf]; omega
    · go_wp2
      go_ret2
      obtain rfl : k = s.size := by omega
      have ht : s.data.toList.take s.size = s.data.toList := List.take_of_length_le (by rw [Array.length_toList]; exact Nat.le_refl _)
      refine ⟨?_, rfl⟩
      rw [ht]; unfold f2; rw [Array.length_toList]; rfl

theorem f_bd (s : ByteArray) (hs : s.size ≤ 1000000) : f1 s.data.toList ≤ 255 * 1000000 ∧ f2 s.data.toList ≤ 255 * 1000000 * 1000000 := by
  have hl : s.data.toList.length = s.size := by rw [Array.length_toList]; rfl
  have b1 := f1_le s.data.toList
  have b2 := w2_le s.data.toList.length s.data.toList
  rw [hl] at b1 b2
  exact ⟨by omega, Nat.le_trans (by unfold f2; rw [hl]; exact b2) (Nat.mul_le_mul (by omega) hs)⟩

theorem rsum_any (s : ByteArray) (w : World) (hs : s.size ≤ 1000000) :
    Calls Try.prog 12 #[.string s] w fun e w' => e = .returned (.int .u32 (sum s.data.toList)) ∧ w = w' := by
  obtain ⟨b1, b2⟩ := f_bd s hs
  go_enter Try.func12, Try.ntmps12
  go_wp2_with fail
  refine (rweigh_any s _ hs).mono ?_
  rintro e w' ⟨rfl, rfl⟩
  go_wp2_with fail
  refine (number_any _ _ _ (by omega) (by omega) (by omega) (by omega)).mono ?_
  rintro e w' ⟨rfl, rfl⟩
  go_wp2_with fail
  go_ret
  exact ⟨ret_int (by unfold sum; omega), rfl⟩

theorem rjoin_any (x y n : Int) (w : World) (hx0 : 0 ≤ x) (hx1 : x < 4294967296) (hy0 : 0 ≤ y) (hy1 : y < 4294967296) (hn0 : -9223372036854775808 ≤ n) (hn1 : n ≤ 9223372036854775807) :
    Calls Try.prog 16 #[.int .u32 x, .int .u32 y, .int .i64 n] w fun e w' => e = .returned (.int .u32 (join x y n)) ∧ w = w' := by
  have hl := lo_bd x
  have hq := Int.emod_nonneg n (show (65535 : Int) ≠ 0 by decide)
  have hq2 := Int.emod_lt_of_pos n (show (0 : Int) < 65535 by decide)
  have hm0 : 0 ≤ n % 65535 * lo x := Int.mul_nonneg hq hl.1
  have hm1 : n % 65535 * lo x ≤ 65535 * 65535 := Int.mul_le_mul (by omega) (by omega) hl.1 (by omega)
  have c1 := fun w => half_any (x % 65536) w (by omega) (by omega)
  rw [show x % 65536 % 65535 = lo x from rfl] at c1
  have c2 := fun w => half_any n w hn0 hn1
  have val : 65536 * ((x / 65536 + y / 65536 + n % 65535 * lo x) % 65535) + (lo x + y % 65536) % 65535 = join x y n := by
    unfold join hi
    rw [Int.mul_comm (n % 65535)]
    generalize lo x * (n % 65535) = z
    have e1 : (lo x + y % 65536) % 65535 = (lo x + lo y) % 65535 := by unfold lo; omega
    have e2 : (x / 65536 + y / 65536 + z) % 65535 = (x / 65536 % 65535 + y / 65536 % 65535 + z) % 65535 := by omega
    rw [e1, e2]; omega
  have VAL := Lib.hid val
  have C1 := Lib.hid c1
  have C2 := Lib.hid c2
  clear val c1 c2
  go_enter Try.func16, Try.ntmps16
  go_wp2_with fail
  (with_reducible refine (C1.out _).mono ?_); rintro e w' ⟨rfl, rfl⟩
  go_wp2_with fail
  (with_reducible refine (C2.out _).mono ?_); rintro e w' ⟨rfl, rfl⟩
  go_wp2_with fail
  refine (number_any _ _ _ (by omega) (by omega) (by omega) (by omega)).mono ?_
  rintro e w' ⟨rfl, rfl⟩
  go_wp2_with fail
  go_ret
  exact ⟨ret_int VAL.out, rfl⟩

theorem rmore_any (x : Int) (s : ByteArray) (w : World) (hx0 : 0 ≤ x) (hx1 : x < 4294967296) (hs : s.size ≤ 1000000) :
    Calls Try.prog 14 #[.int .u32 x, .string s] w fun e w' => e = .returned (.int .u32 (more x s.data.toList)) ∧ w = w' := by
  have hb := sum_bd s.data.toList
  have hl : s.data.toList.length = s.size := by rw [Array.length_toList]; rfl
  have v := more_join x s.data.toList
  rw [hl] at v
  have V := Lib.hid v
  clear v hl
  go_enter Try.func14, Try.ntmps14
  go_wp2_with fail
  refine (rsum_any s _ hs).mono ?_
  rintro e w' ⟨rfl, rfl⟩
  go_wp2_with fail
  refine (rjoin_any _ _ _ _ hx0 hx1 hb.1 hb.2 (by omega) (by omega)).mono ?_
  rintro e w' ⟨rfl, rfl⟩
  go_wp2_with fail
  go_ret
  exact ⟨ret_int V.out.symm, rfl⟩
end Go.Proofs.Ytmldoinenfpofaa
