/- The walk of SumsRead: true for every number of 32 bits. -/
import Derived.Test.YtmldoinenfpofaaI
namespace Go.Proofs.Ytmldoinenfpofaa
open Go.RowKit

theorem hex_byte (x : Int) (k : Nat) (s : ByteArray) (hs : s = ⟨(hexL x).toArray⟩) (hk : k < s.size) : s[k] = dig (x / (16 ^ (7 - k) : Nat) % 16) := by
  subst hs
  show (hexL x).toArray[k] = _
  simp [hexL]
theorem dig_small (d : Int) (h0 : 0 ≤ d) (h1 : d < 10) : ((dig d).toNat : Int) = 48 + d := by
  unfold dig; rw [if_pos h1, UInt8.toNat_ofNat']; omega
theorem dig_great (d : Int) (h0 : 10 ≤ d) (h1 : d < 16) : ((dig d).toNat : Int) = 87 + d := by
  unfold dig; rw [if_neg (by omega), UInt8.toNat_ofNat']; omega
/-- How far a number is read behind k digits. -/
def rd (x : Int) (k : Nat) : Int := x / (16 ^ (8 - k) : Nat)
theorem rd_succ (x : Int) (k : Nat) (h : k < 8) : rd x (k + 1) = 16 * rd x k + x / (16 ^ (7 - k) : Nat) % 16 := by
  unfold rd
  have e : (16 ^ (8 - k) : Nat) = (16 ^ (7 - k)) * 16 := by rw [show 8 - k = (7 - k) + 1 from by omega, Nat.pow_succ]
  rw [show 8 - (k + 1) = 7 - k from by omega, e, Int.natCast_mul, ← Int.ediv_ediv_of_nonneg (by omega)]
  show _ = 16 * (x / _ / 16) + _
  omega

set_option maxHeartbeats 1000000 in
theorem read_law (x : Int) (w : World) (hx0 : 0 ≤ x) (hx1 : x < 4294967296) :
    Calls Try.prog 9 #[.int .u32 x] w fun e w' => e = .returned (.bool true) ∧ Below w.heap.size w w' := by
  go_enter Try.func9, Try.ntmps9
  go_wp2_with fail
  (with_reducible refine (hex_any x _ hx0 hx1).mono ?_); rintro e w1 ⟨rfl, hb⟩
  obtain ⟨s, hs⟩ : ∃ s : ByteArray, s = ⟨(hexL x).toArray⟩ := ⟨_, rfl⟩
  rw [← hs]
  have h8 : s.size = 8 := by rw [hs]; simp [hexL, ByteArray.size]
  have HS := Lib.hid hs
  have H8 := Lib.hid h8
  have h8a : s.size ≤ 8 := by omega
  have h8b : 8 ≤ s.size := by omega
  clear hs h8
  go_wp2_with fail
  go_loop [4, 5] (fun n i => ∃ k : Nat, k ≤ 8 ∧ i = .int .i64 k ∧ n = .int .u32 (rd x k)) (fun _ i => 8 - (intOf i).toNat)
  case atStart => exact ⟨0, by omega, rfl, by unfold rd; congr 1; omega⟩
  case round =>
    obtain ⟨k, hk, rfl, rfl⟩ := hrel
    have hr0 : 0 ≤ rd x k := Int.ediv_nonneg hx0 (Int.natCast_nonneg _)
    by_cases h : k < 8
    · have hb := hex_byte x k s HS.out (by omega)
      have hsucc := rd_succ x k h
      have hr1 : rd x (k + 1) ≤ x := Int.ediv_le_self _ hx0
      have hd0 : 0 ≤ x / (16 ^ (7 - k) : Nat) % 16 := by omega
      have hd1 : x / (16 ^ (7 - k) : Nat) % 16 < 16 := by omega
      generalize x / (16 ^ (7 - k) : Nat) % 16 = d at hb hsucc hd0 hd1
      have HSU := Lib.hid hsucc
      have hr2 : 16 * rd x k + d ≤ x := by omega
      by_cases hd : d < 10
      · have hv := dig_small d hd0 hd
        rw [← hb] at hv
        have HV := Lib.hid hv
        have hv1 : 48 ≤ ((s[k]'(by omega)).toNat : Int) := by omega
        have hv2 : ((s[k]'(by omega)).toNat : Int) ≤ 57 := by omega
        clear hb hsucc hv hr1
        go_wp2
        go_round
        case rel => exact ⟨k + 1, by omega, by go_num, by rw [HSU.out]; congr 1; have := HV.out; omega⟩
        case measure => simp [intOf]; omega
      · have hv := dig_great d (by omega) hd1
        rw [← hb] at hv
        have HV := Lib.hid hv
        have hv1 : 97 ≤ ((s[k]'(by omega)).toNat : Int) := by omega
        have hv2 : ((s[k]'(by omega)).toNat : Int) ≤ 102 := by omega
        clear hb hsucc hv hr1
        go_wp2
        go_round
        case rel => exact ⟨k + 1, by omega, by go_num, by rw [HSU.out]; congr 1; have := HV.out; omega⟩
        case measure => simp [intOf]; omega
    · obtain rfl : k = 8 := by omega
      have he : rd x 8 = x := by unfold rd; simp
      rw [he]
      clear he hr0
      have hsz : ((s.size : Int) == 8) = true := by rw [H8.out]; rfl
      go_wp2_with fail
      (with_reducible refine (told_any _).mono ?_); rintro e w7 ⟨rfl, hb2⟩; have hb := below_tr hb hb2; clear hb2
      go_wp2_with fail
      go_ret
      exact ⟨rfl, hb⟩
end Go.Proofs.Ytmldoinenfpofaa
