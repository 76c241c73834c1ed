/- How a byte is shown. -/
import Derived.Test.YtnpdpfkoghhioaaDoorWD
namespace Go.Proofs.YtnpdpfkoghhioaaDoor
open Go.RowKit

theorem repeat_one (x : UInt8) (k : Nat) : Lib.repeatL [x] k = List.replicate k x := by
  induction k with
  | zero => rfl
  | succ k ih => rw [Lib.repeatL, ih]; rfl
theorem enc_all : ∀ n : Fin 128, (Utf8.encode (n.val : Int)).data = #[UInt8.ofNat n.val] := by decide +kernel
theorem enc_ascii (n : Nat) (h : n < 128) : Utf8.encode (n : Int) = ⟨#[UInt8.ofNat n]⟩ := by
  exact ByteArray.ext (enc_all ⟨n, h⟩)
theorem xor_all : ∀ n : Fin 32, bits .xor .u8 (n.val : Int) 64 = (n.val : Int) + 64 := by decide +kernel
theorem xor64 (n : Nat) (h : n < 32) : bits .xor .u8 (n : Int) 64 = (n : Int) + 64 := xor_all ⟨n, h⟩

set_option maxRecDepth 100000 in
set_option maxHeartbeats 4000000 in
theorem shown_any (c : UInt8) (a : Nat) (w : World) (h : TabOK w) (ha : a ≤ 1000000) :
    Calls Tryd.prog 52 #[.int .u8 (c.toNat : Int), .int .i64 (a : Int)] w fun e w' => e = .returned (.string ⟨(shownL c a).toArray⟩) ∧ Below w.heap.size w w' := by
  have hc : c.toNat < 256 := c.toNat_lt
  obtain ⟨S, hS⟩ : ∃ S : ByteArray, S = ⟨(shownL c a).toArray⟩ := ⟨_, rfl⟩
  rw [← hS]
  obtain ⟨n, hn⟩ : ∃ n, n = c.toNat := ⟨_, rfl⟩
  have hcn : c = UInt8.ofNat n := by rw [hn]; simp
  unfold shownL at hS
  rw [← hn, hcn] at hS
  rw [← hn] at hc ⊢
  have HS := Lib.hid hS
  have HT := Lib.hid h
  clear h hS hn hcn
  go_enter Tryd.func52, Tryd.ntmps52
  by_cases h9 : n = 9
  · have H1 : Hid (S = ⟨(List.replicate (8 - a % 8) 32).toArray⟩) := Lib.hid (by rw [HS.out, if_pos h9])
    subst h9
    go_wp2_with fail
    obtain ⟨k, hk⟩ : ∃ k : Nat, (8 : Int) - (a : Int) % 8 = (k : Int) := ⟨8 - a % 8, by omega⟩
    have hk8 : k ≤ 8 := by omega
    have hka : k = 8 - a % 8 := by omega
    rw [hk]
    have HK := Lib.hid hka
    have HR := Lib.hid (Tryd.strings_Repeat ⟨#[32]⟩ k w (by omega) (by show 1 * k ≤ _; omega))
    clear hk hka
    (with_reducible refine HR.out.mono ?_); rintro e w' ⟨rfl, hb⟩
    go_wp2_with fail
    go_ret
    refine ⟨?_, hb⟩
    rw [H1.out, ← HK.out, ← repeat_one]
    rfl
  · have b9 : ((n : Int) == 9) = false := by simp; omega
    by_cases hb : 127 < n
    · go_wp2_with fail
      obtain ⟨T, hT⟩ : ∃ T : ByteArray, T = ⟨#[UInt8.ofNat (48 + n / 64), UInt8.ofNat (48 + n / 8 % 8), UInt8.ofNat (48 + n % 8)]⟩ := ⟨_, rfl⟩
      have HF := Lib.hid (format_any n w HT.out (by omega) hc)
      rw [← hT] at HF
      have hTs : T.size ≤ 3 := by rw [hT]; exact Nat.le_refl _
      have HT' := Lib.hid hT
      clear hT
      (with_reducible refine HF.out.mono ?_); rintro e w' ⟨rfl, hb2⟩
      go_wp2_with fail
      go_ret
      refine ⟨?_, hb2⟩
      rw [HS.out, if_neg h9, if_pos hb, HT'.out]
      rfl
    · by_cases h127 : n = 127
      · have H1 : Hid (S = ⟨#[94, 63]⟩) := Lib.hid (by rw [HS.out, if_neg h9, if_neg hb, if_pos h127])
        subst h127
        have e1 : bits .xor .u8 127 64 = 63 := by decide
        have e2 : Utf8.encode 63 = ⟨#[63]⟩ := enc_ascii 63 (by decide)
        go_wp2_with fail
        go_ret
        refine ⟨?_, Below.refl _ _⟩
        rw [H1.out]
        rfl
      · have b127 : ((n : Int) == 127) = false := by simp; omega
        by_cases h32 : n < 32
        · have hw : Utf8.encode (wrap32 (bits .xor .u8 (n : Int) 64)) = ⟨#[UInt8.ofNat (n + 64)]⟩ := by
            rw [xor64 n h32, ← enc_ascii (n + 64) (by omega)]
            exact congrArg Utf8.encode (by unfold wrap32; omega)
          have HW := Lib.hid hw
          clear hw
          go_wp2_with fail
          · exfalso
            have hx : 9223372036854775807 < 1 + (Utf8.encode (wrap32 (bits .xor .u8 (n : Int) 64))).size := by assumption
            rw [HW.out] at hx
            have h1 : (⟨#[UInt8.ofNat (n + 64)]⟩ : ByteArray).size = 1 := rfl
            omega
          · go_ret
            refine ⟨?_, Below.refl _ _⟩
            rw [HS.out, if_neg h9, if_neg hb, if_neg h127, if_pos h32, HW.out]
            rfl
        · go_wp2_with fail
          go_ret
          refine ⟨?_, Below.refl _ _⟩
          rw [HS.out, if_neg h9, if_neg hb, if_neg h127, if_neg h32, enc_ascii n (by omega)]
          rfl
end Go.Proofs.YtnpdpfkoghhioaaDoor
