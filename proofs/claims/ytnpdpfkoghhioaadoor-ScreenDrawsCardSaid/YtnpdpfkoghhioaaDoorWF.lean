/- How a byte is shown, by the chapter. -/
import Derived.Test.YtnpdpfkoghhioaaDoorWE
namespace Go.Proofs.YtnpdpfkoghhioaaDoor
open Go.RowKit

theorem conv_new1 (w : World) (x : Int) : (convert 44 9 (.slice (some ⟨w.heap.size, 0, none⟩) 1 1)).run Tryd.prog (w.alloc (.cells #[.int .u8 x] 5)) = .ok (.string ⟨#[UInt8.ofNat x.toNat]⟩) (w.alloc (.cells #[.int .u8 x] 5)) := by
  have hb : (w.alloc (.cells #[.int .u8 x] 5)).heap[w.heap.size]? = some (.cells [Value.int .u8 x].toArray 5 (0, 0)) := heap_alloc_new w _
  rw [run_convert_bytes_arg _ 44 5 Tryd.underlying44 Tryd.underlying5 w.heap.size 0 1 1 [x] rfl (fun i hi => ?_) 9 Tryd.underlying9]
  · rfl
  · match i, hi with
    | 0, _ => exact rowc hb rfl
theorem conv_new3 (w : World) (x y z : Int) : (convert 44 9 (.slice (some ⟨w.heap.size, 0, none⟩) 3 3)).run Tryd.prog (w.alloc (.cells #[.int .u8 x, .int .u8 y, .int .u8 z] 5)) = .ok (.string ⟨#[UInt8.ofNat x.toNat, UInt8.ofNat y.toNat, UInt8.ofNat z.toNat]⟩) (w.alloc (.cells #[.int .u8 x, .int .u8 y, .int .u8 z] 5)) := by
  have hb : (w.alloc (.cells #[.int .u8 x, .int .u8 y, .int .u8 z] 5)).heap[w.heap.size]? = some (.cells [Value.int .u8 x, .int .u8 y, .int .u8 z].toArray 5 (0, 0)) := heap_alloc_new w _
  rw [run_convert_bytes_arg _ 44 5 Tryd.underlying44 Tryd.underlying5 w.heap.size 0 3 3 [x, y, z] rfl (fun i hi => ?_) 9 Tryd.underlying9]
  · rfl
  · match i, hi with
    | 0, _ => exact rowc hb rfl
    | 1, _ => exact rowc hb rfl
    | 2, _ => exact rowc hb rfl

set_option maxRecDepth 100000 in
set_option maxHeartbeats 4000000 in
theorem of_any (c : UInt8) (a : Nat) (w : World) (ha : a ≤ 1000000) :
    Calls Tryd.prog 54 #[.int .u8 (c.toNat : Int), .int .i64 (a : Int)] w fun e w' => e = .returned (.string ⟨(shownL c a).toArray⟩) ∧ Below w.heap.size w w' := by
  have hc : c.toNat < 256 := c.toNat_lt
  obtain ⟨S, hS⟩ : ∃ S : ByteArray, S = ⟨(shownL c a).toArray⟩ := ⟨_, rfl⟩
  rw [← hS]
  obtain ⟨n, hn⟩ : ∃ n, n = c.toNat := ⟨_, rfl⟩
  have hcn : c = UInt8.ofNat n := by rw [hn]; simp
  unfold shownL at hS
  rw [← hn, hcn] at hS
  rw [← hn] at hc ⊢
  have HS := Lib.hid hS
  clear hS hn hcn
  go_enter Tryd.func54, Tryd.ntmps54
  by_cases h9 : n = 9
  · have H1 : Hid (S = ⟨(List.replicate (8 - a % 8) 32).toArray⟩) := Lib.hid (by rw [HS.out, if_pos h9])
    subst h9
    go_wp2_with fail
    go_loop [5] (fun s => ∃ k : Nat, ∃ T : ByteArray, 1 ≤ k ∧ k ≤ 8 - a % 8 ∧ s = .string T ∧ Hid (T = ⟨(List.replicate k 32).toArray⟩)) (fun s => match s with | .string T => 8 - T.size | _ => 0)
    case atStart => exact ⟨1, ⟨#[32]⟩, by omega, by omega, rfl, Lib.hid rfl⟩
    case round =>
      obtain ⟨k, T, hk1, hk2, rfl, hT⟩ := hrel
      have hsz : T.size = k := by rw [hT.out]; simp [ByteArray.size]
      by_cases hlt : k < 8 - a % 8
      · have hne : ((((a : Int) + (k : Int)) % 8) == 0) = false := by simp; omega
        go_wp2_with fail
        refine ⟨⟨k + 1, T ++ ⟨#[32]⟩, by omega, by omega, rfl, Lib.hid ?_⟩, ?_⟩
        · rw [hT.out, List.replicate_succ']
          refine ByteArray.ext ?_
          apply Array.toList_inj.1
          simp
        · have h2 : (T ++ (⟨#[32]⟩ : ByteArray)).size = k + 1 := by rw [ByteArray.size_append, hsz]; rfl
          show 8 - (T ++ (⟨#[32]⟩ : ByteArray)).size < 8 - T.size
          rw [h2, hsz]; omega
      · obtain rfl : k = 8 - a % 8 := by omega
        have he : ((((a : Int) + ((8 - a % 8 : Nat) : Int)) % 8) == 0) = true := by simp; omega
        have HT := Lib.hid (hT.out.trans H1.out.symm)
        obtain ⟨k, hk⟩ : ∃ k, k = 8 - a % 8 := ⟨_, rfl⟩
        rw [← hk] at he hsz
        have hk8 : k ≤ 8 := by omega
        clear hT hlt hk1 hk2 hk
        go_wp2_with fail
        go_ret
        exact ⟨by rw [← HT.out]; rfl, Below.refl _ _⟩
  · have b9 : ((n : Int) == 9) = false := by simp; omega
    by_cases h32 : n < 32
    · obtain ⟨T, hT⟩ : ∃ T : ByteArray, T = ⟨#[UInt8.ofNat (n + 64)]⟩ := ⟨_, rfl⟩
      have hcv : ∀ w : World, (convert 44 9 (.slice (some ⟨w.heap.size, 0, none⟩) 1 1)).run Tryd.prog (w.alloc (.cells #[.int .u8 ((n : Int) + 64)] 5)) = .ok (.string T) (w.alloc (.cells #[.int .u8 ((n : Int) + 64)] 5)) := by
        intro w; rw [hT, conv_new1 w ((n : Int) + 64), show ((n : Int) + 64).toNat = n + 64 by omega]
      have hTs : T.size ≤ 3 := by rw [hT]; exact (by decide : 1 ≤ 3)
      have HT := Lib.hid hT
      clear hT
      go_wp2_with fail
      go_ret
      refine ⟨?_, by go_grown⟩
      rw [HS.out, if_neg h9, if_neg (by omega), if_neg (by omega), if_pos h32, HT.out]
      rfl
    · by_cases h127 : n = 127
      · have H1 : Hid (S = ⟨#[94, 63]⟩) := Lib.hid (by rw [HS.out, if_neg h9, if_neg (by omega), if_pos h127])
        subst h127
        go_wp2_with fail
        go_ret
        refine ⟨?_, Below.refl _ _⟩
        rw [H1.out]
        rfl
      · have b127 : ((n : Int) == 127) = false := by simp; omega
        by_cases hb : 127 < n
        · obtain ⟨T, hT⟩ : ∃ T : ByteArray, T = ⟨#[UInt8.ofNat (48 + n / 64), UInt8.ofNat (48 + n / 8 % 8), UInt8.ofNat (48 + n % 8)]⟩ := ⟨_, rfl⟩
          have hcv : ∀ w : World, (convert 44 9 (.slice (some ⟨w.heap.size, 0, none⟩) 3 3)).run Tryd.prog (w.alloc (.cells #[.int .u8 (48 + (n : Int) / 64), .int .u8 (48 + (n : Int) / 8 % 8), .int .u8 (48 + (n : Int) % 8)] 5)) = .ok (.string T) (w.alloc (.cells #[.int .u8 (48 + (n : Int) / 64), .int .u8 (48 + (n : Int) / 8 % 8), .int .u8 (48 + (n : Int) % 8)] 5)) := by
            intro w; rw [hT, conv_new3 w _ _ _, show (48 + (n : Int) / 64).toNat = 48 + n / 64 by omega, show (48 + (n : Int) / 8 % 8).toNat = 48 + n / 8 % 8 by omega, show (48 + (n : Int) % 8).toNat = 48 + n % 8 by omega]
          have hTs : T.size ≤ 3 := by rw [hT]; exact Nat.le_refl _
          have HT := Lib.hid hT
          clear hT
          go_wp2_with fail
          go_ret
          refine ⟨?_, by go_grown⟩
          rw [HS.out, if_neg h9, if_pos hb, HT.out]
          rfl
        · obtain ⟨T, hT⟩ : ∃ T : ByteArray, T = ⟨#[UInt8.ofNat n]⟩ := ⟨_, rfl⟩
          have hcv : ∀ w : World, (convert 44 9 (.slice (some ⟨w.heap.size, 0, none⟩) 1 1)).run Tryd.prog (w.alloc (.cells #[.int .u8 (n : Int)] 5)) = .ok (.string T) (w.alloc (.cells #[.int .u8 (n : Int)] 5)) := by
            intro w; rw [hT, conv_new1 w (n : Int), Int.toNat_natCast]
          have HT := Lib.hid hT
          clear hT
          go_wp2_with fail
          go_ret
          refine ⟨?_, by go_grown⟩
          rw [HS.out, if_neg h9, if_neg hb, if_neg h127, if_neg h32, HT.out]
          rfl
end Go.Proofs.YtnpdpfkoghhioaaDoor
