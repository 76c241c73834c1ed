/- What some bytes weigh: the walk of weigh; condition: at most a million bytes, in a block that lay ahead of the call. -/
import Derived.Test.YtmldoinenfpofaaA
import Derived.Test.YtmldoinenfpofaaM
namespace Go.Proofs.Ytmldoinenfpofaa
open Go.RowKit

/-- A block's cells from off on are the bytes l. -/
def bytesAt (w : World) (b off : Nat) (l : List UInt8) : Prop := ∀ j, j < l.length → w.cell? ⟨b, off + j, none⟩ = some (.int .u8 ((l[j]?.getD 0).toNat : Int))

theorem weigh_step (l : List UInt8) (k n : Nat) (h : k < l.length) (hn : n ≤ 1000000) (hk : k ≤ n) :
    #[Value.int .u64 (IntKind.u64.wrap (↑(f1 (l.take k)) + IntKind.u64.wrap ↑(l[k]?.getD 0).toNat)), .int .u64 (IntKind.u64.wrap (↑(w2 n (l.take k)) + IntKind.u64.wrap (IntKind.u64.wrap ↑(l[k]?.getD 0).toNat * (↑n - ↑k)))), .int .u64 n] =
    #[.int .u64 (f1 (l.take (k + 1))), .int .u64 (w2 n (l.take (k + 1))), .int .u64 n] := by
  have e : l[k]?.getD 0 = l[k] := by simp [h]
  have b1 := f1_le (l.take k)
  have b2 := w2_le n (l.take k)
  have hl : (l.take k).length = k := by simp; omega
  rw [hl] at b1 b2
  have b3 : 255 * k * n ≤ 255 * 1000000 * 1000000 := Nat.mul_le_mul (by omega) hn
  have b4 := l[k].toNat_lt
  have b5 : l[k].toNat * (n - k) ≤ 255 * 1000000 := Nat.mul_le_mul (by omega) (by omega)
  have b6 : ((l[k].toNat * (n - k) : Nat) : Int) = (l[k].toNat : Int) * ((n : Int) - k) := by rw [Int.natCast_mul]; congr 1; omega
  rw [e, f1_snoc l k h, w2_snoc n l k h]
  simp only [IntKind.wrap_u64]
  have c1 : (l[k].toNat : Int) % 18446744073709551616 = l[k].toNat := by omega
  rw [c1, ← b6]
  generalize l[k].toNat * (n - k) = z at *
  have c2 : ((f1 (l.take k) : Int) + l[k].toNat) % 18446744073709551616 = (f1 (l.take k) + l[k].toNat : Nat) := by omega
  have c3 : (z : Int) % 18446744073709551616 = z := by omega
  have c4 : ((w2 n (l.take k) : Int) + z) % 18446744073709551616 = (w2 n (l.take k) + z : Nat) := by omega
  rw [c2, c3, c4]

set_option maxHeartbeats 1000000 in
theorem weigh_any (b off cap : Nat) (l : List UInt8) (w : World) (hb : b < w.heap.size) (hc : bytesAt w b off l) (hl : l.length ≤ 1000000) :
    Calls Try.prog 24 #[.slice (some ⟨b, off, none⟩) l.length cap] w fun e w' =>
      e = .returned (.agg #[.int .u64 (f1 l), .int .u64 (f2 l), .int .u64 l.length]) ∧ Below w.heap.size w w' := by
  obtain ⟨n, hn⟩ : ∃ n, n = l.length := ⟨_, rfl⟩
  rw [← hn] at hl ⊢
  have Hn := Lib.hid hn
  have Hc := Lib.hid hc
  clear hn hc
  go_enter Try.func24, Try.ntmps24
  go_wp2
  go_loopw [12] (fun i wr => ∃ k : Nat, k ≤ n ∧ i = .int .i64 k ∧ wr = (w.alloc (.cells #[.int .u64 0, .int .u64 0, .int .u64 0] 42)).alloc (.cells #[.int .u64 (f1 (l.take k)), .int .u64 (w2 n (l.take k)), .int .u64 n] 42))
    (fun i _ => n - (intOf i).toNat)
  case atStart => exact ⟨0, Nat.zero_le _, rfl, rfl⟩
  case round =>
    obtain ⟨k, hk, rfl, rfl⟩ := hrel
    by_cases h : k < n
    · have hcell : ∀ o1 o2, ((w.alloc o1).alloc o2).cell? ⟨b, off + k, none⟩ = some (.int .u8 ((l[k]?.getD 0).toNat : Int)) := fun o1 o2 =>
        (Below.cell (B := w.heap.size) (by go_grown) hb).trans (Hc.out k (by rw [← Hn.out]; exact h))
      go_wp2
      go_roundw
      case rel => exact ⟨k + 1, by omega, by go_num, by rw [weigh_step l k n (by rw [← Hn.out]; exact h) hl hk]⟩
      case measure => simp [intOf]; omega
    · go_wp2
      go_returns
      have hkn : k = n := by omega
      subst hkn
      have ht : l.take k = l := List.take_of_length_le (by rw [← Hn.out]; exact Nat.le_refl _)
      refine ⟨?_, by go_grown⟩
      rw [ht]; unfold f2; rw [← Hn.out]
end Go.Proofs.Ytmldoinenfpofaa
