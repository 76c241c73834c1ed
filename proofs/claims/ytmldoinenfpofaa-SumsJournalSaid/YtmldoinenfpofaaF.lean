/- Hex: the eight digits of a number of 32 bits; no condition. -/
import Derived.Test.YtmldoinenfpofaaE
namespace Go.Proofs.Ytmldoinenfpofaa
open Go.RowKit

/-- The digit of a number below 16. -/
def dig (d : Int) : UInt8 := if d < 10 then UInt8.ofNat (48 + d.toNat) else UInt8.ofNat (87 + d.toNat)
def hexL (x : Int) : List UInt8 := (List.range 8).map fun i => dig (x / (16 ^ (7 - i) : Nat) % 16)
theorem and4 (n : Int) (h0 : 0 ≤ n) (h1 : n < 4294967296) : bits .and .u32 n 15 = n % 16 := by
  obtain ⟨k, rfl⟩ := Int.eq_ofNat_of_zero_le h0
  have := u32_and_nat k 15 (by omega) (by decide)
  rw [show ((15 : Nat) : Int) = 15 from rfl] at this
  rw [this, show (15 : Nat) = 2 ^ 4 - 1 from rfl, Nat.and_two_pow_sub_one_eq_mod]; rfl

theorem digits_nat : ∀ n : Fin 16, (⟨#[48, 49, 50, 51, 52, 53, 54, 55, 56, 57, 97, 98, 99, 100, 101, 102]⟩ : ByteArray)[n.val]'(n.isLt) = dig (n.val : Int) := by decide
theorem digits_get (d : Int) (h0 : 0 ≤ d) (h1 : d < 16) (hp : d.toNat < (⟨#[48, 49, 50, 51, 52, 53, 54, 55, 56, 57, 97, 98, 99, 100, 101, 102]⟩ : ByteArray).size) :
    (⟨#[48, 49, 50, 51, 52, 53, 54, 55, 56, 57, 97, 98, 99, 100, 101, 102]⟩ : ByteArray)[d.toNat]'hp = dig d := by
  have h := digits_nat ⟨d.toNat, by omega⟩
  rw [show ((⟨d.toNat, by omega⟩ : Fin 16).val : Int) = d from by simp; omega] at h
  exact h
theorem hexL_eq (x : Int) : hexL x = [dig (x / 268435456 % 16), dig (x / 16777216 % 16), dig (x / 1048576 % 16), dig (x / 65536 % 16), dig (x / 4096 % 16), dig (x / 256 % 16), dig (x / 16 % 16), dig (x % 16)] := by
  simp [hexL, List.range_succ]

set_option maxHeartbeats 1000000 in
theorem hex_any (x : Int) (w : World) (hx0 : 0 ≤ x) (hx1 : x < 4294967296) :
    Calls Try.prog 17 #[.int .u32 x] w fun e w' => e = .returned (.string ⟨(hexL x).toArray⟩) ∧ Below w.heap.size w w' := by
  have a0 := and4 (x / 268435456) (by omega) (by omega)
  have a1 := and4 (x / 16777216) (by omega) (by omega)
  have a2 := and4 (x / 1048576) (by omega) (by omega)
  have a3 := and4 (x / 65536) (by omega) (by omega)
  have a4 := and4 (x / 4096) (by omega) (by omega)
  have a5 := and4 (x / 256) (by omega) (by omega)
  have a6 := and4 (x / 16) (by omega) (by omega)
  have a7 := and4 x (by omega) (by omega)
  go_enter Try.func17, Try.ntmps17
  go_wp2
  go_rounds 9
  simp (disch := omega) only [digits_get]
  have kb := fun W hc => run_convert_bytes_back (P := Try.prog) W 33 9 5 ⟨w.heap.size, 0, none⟩ 8 [dig (x / 268435456 % 16), dig (x / 16777216 % 16), dig (x / 1048576 % 16), dig (x / 65536 % 16), dig (x / 4096 % 16), dig (x / 256 % 16), dig (x / 16 % 16), dig (x % 16)] Try.underlying33 Try.underlying5 Try.underlying9 hc
  simp only [List.length_cons, List.length_nil, Nat.zero_add, Nat.reduceAdd] at kb
  rw [kb]
  case hc =>
    intro j hj
    have hj8 : j = 0 ∨ j = 1 ∨ j = 2 ∨ j = 3 ∨ j = 4 ∨ j = 5 ∨ j = 6 ∨ j = 7 := by omega
    rcases hj8 with rfl | rfl | rfl | rfl | rfl | rfl | rfl | rfl <;> simp [Addr.add, go_sem]
  clear kb a0 a1 a2 a3 a4 a5 a6 a7
  go_wp2
  go_ret
  exact ⟨by rw [hexL_eq]; rfl, by go_grown⟩

end Go.Proofs.Ytmldoinenfpofaa
