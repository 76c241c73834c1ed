/- The sums' small functions (fold, half, number, of, behind): what each returns; conditions: the ranges that each theorem names. -/
import Derived.Test.YtmldoinenfpofaaProg
import Derived.WalkKit
import Derived.WalkSpells
import Derived.WalkLawsBesides
import Derived.Handy
import Derived.Lib.Hide
import Derived.StillTailTactics
import Derived.Laws.BitsAllLaws
namespace Go.Proofs.Ytmldoinenfpofaa
open Go.RowKit

theorem ret_int {k : IntKind} {a b : Int} (h : a = b) : Ending.returned (.int k a) = .returned (.int k b) := by rw [h]
theorem and16 (n : Int) (h0 : 0 ≤ n) (h1 : n < 18446744073709551616) : bits .and .u64 n 65535 = n % 65536 := by
  obtain ⟨k, rfl⟩ := Int.eq_ofNat_of_zero_le h0
  have := u64_and_nat k 65535 (by omega) (by decide)
  rw [show ((65535 : Nat) : Int) = 65535 from rfl] at this
  rw [this, show (65535 : Nat) = 2 ^ 16 - 1 from rfl, Nat.and_two_pow_sub_one_eq_mod]; rfl
theorem and16' (n : Int) (h0 : 0 ≤ n) (h1 : n < 4294967296) : bits .and .u32 n 65535 = n % 65536 := by
  obtain ⟨k, rfl⟩ := Int.eq_ofNat_of_zero_le h0
  have := u32_and_nat k 65535 (by omega) (by decide)
  rw [show ((65535 : Nat) : Int) = 65535 from rfl] at this
  rw [this, show (65535 : Nat) = 2 ^ 16 - 1 from rfl, Nat.and_two_pow_sub_one_eq_mod]; rfl
theorem or16 (a b : Int) (h0 : 0 ≤ a) (h1 : a < 65536) (h2 : 0 ≤ b) (h3 : b < 65536) : bits .or .u32 (a * 65536) b = a * 65536 + b := by
  obtain ⟨k, rfl⟩ := Int.eq_ofNat_of_zero_le h0
  obtain ⟨j, rfl⟩ := Int.eq_ofNat_of_zero_le h2
  have := u32_or_nat (k * 65536) j (by omega) (by omega)
  rw [show (((k * 65536 : Nat)) : Int) = (k : Int) * 65536 from by omega] at this
  rw [this]
  have h := Nat.two_pow_add_eq_or_of_lt (i := 16) (b := j) (by omega) k
  rw [show k * 65536 = 2 ^ 16 * k from by omega, ← h]; omega

theorem fold_any (n : Int) (w : World) (h0 : 0 ≤ n) (h1 : n < 18446744073709551616) :
    Calls Try.prog 27 #[.int .u64 n] w fun e w' => e = .returned (.int .u64 (n % 65535)) ∧ w = w' := by
  go_enter Try.func27, Try.ntmps27
  go_wp2
  go_loop [0] (fun v => ∃ k : Int, v = .int .u64 k ∧ k % 65535 = n % 65535 ∧ 0 ≤ k ∧ k < 18446744073709551616) (fun v => (intOf v).toNat)
  case atStart => exact ⟨n, rfl, rfl, h0, h1⟩
  case round =>
    obtain ⟨k, rfl, hk, hlo, hlt⟩ := hrel
    have hb := Lib.hid (and16 k hlo hlt)
    by_cases h : k ≤ 65535
    · go_wp2
      go_ret
      exact ⟨ret_int (by omega), rfl⟩
    · go_wp2
      go_round
      case rel =>
        refine ⟨k / 65536 + k % 65536, ?_, by omega, by omega, by omega⟩
        rw [hb.out, IntKind.wrap_u64]; congr 1; omega
      case measure =>
        rw [hb.out, IntKind.wrap_u64]; simp only [intOf]
        have : (k / 65536 + k % 65536) % 18446744073709551616 = k / 65536 + k % 65536 := Int.emod_eq_of_lt (by omega) (by omega)
        omega

theorem half_any (n : Int) (w : World) (h0 : -9223372036854775808 ≤ n) (h1 : n ≤ 9223372036854775807) :
    Calls Try.prog 26 #[.int .i64 n] w fun e w' => e = .returned (.int .u32 (n % 65535)) ∧ w = w' := by
  have e1 : n.tmod 65535 = if n % 65535 = 0 ∨ 0 ≤ n then n % 65535 else n % 65535 - 65535 := by
    rw [Int.tmod_eq_emod]; split <;> split <;> omega
  have E := Lib.hid e1; clear e1
  go_enter Try.func26, Try.ntmps26
  go_wp2
  all_goals
    go_ret
    refine ⟨ret_int ?_, rfl⟩
    have e1 := E.out
    unfold wrap64 at *
    split at e1 <;> omega

theorem number_any (a b : Int) (w : World) (h0 : -9223372036854775808 ≤ a) (h1 : a ≤ 9223372036854775807) (h2 : -9223372036854775808 ≤ b) (h3 : b ≤ 9223372036854775807) :
    Calls Try.prog 20 #[.int .i64 a, .int .i64 b] w fun e w' => e = .returned (.int .u32 (65536 * (b % 65535) + a % 65535)) ∧ w = w' := by
  go_enter Try.func20, Try.ntmps20
  go_wp2_with (go_at_call 26; refine (half_any _ _ (by omega) (by omega)).mono ?_; rintro e w' ⟨rfl, rfl⟩)
  go_ret
  exact ⟨rfl, rfl⟩

theorem of_any (n m : Int) (w : World) (h0 : 0 ≤ n) (h1 : n < 4294967296) :
    Calls Try.prog 21 #[.int .u32 n, .int .u64 m] w fun e w' => e = .returned (.agg #[.int .u64 (n % 65536 % 65535), .int .u64 (n / 65536 % 65535), .int .u64 m]) ∧ Below w.heap.size w w' := by
  have hb := and16' n h0 h1
  go_enter Try.func21, Try.ntmps21
  go_wp2_with (go_at_call 27; refine (fold_any _ _ (by omega) (by omega)).mono ?_; rintro e w' ⟨rfl, rfl⟩)
  go_returns
  exact ⟨rfl, by go_grown⟩

/-- The bits of a number's two parts. -/
theorem numb_any (a b c : Int) (w : World) (h0 : 0 ≤ a) (h1 : a < 65536) (h2 : 0 ≤ b) (h3 : b < 65536) :
    Calls Try.prog 25 #[.agg #[.int .u64 a, .int .u64 b, .int .u64 c]] w fun e w' => e = .returned (.int .u32 (b * 65536 + a)) ∧ Below w.heap.size w w' := by
  have hb := or16 b a h2 h3 h0 h1
  go_enter Try.func25, Try.ntmps25
  go_wp2
  go_ret
  exact ⟨rfl, by go_grown⟩

theorem wp_tail {P : Program} {id : Nat} {Q : Exit → Act → World → Prop} {a : Act} {w : World} {l : List Oper} (n : Nat) (hm : P.follows .mixedOrders = true) (hB : Region.lexTailB .any l.toArray n = true)
    (h : wpStill P l.toArray w.drew (fun a' => wpList P l.toArray Q (l.drop n) a' w.drew) (l.take n) a) : (Code.region id l.toArray true).wp P Q a w :=
  wp_region_still_tail n hm hB h

theorem behind_any (a b c d e f : Int) (w : World) (ha0 : 0 ≤ a) (ha1 : a < 65536) (hb0 : 0 ≤ b) (hb1 : b < 65536) (hd0 : 0 ≤ d) (hd1 : d < 4294967296) (he0 : 0 ≤ e) (he1 : e < 4294967296) (hf0 : 0 ≤ f) (hf1 : f < 4294967296) :
    Calls Try.prog 23 #[.agg #[.int .u64 a, .int .u64 b, .int .u64 c], .agg #[.int .u64 d, .int .u64 e, .int .u64 f]] w fun x w' =>
      x = .returned (.agg #[.int .u64 ((a + d) % 65535), .int .u64 ((b + e + a % 65535 * f) % 65535), .int .u64 f]) ∧ Below w.heap.size w w' := by
  have hm0 : 0 ≤ a % 65535 * f := Int.mul_nonneg (by omega) hf0
  have hm1 : a % 65535 * f < 65536 * 4294967296 := Int.lt_of_le_of_lt (Int.mul_le_mul_of_nonneg_right (show a % 65535 ≤ 65534 by omega) hf0) (by omega)
  have u (x : Int) (h : 0 ≤ x) (h' : x < 18446744073709551616) : IntKind.u64.wrap x = x := by rw [IntKind.wrap_u64]; omega
  have u1 := u (a + d) (by omega) (by omega)
  have u2 := u (b + e) (by omega) (by omega)
  have u3 := u (a % 65535 * f) hm0 (by omega)
  have u4 := Int.tmod_eq_emod_of_nonneg (b := 65535) hm0
  have u5 := u (b + e + a % 65535 * f % 65535) (by omega) (by omega)
  clear u
  go_enter Try.func23, Try.ntmps23
  go_wp2
  refine wp_tail 23 (by kernel_rfl) (by kernel_rfl) ?_
  simp only [List.take_succ_cons, List.take_zero, List.drop_succ_cons, List.drop_zero]
  have f1 := fun w => (fold_any (a + d) w (by omega) (by omega)).mono (fun _ _ h => (⟨h.1, h.2.symm⟩ : _ ∧ _ = w))
  have f2 := fun w => (fold_any a w (by omega) (by omega)).mono (fun _ _ h => (⟨h.1, h.2.symm⟩ : _ ∧ _ = w))
  have f3 := fun w => (fold_any (b + e + a % 65535 * f % 65535) w (by omega) (by omega)).mono (fun _ _ h => (⟨h.1, h.2.symm⟩ : _ ∧ _ = w))
  iterate 5 still_step
  still_call (f1 _)
  iterate 7 still_step
  still_call (f2 _)
  iterate 5 still_step
  still_call (f3 _)
  iterate 3 still_step
  clear u1 u2 u3 u4 u5 f1 f2 f3
  refine wpStill_nil ?_
  go_wp2
  go_returns
  exact ⟨rfl, by go_grown⟩
end Go.Proofs.Ytmldoinenfpofaa
