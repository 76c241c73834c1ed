/- Small functions of the grids, and bytes.Repeat of one byte: what each returns; conditions: the numbers' ranges. -/
import Derived.Test.YtnpdpfkoghhioaaDoorProg
import Derived.WalkLawsBesides
import Derived.Handy
import Derived.Laws.BitsAllLaws
import Derived.Laws.CopyOwn
import Derived.Lib.MakeNoZero
import Derived.Deep.RegionLaw
import Derived.Test.YtnpdpfkoghhioaaDoorGA
namespace Go.Proofs.YtnpdpfkoghhioaaDoor
open Go.RowKit

theorem sized_any (r c : Int) (w : World) : Calls Tryd.prog 48 #[.int .i64 r, .int .i64 c] w fun e w' => e = .returned (.bool (sizedB r c)) ∧ w = w' := by
  go_enter Tryd.func48, Tryd.ntmps48
  by_cases h1 : 2 ≤ r
  all_goals (by_cases h2 : r ≤ 60)
  all_goals (by_cases h3 : 8 ≤ c)
  all_goals (by_cases h4 : c ≤ 132)
  all_goals
    go_wp2
    go_ret
    exact ⟨by simp [sizedB, h1, h2, h3, h4], rfl⟩
theorem rsized_any (r c : Int) (w : World) : Calls Tryd.prog 56 #[.int .i64 r, .int .i64 c] w fun e w' => e = .returned (.bool (sizedB r c)) ∧ w = w' := by
  go_enter Tryd.func56, Tryd.ntmps56
  by_cases h1 : 2 ≤ r
  all_goals (by_cases h2 : r ≤ 60)
  all_goals (by_cases h3 : 8 ≤ c)
  all_goals (by_cases h4 : c ≤ 132)
  all_goals
    go_wp2
    go_ret
    exact ⟨by simp [sizedB, h1, h2, h3, h4], rfl⟩

theorem and32 (n : Int) (h0 : 0 ≤ n) (h1 : n < 4294967296) : bits .and .u64 n 4294967295 = n := by
  obtain ⟨k, rfl⟩ := Int.eq_ofNat_of_zero_le h0
  have := u64_and_nat k 4294967295 (by omega) (by decide)
  rw [show ((4294967295 : Nat) : Int) = 4294967295 from rfl] at this
  rw [this, show (4294967295 : Nat) = 2 ^ 32 - 1 from rfl, Nat.and_two_pow_sub_one_eq_mod, Nat.mod_eq_of_lt (by omega)]

/-- The product of 1 and a small number, in two words. -/
theorem mul64_one (n : Int) (w : World) (h0 : 0 ≤ n) (h1 : n < 4294967296) :
    Calls Tryd.prog 69 #[.int .u64 1, .int .u64 n] w fun e w' => e = .returned (.tuple #[.int .u64 0, .int .u64 n]) ∧ w = w' := by
  have a1 := and32 n h0 h1
  have a2 := and32 1 (by decide) (by decide)
  have a3 := and32 0 (by decide) (by decide)
  have q : n / 4294967296 = 0 := Int.ediv_eq_zero_of_lt h0 h1
  go_enter Tryd.func69, Tryd.ntmps69
  go_wp2
  go_ret2
  exact ⟨rfl, rfl⟩
theorem mul_one (n : Int) (w : World) (h0 : 0 ≤ n) (h1 : n < 4294967296) :
    Calls Tryd.prog 62 #[.int .u64 1, .int .u64 n] w fun e w' => e = .returned (.tuple #[.int .u64 0, .int .u64 n]) ∧ w = w' := by
  go_enter Tryd.func62, Tryd.ntmps62
  go_wp2_with fail
  (with_reducible refine (mul64_one n _ h0 h1).mono ?_); rintro e w' ⟨rfl, rfl⟩
  go_wp2_with fail
  go_ret2
  exact ⟨rfl, rfl⟩
end Go.Proofs.YtnpdpfkoghhioaaDoor
