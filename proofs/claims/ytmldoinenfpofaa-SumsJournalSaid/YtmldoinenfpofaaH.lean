/- The chapter's examples hold; no condition. -/
import Derived.Test.YtmldoinenfpofaaG
namespace Go.Proofs.Ytmldoinenfpofaa
open Go.RowKit

theorem told_any (w : World) : Calls Try.prog 10 #[] w fun e w' => e = .returned (.bool true) ∧ Below w.heap.size w w' := by
  have c0 := fun w => sum_any ⟨#[]⟩ w (by decide)
  have c1 := fun w => sum_any ⟨#[97]⟩ w (by decide)
  have c2 := fun w => sum_any ⟨#[97, 98]⟩ w (by decide)
  have c3 := fun w => sum_any ⟨#[97, 98, 99]⟩ w (by decide)
  have c4 := fun w => sum_any ⟨#[99]⟩ w (by decide)
  have c5 := fun w => hex_any 38404390 w (by decide) (by decide)
  have c6 := fun w => join_any 19136707 6488163 1 w (by decide) (by decide) (by decide) (by decide) (by decide) (by decide)
  rw [show sum (⟨#[]⟩ : ByteArray).data.toList = 0 from by decide] at c0
  rw [show sum (⟨#[97]⟩ : ByteArray).data.toList = 6357089 from by decide] at c1
  rw [show sum (⟨#[97, 98]⟩ : ByteArray).data.toList = 19136707 from by decide] at c2
  rw [show sum (⟨#[97, 98, 99]⟩ : ByteArray).data.toList = 38404390 from by decide] at c3
  rw [show sum (⟨#[99]⟩ : ByteArray).data.toList = 6488163 from by decide] at c4
  rw [show hexL 38404390 = [48, 50, 52, 97, 48, 49, 50, 54] from by decide] at c5
  rw [show join 19136707 6488163 1 = 38404390 from by decide] at c6
  have C0 := Lib.hid c0
  have C1 := Lib.hid c1
  have C2 := Lib.hid c2
  have C3 := Lib.hid c3
  have C4 := Lib.hid c4
  have C5 := Lib.hid c5
  have C6 := Lib.hid c6
  clear c0 c1 c2 c3 c4 c5 c6
  have tr : ∀ {a b : World}, Below w.heap.size w a → Below a.heap.size a b → Below w.heap.size w b := fun h1 h2 => h1.trans (h2.mono h1.size)
  go_enter Try.func10, Try.ntmps10
  go_wp2_with fail
  (with_reducible refine (C0.out _).mono ?_); rintro e w1 ⟨rfl, hb⟩
  go_wp2_with fail
  (with_reducible refine (C1.out _).mono ?_); rintro e w2 ⟨rfl, hb2⟩; have hb := tr hb hb2; clear hb2
  go_wp2_with fail
  (with_reducible refine (C2.out _).mono ?_); rintro e w3 ⟨rfl, hb2⟩; have hb := tr hb hb2; clear hb2
  go_wp2_with fail
  (with_reducible refine (C3.out _).mono ?_); rintro e w4 ⟨rfl, hb2⟩; have hb := tr hb hb2; clear hb2
  go_wp2_with fail
  (with_reducible refine (C5.out _).mono ?_); rintro e w5 ⟨rfl, hb2⟩; have hb := tr hb hb2; clear hb2
  go_wp2_with fail
  (with_reducible refine (C2.out _).mono ?_); rintro e w6 ⟨rfl, hb2⟩; have hb := tr hb hb2; clear hb2
  go_wp2_with fail
  (with_reducible refine (C4.out _).mono ?_); rintro e w7 ⟨rfl, hb2⟩; have hb := tr hb hb2; clear hb2
  go_wp2_with fail
  (with_reducible refine (C6.out _).mono ?_); rintro e w8 ⟨rfl, hb2⟩; have hb := tr hb hb2; clear hb2
  go_wp2_with fail
  (with_reducible refine (C3.out _).mono ?_); rintro e w9 ⟨rfl, hb2⟩; have hb := tr hb hb2; clear hb2
  go_wp2_with fail
  go_ret
  exact ⟨rfl, hb⟩
end Go.Proofs.Ytmldoinenfpofaa
