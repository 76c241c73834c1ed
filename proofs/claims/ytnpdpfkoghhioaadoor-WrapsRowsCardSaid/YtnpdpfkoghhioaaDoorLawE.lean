/- Opening an array of two ints. -/
import Derived.Test.YtnpdpfkoghhioaaDoorLawD
namespace Go.Proofs.YtnpdpfkoghhioaaDoor
open Go.ChangeShapes Go.WideShapes Go.ChangeAt Go.RowKit

set_option maxRecDepth 100000 in
theorem pair_ht : Tryd.prog.underlying 51 = some (.array 2 3) := by kernel_rfl
set_option maxRecDepth 100000 in
theorem okWide_pair {W : World} {r : Reach} {b0 : Nat} {v : Value} (h : Value.okWide Tryd.prog W r b0 51 v) : ∃ xs : Array Value, v = .agg xs ∧ xs.size = 2 := by
  simp only [Value.okWide, pair_ht] at h
  obtain ⟨cs, h1, h2, _⟩ := h
  exact ⟨cs, h1, by rw [h2]; kernel_rfl⟩
set_option maxRecDepth 100000 in
/-- What is read of a pair. -/
theorem pair_of {H : Type} {enc : TypeId × Value → H} {W : World} {v : Value} {d : DataW H} {p : List MemPlace} {base : Nat}
    (hok : Value.okWide Tryd.prog W .any base 51 v) (h : DataW.Trod enc Tryd.prog W 0 (fun _ => true) true 51 v d p) :
    ∃ a b : Int, v = .agg #[.int .i64 a, .int .i64 b] ∧ (-9223372036854775808 ≤ a ∧ a ≤ 9223372036854775807) ∧ (-9223372036854775808 ≤ b ∧ b ≤ 9223372036854775807) := by
  obtain ⟨cs, rfl, hsz⟩ := okWide_pair hok
  obtain ⟨l⟩ := cs
  match l, hsz with
  | [c0, c1], _ =>
    obtain ⟨fuel, hf⟩ := h
    obtain ⟨xs, m, _, _, _, hl, hel⟩ := DataW.trod_array pair_ht hf
    have c3 : Tryd.prog.cellsOf 3 = 1 := by kernel_rfl
    match xs, hl with
    | [x0, x1], _ =>
      have g0 := hel 0 (by decide)
      have g1 := hel 1 (by decide)
      rw [c3] at g0 g1
      obtain ⟨n0, e0, _, w0⟩ := DataW.trod_int Tryd.underlying3 g0
      obtain ⟨n1, e1, _, w1⟩ := DataW.trod_int Tryd.underlying3 g1
      have q0 : c0 = .int .i64 n0 := by injection e0
      have q1 : c1 = .int .i64 n1 := by injection e1
      subst q0 q1
      have b0 := bounds_i64 w0
      have b1 := bounds_i64 w1
      exact ⟨n0, n1, rfl, by omega, by omega⟩
end Go.Proofs.YtnpdpfkoghhioaaDoor
