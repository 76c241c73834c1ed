/- Two texts, or two lists of what is done, among the arguments; lists of texts; Fails: what their reading says. -/
import Derived.Test.YtmoaecicibjmnaaKK
namespace Go.Proofs.Ytmoaecicibjmnaa
open Go.RowKit Go.ChangeShapes Go.WideShapes
open Go.WideMaps Go.WideElems Go.Deep

set_option maxRecDepth 100000 in
theorem ts_ht : Try.prog.underlying 39 = some (.array 2 9) := by kernel_rfl
set_option maxRecDepth 100000 in
theorem td_ht : Try.prog.underlying 63 = some (.array 2 23) := by kernel_rfl
set_option maxRecDepth 100000 in
theorem okWide_ts {W : World} {r : Reach} {b0 : Nat} {v : Value} (h : Value.okWide Try.prog W r b0 39 v) : ∃ xs : Array Value, v = .agg xs ∧ xs.size = 2 := by
  simp only [Value.okWide, ts_ht] at h
  obtain ⟨cs, h1, h2, _⟩ := h
  exact ⟨cs, h1, by rw [h2]; kernel_rfl⟩
set_option maxRecDepth 100000 in
theorem okWide_td {W : World} {r : Reach} {b0 : Nat} {v : Value} (h : Value.okWide Try.prog W r b0 63 v) : ∃ xs : Array Value, v = .agg xs ∧ xs.size = 2 := by
  simp only [Value.okWide, td_ht] at h
  obtain ⟨cs, h1, h2, _⟩ := h
  exact ⟨cs, h1, by rw [h2]; kernel_rfl⟩
set_option maxRecDepth 100000 in
/-- What is read of two texts. -/
theorem two_strings_of {H : Type} {enc : TypeId × Value → H} {W : World} {v : Value} {d : DataW H} {p : List MemPlace} {base : Nat}
    (hok : Value.okWide Try.prog W .any base 39 v) (h : DataW.Trod enc Try.prog W 0 (fun _ => true) true 39 v d p) :
    ∃ a b : ByteArray, v = .agg #[.string a, .string b] ∧ a.size ≤ 9223372036854775807 ∧ b.size ≤ 9223372036854775807 := by
  obtain ⟨cs, rfl, hsz⟩ := okWide_ts hok
  obtain ⟨l⟩ := cs
  match l, hsz with
  | [c0, c1], _ =>
    obtain ⟨fuel, hf⟩ := h
    obtain ⟨xs, m, _, _, _, hl, hel⟩ := DataW.trod_array ts_ht hf
    have c3 : Try.prog.cellsOf 9 = 1 := by kernel_rfl
    match xs, hl with
    | [x0, x1], _ =>
      have g0 := hel 0 (by decide)
      have g1 := hel 1 (by decide)
      rw [c3] at g0 g1
      obtain ⟨n0, e0, _, w0⟩ := DataW.trod_string Try.underlying9 g0
      obtain ⟨n1, e1, _, w1⟩ := DataW.trod_string Try.underlying9 g1
      have q0 : c0 = .string n0 := by injection e0
      have q1 : c1 = .string n1 := by injection e1
      subst q0 q1
      unfold maxLen at w0 w1
      exact ⟨n0, n1, rfl, by omega, by omega⟩
set_option maxRecDepth 100000 in
/-- What is read of two lists of what is done. -/
theorem two_dos_of {H : Type} {enc : TypeId × Value → H} {W : World} {v : Value} {d : DataW H} {p : List MemPlace} {base : Nat}
    (hok : Value.okWide Try.prog W .any base 63 v) (h : DataW.Trod enc Try.prog W 0 (fun _ => true) true 63 v d p) :
    ∃ (x y : Value) (X Y : List DoR), v = .agg #[x, y] ∧ DosAt (Old W) W x X ∧ DosAt (Old W) W y Y ∧ X.length ≤ 9223372036854775807 ∧ Y.length ≤ 9223372036854775807 ∧ (∀ d ∈ X, DoOK d) ∧ (∀ d ∈ Y, DoOK d) := by
  obtain ⟨cs, rfl, hsz⟩ := okWide_td hok
  obtain ⟨l⟩ := cs
  match l, hsz with
  | [c0, c1], _ =>
    obtain ⟨fuel, hf⟩ := h
    obtain ⟨xs, m, _, _, _, hl, hel⟩ := DataW.trod_array td_ht hf
    have c3 : Try.prog.cellsOf 23 = 1 := by kernel_rfl
    match xs, hl with
    | [x0, x1], _ =>
      have g0 := hel 0 (by decide)
      have g1 := hel 1 (by decide)
      rw [c3] at g0 g1
      obtain ⟨v0, L0, e0, h0, n0, z0⟩ := dos_raw g0
      obtain ⟨v1, L1, e1, h1, n1, z1⟩ := dos_raw g1
      have q0 : c0 = v0 := by injection e0
      have q1 : c1 = v1 := by injection e1
      subst q0 q1
      exact ⟨c0, c1, L0, L1, rfl, h0, h1, n0, n1, z0, z1⟩
end Go.Proofs.Ytmoaecicibjmnaa
