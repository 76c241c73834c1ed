/- What is done to a file system, a list of it, and numbers, among the arguments: what their reading says of memory. -/
import Derived.Test.YtmoaecicibjmnaaFU
import Derived.Test.YtmoaecicibjmnaaRows
import Derived.ProofKit
import Derived.OpenShut
import Derived.Deep.Slices
import Derived.Deep.Fields
namespace Go.Proofs.Ytmoaecicibjmnaa
open Go.RowKit Go.ChangeShapes Go.WideShapes
open Go.WideMaps Go.WideElems Go.Deep

set_option maxRecDepth 100000 in
theorem addr_zero (a : Addr) : a.add 0 = a := by simp [Addr.add]
/-- The blocks that are there. -/
abbrev Old (W : World) : Nat → Prop := fun k => k < W.heap.size
set_option maxRecDepth 100000 in
theorem ints_raw {H : Type} {enc : TypeId × Value → H} {W : World} {cs : List Value} {x : DataW H × List MemPlace} {fuel base : Nat} {spare : Nat → Bool} {held : Bool}
    (hf : DataW.trod enc Try.prog W base spare held fuel 33 cs = some x) :
    ∃ kv l, cs = [kv] ∧ IntsIn (Old W) W kv l ∧ l.length ≤ 9223372036854775807 ∧ ∀ z ∈ l, -9223372036854775808 ≤ z ∧ z ≤ 9223372036854775807 := by
  rcases open_ints Try.underlying33 Try.underlying3 (by kernel_rfl) hf with ⟨rfl, _⟩ | ⟨a, len, cap, zs, rfl, _, hl, hm, hz, _, hc, hw⟩
  · exact ⟨_, [], rfl, ⟨none, 0, rfl, fun h => absurd rfl h⟩, by simp, by simp⟩
  · unfold maxLen at hm
    have hle : len ≤ zs.length := by rw [hz]; split <;> omega
    have hlen : (zs.take len).length = len := by rw [List.length_take]; omega
    refine ⟨_, zs.take len, rfl, ⟨some a, cap, by rw [hlen], fun hne => ?_⟩, by rw [hlen]; omega, fun z hz' => ?_⟩
    · have hpos : 0 < len := by
        rcases Nat.eq_zero_or_pos len with h0 | h0
        · rw [h0] at hne; simp at hne
        · exact h0
      have h0 := hc 0 (by omega)
      rw [addr_zero] at h0
      obtain ⟨e1, e2⟩ := plain_of_cell h0
      refine ⟨a.block, a.off, by rw [← e1], e2, e2, fun j hj => ?_⟩
      rw [hlen] at hj
      have h1 := hc j (by omega)
      rw [e1, add_plain] at h1
      rw [h1, List.getElem?_take, if_pos hj]
      rfl
    · have := bounds_i64 (hw z (List.mem_of_mem_take hz'))
      omega
set_option maxRecDepth 100000 in
theorem ints_of {H : Type} {enc : TypeId × Value → H} {W : World} {v : Value} {d : DataW H} {p : List MemPlace} {base : Nat}
    (hok : Value.okWide Try.prog W .any base 33 v) (h : DataW.Trod enc Try.prog W 0 (fun _ => true) true 33 v d p) :
    ∃ l, IntsIn (Old W) W v l ∧ l.length ≤ 9223372036854775807 ∧ ∀ z ∈ l, -9223372036854775808 ≤ z ∧ z ≤ 9223372036854775807 := by
  obtain ⟨a0, len, cap, rfl⟩ := okWide_slice Try.underlying33 hok
  obtain ⟨fuel, hf⟩ := h
  obtain ⟨kv, l, hcs, h1, h2, h3⟩ := ints_raw hf
  injection hcs with hcs _
  exact ⟨l, by rw [hcs]; exact h1, h2, h3⟩
set_option maxRecDepth 100000 in
theorem do_raw {H : Type} {enc : TypeId × Value → H} {W : World} {c0 c1 c2 c3 c4 c5 : Value} {x : DataW H × List MemPlace} {fuel base : Nat} {spare : Nat → Bool} {held : Bool}
    (hf : DataW.trod enc Try.prog W base spare held fuel 35 [c0, c1, c2, c3, c4, c5] = some x) :
    ∃ d : DoR, DoOK d ∧ c0 = .int .u8 (d.what : Int) ∧ c1 = .string d.A ∧ c2 = .string d.B ∧ c3 = .string d.S ∧ c4 = .int .i64 d.N ∧ IntsIn (Old W) W c5 d.K := by
  obtain ⟨xs, n, _, hx, _, hlen, hg⟩ := DataW.trod_struct Try.underlying35 hf
  match xs, hlen with
  | [y0, y1, y2, y3, y4, y5], _ =>
    have g0 := hg 0 _ rfl
    have g1 := hg 1 _ rfl
    have g2 := hg 2 _ rfl
    have g3 := hg 3 _ rfl
    have g4 := hg 4 _ rfl
    have g5 := hg 5 _ rfl
    obtain ⟨n0, e0, _, w0⟩ := DataW.trod_int Try.underlying5 g0
    obtain ⟨s1, e1, _, w1⟩ := DataW.trod_string Try.underlying9 g1
    obtain ⟨s2, e2, _, w2⟩ := DataW.trod_string Try.underlying9 g2
    obtain ⟨s3, e3, _, w3⟩ := DataW.trod_string Try.underlying9 g3
    obtain ⟨n4, e4, _, w4⟩ := DataW.trod_int Try.underlying3 g4
    obtain ⟨kv, l, e5, h1, h2, h3⟩ := ints_raw g5
    injection e0 with e0 _
    injection e1 with e1 _
    injection e2 with e2 _
    injection e3 with e3 _
    injection e4 with e4 _
    injection e5 with e5 _
    subst e0 e1 e2 e3 e4 e5
    unfold maxLen at w1 w2 w3
    have b0 := bounds_u8 w0
    have b4 := bounds_i64 w4
    have hn0 : ((n0.toNat : Nat) : Int) = n0 := by omega
    exact ⟨⟨n0.toNat, s1, s2, s3, n4, l⟩, ⟨by show n0.toNat < 256; omega, by show s1.size ≤ _; omega, by show s2.size ≤ _; omega, by show s3.size ≤ _; omega, by show _ ≤ n4; omega, by show n4 ≤ _; omega, h2, h3⟩, by show Value.int .u8 n0 = .int .u8 ((n0.toNat : Nat) : Int); rw [hn0], rfl, rfl, rfl, rfl, h1⟩
set_option maxRecDepth 100000 in
theorem do_of {H : Type} {enc : TypeId × Value → H} {W : World} {v : Value} {d : DataW H} {p : List MemPlace} {base : Nat}
    (hok : Value.okWide Try.prog W .any base 35 v) (h : DataW.Trod enc Try.prog W 0 (fun _ => true) true 35 v d p) :
    ∃ x : DoR, DoAt (Old W) W v x ∧ DoOK x := by
  obtain ⟨cs, rfl, hsz⟩ := okWide_struct Try.underlying35 hok
  obtain ⟨l⟩ := cs
  match l, hsz.trans (show Try.prog.cellsOf 35 = 6 by kernel_rfl) with
  | [c0, c1, c2, c3, c4, c5], _ =>
    obtain ⟨fuel, hf⟩ := h
    obtain ⟨x, hx, rfl, rfl, rfl, rfl, rfl, h5⟩ := do_raw hf
    exact ⟨x, ⟨_, rfl, h5⟩, hx⟩
set_option maxRecDepth 100000 in
theorem dos_raw {H : Type} {enc : TypeId × Value → H} {W : World} {cs : List Value} {x : DataW H × List MemPlace} {fuel base : Nat} {spare : Nat → Bool} {held : Bool}
    (hf : DataW.trod enc Try.prog W base spare held fuel 23 cs = some x) :
    ∃ v L, cs = [v] ∧ DosAt (Old W) W v L ∧ L.length ≤ 9223372036854775807 ∧ ∀ d ∈ L, DoOK d := by
  rcases open_slice Try.underlying23 hf with ⟨rfl, _⟩ | ⟨a, len, cap, m, n, D, Pl, rfl, _, hl, hm, hmm, _, hi⟩
  · exact ⟨_, [], rfl, ⟨none, 0, rfl, fun h => absurd rfl h⟩, by simp, by simp⟩
  · unfold maxLen at hm
    have hlm : len ≤ m := by rw [hmm]; split <;> omega
    have hC : Try.prog.cellsOf 35 = 6 := by kernel_rfl
    have each : ∀ j, j < len → ∃ d : DoR, DoOK d ∧ ∃ kv, IntsIn (Old W) W kv d.K ∧ W.cell? (a.add (j * 6)) = some (.int .u8 (d.what : Int)) ∧ W.cell? ((a.add (j * 6)).add 1) = some (.string d.A) ∧ W.cell? ((a.add (j * 6)).add 2) = some (.string d.B) ∧ W.cell? ((a.add (j * 6)).add 3) = some (.string d.S) ∧ W.cell? ((a.add (j * 6)).add 4) = some (.int .i64 d.N) ∧ W.cell? ((a.add (j * 6)).add 5) = some kv := by
      intro j hj
      obtain ⟨cs', hc, ht⟩ := hi j (by omega)
      rw [hC] at hc
      obtain ⟨_, hcl, hat⟩ := World.cells?_some hc
      match cs', hcl with
      | [c0, c1, c2, c3, c4, c5], _ =>
        obtain ⟨d, hd, rfl, rfl, rfl, rfl, rfl, h5⟩ := do_raw ht
        have q0 := hat 0 (by simp)
        have q1 := hat 1 (by simp)
        have q2 := hat 2 (by simp)
        have q3 := hat 3 (by simp)
        have q4 := hat 4 (by simp)
        have q5 := hat 5 (by simp)
        rw [addr_zero] at q0
        exact ⟨d, hd, _, h5, q0, q1, q2, q3, q4, q5⟩
    obtain ⟨F, hF⟩ : ∃ F : Nat → DoR, ∀ j, j < len → DoOK (F j) ∧ ∃ kv, IntsIn (Old W) W kv (F j).K ∧ W.cell? (a.add (j * 6)) = some (.int .u8 ((F j).what : Int)) ∧ W.cell? ((a.add (j * 6)).add 1) = some (.string (F j).A) ∧ W.cell? ((a.add (j * 6)).add 2) = some (.string (F j).B) ∧ W.cell? ((a.add (j * 6)).add 3) = some (.string (F j).S) ∧ W.cell? ((a.add (j * 6)).add 4) = some (.int .i64 (F j).N) ∧ W.cell? ((a.add (j * 6)).add 5) = some kv :=
      ⟨fun j => if h : j < len then Classical.choose (each j h) else ⟨0, ByteArray.empty, ByteArray.empty, ByteArray.empty, 0, []⟩, fun j hj => by
        have := Classical.choose_spec (each j hj)
        simp only [dif_pos hj]; exact this⟩
    refine ⟨_, (List.range len).map F, rfl, ⟨some a, cap, by simp, fun hne => ?_⟩, by simp; omega, fun x hx => ?_⟩
    · have hpos : 0 < len := by
        rcases Nat.eq_zero_or_pos len with h0 | h0
        · rw [h0] at hne; exact absurd rfl hne
        · exact h0
      obtain ⟨_, _, _, h0, _⟩ := hF 0 hpos
      rw [Nat.zero_mul, addr_zero] at h0
      obtain ⟨e1, e2⟩ := plain_of_cell h0
      refine ⟨a.block, a.off, by rw [← e1], e2, e2, fun j d hj => ?_⟩
      rw [List.getElem?_map] at hj
      obtain ⟨j', hj', rfl⟩ := Option.map_eq_some_iff.1 hj
      obtain ⟨hjl, rfl⟩ := List.getElem?_eq_some_iff.1 hj'
      rw [List.length_range] at hjl
      rw [List.getElem_range]
      obtain ⟨_, kv, hk, q0, q1, q2, q3, q4, q5⟩ := hF j hjl
      rw [e1, add_plain] at q0
      rw [e1, add_plain, add_plain] at q1 q2 q3 q4 q5
      exact ⟨kv, hk, q0, q1, q2, q3, q4, q5⟩
    · obtain ⟨j, hj, rfl⟩ := List.mem_map.1 hx
      have hj := List.mem_range.1 hj
      exact (hF j hj).1
set_option maxRecDepth 100000 in
theorem dos_of {H : Type} {enc : TypeId × Value → H} {W : World} {v : Value} {d : DataW H} {p : List MemPlace} {base : Nat}
    (hok : Value.okWide Try.prog W .any base 23 v) (h : DataW.Trod enc Try.prog W 0 (fun _ => true) true 23 v d p) :
    ∃ L, DosAt (Old W) W v L ∧ L.length ≤ 9223372036854775807 ∧ ∀ d ∈ L, DoOK d := by
  obtain ⟨a0, len, cap, rfl⟩ := okWide_slice Try.underlying23 hok
  obtain ⟨fuel, hf⟩ := h
  obtain ⟨v, L, hcs, h1, h2, h3⟩ := dos_raw hf
  injection hcs with hcs _
  exact ⟨L, by rw [hcs]; exact h1, h2, h3⟩
end Go.Proofs.Ytmoaecicibjmnaa
