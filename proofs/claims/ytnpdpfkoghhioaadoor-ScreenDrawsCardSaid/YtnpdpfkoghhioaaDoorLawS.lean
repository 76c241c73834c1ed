/- What is to be shown, and a list of texts, among the arguments: what their reading says of memory. -/
import Derived.Test.YtnpdpfkoghhioaaDoorLawD
import Derived.Test.YtnpdpfkoghhioaaDoorXT
import Derived.OpenShut
import Derived.Deep.Slices
import Derived.Deep.Fields
namespace Go.Proofs.YtnpdpfkoghhioaaDoor
open Go.RowKit Go.ChangeShapes Go.WideShapes
open Go.WideMaps Go.WideElems Go.Deep

theorem addr_zero (a : Addr) : a.add 0 = a := by simp [Addr.add]
set_option maxRecDepth 100000 in
theorem texts_raw {H : Type} {enc : TypeId × Value → H} {W : World} {cs : List Value} {x : DataW H × List MemPlace} {fuel : Nat}
    (hf : DataW.trod enc Tryd.prog W 0 (fun _ => true) true fuel 22 cs = some x) :
    ∃ kv l, cs = [kv] ∧ TextsAt W kv l ∧ l.length ≤ 9223372036854775807 := by
  rcases open_strings Tryd.underlying22 Tryd.underlying9 (by kernel_rfl) hf with ⟨hcs, hx⟩ | ⟨a, len, cap, ss, hcs, _, hl, hm, hz, hx, hcell, hws⟩
  · exact ⟨_, [], hcs, ⟨none, 0, rfl, fun h => absurd rfl h⟩, by simp⟩
  · simp only [if_true] at hz
    unfold maxLen at hm
    have hlen : (ss.take len).length = len := by rw [List.length_take]; omega
    refine ⟨_, ss.take len, hcs, ⟨some a, cap, by rw [hlen], fun hne => ?_⟩, by rw [hlen]; omega⟩
    have hpos : 0 < len := by
      rcases Nat.eq_zero_or_pos len with h0 | h0
      · rw [h0] at hne; simp at hne
      · exact h0
    have h0 := hcell 0 (by omega)
    rw [addr_zero] at h0
    obtain ⟨e1, e2⟩ := plain_of_cell h0
    refine ⟨a.block, a.off, by rw [← e1], e2, fun j hj => ?_⟩
    have hj' := hj
    rw [hlen] at hj'
    have h1 := hcell j (by omega)
    rw [e1, add_plain] at h1
    rw [h1, List.getElem_take, List.getD_eq_getElem?_getD, List.getElem?_eq_getElem (by omega), Option.getD_some]
set_option maxRecDepth 100000 in
theorem texts_arg {H : Type} {enc : TypeId × Value → H} {W : World} {v : Value} {d : DataW H} {p : List MemPlace} {base : Nat}
    (hok : Value.okWide Tryd.prog W .any base 22 v) (h : DataW.Trod enc Tryd.prog W 0 (fun _ => true) true 22 v d p) :
    ∃ l : List ByteArray, TextsAt W v l ∧ l.length ≤ 9223372036854775807 := by
  obtain ⟨a0, len, cap, rfl⟩ := okWide_slice Tryd.underlying22 hok
  obtain ⟨fuel, hf⟩ := h
  obtain ⟨kv, l, hcs, h1, h2⟩ := texts_raw hf
  injection hcs with hcs _
  exact ⟨l, by rw [hcs]; exact h1, h2⟩
set_option maxRecDepth 100000 in
/-- What is read of what is to be shown. -/
theorem show_of {H : Type} {enc : TypeId × Value → H} {W : World} {v : Value} {d : DataW H} {p : List MemPlace} {base : Nat}
    (hok : Value.okWide Tryd.prog W .any base 26 v) (h : DataW.Trod enc Tryd.prog W 0 (fun _ => true) true 26 v d p) :
    ∃ s : SH, ShowAt W v s ∧ s.lines.length ≤ 9223372036854775807 := by
  obtain ⟨cs, rfl, hsz⟩ := okWide_struct Tryd.underlying26 hok
  obtain ⟨l⟩ := cs
  match l, hsz.trans (show Tryd.prog.cellsOf 26 = 7 by kernel_rfl) with
  | [c0, c1, c2, c3, c4, c5, c6], _ =>
    obtain ⟨fuel, hf⟩ := h
    obtain ⟨xs, n, _, hx, _, hlen, hg⟩ := DataW.trod_struct Tryd.underlying26 hf
    match xs, hlen with
    | [y0, y1, y2, y3, y4, y5], _ =>
      have g0 := hg 0 _ rfl
      have g1 : DataW.trod enc Tryd.prog W 0 (fun _ => true) true n 24 [c1, c2] = some y1 := hg 1 _ rfl
      have g2 := hg 2 _ rfl
      have g3 := hg 3 _ rfl
      have g4 := hg 4 _ rfl
      have g5 := hg 5 _ rfl
      obtain ⟨zs, m, _, hz, _, hlen2, hq⟩ := DataW.trod_struct Tryd.underlying24 g1
      match zs, hlen2 with
      | [z0, z1], _ =>
        have q0 := hq 0 _ rfl
        have q1 := hq 1 _ rfl
        simp only [Value.cells] at g0 g2 g3 g4 g5
        obtain ⟨n1, e1, _, w1⟩ := DataW.trod_int Tryd.underlying3 q0
        obtain ⟨n2, e2, _, w2⟩ := DataW.trod_int Tryd.underlying3 q1
        obtain ⟨s3, e3, _, w3⟩ := DataW.trod_string Tryd.underlying9 g2
        obtain ⟨b4, e4, _⟩ := DataW.trod_bool Tryd.underlying4 g3
        obtain ⟨n5, e5, _, w5⟩ := DataW.trod_int Tryd.underlying3 g4
        obtain ⟨n6, e6, _, w6⟩ := DataW.trod_int Tryd.underlying3 g5
        obtain ⟨kv, T, e0, hT, hb⟩ := texts_raw g0
        injection e0 with e0 _
        injection e1 with e1 _
        injection e2 with e2 _
        injection e3 with e3 _
        injection e4 with e4 _
        injection e5 with e5 _
        injection e6 with e6 _
        subst e0 e1 e2 e3 e4 e5 e6
        obtain ⟨a, c, hv, hc⟩ := hT
        exact ⟨⟨T, n1, n2, s3, b4, n5, n6⟩, ⟨a, c, by rw [hv], by rw [← hv]; exact ⟨a, c, hv, hc⟩⟩, hb⟩
end Go.Proofs.YtnpdpfkoghhioaaDoor
