/- A list of texts, and a Fails, among the arguments. -/
import Derived.Test.YtmoaecicibjmnaaKK
namespace Go.Proofs.Ytmoaecicibjmnaa
open Go.RowKit Go.ChangeShapes Go.WideShapes
open Go.WideMaps Go.WideElems Go.Deep

/-- A slice of small numbers, in blocks of P. -/
def U8sIn (P : Nat → Prop) (w : World) (v : Value) (l : List Int) : Prop :=
  ∃ a c, v = .slice a l.length c ∧ (l ≠ [] → ∃ b o, a = some ⟨b, o, none⟩ ∧ b < w.heap.size ∧ P b ∧ ∀ j, j < l.length → w.cell? ⟨b, o + j, none⟩ = some (.int .u8 (l[j]?.getD 0)))
set_option maxRecDepth 100000 in
theorem u8s_raw {H : Type} {enc : TypeId × Value → H} {W : World} {cs : List Value} {x : DataW H × List MemPlace} {fuel base : Nat} {spare : Nat → Bool} {held : Bool}
    (hf : DataW.trod enc Try.prog W base spare held fuel 71 cs = some x) :
    ∃ kv l, cs = [kv] ∧ U8sIn (Old W) W kv l ∧ l.length ≤ 9223372036854775807 ∧ ∀ z ∈ l, 0 ≤ z ∧ z < 256 := by
  rcases open_ints Try.underlying71 Try.underlying5 (by kernel_rfl) hf with ⟨rfl, _⟩ | ⟨a, len, cap, zs, rfl, _, hl, hm, hz, _, hc, hw⟩
  · exact ⟨_, [], rfl, ⟨none, 0, rfl, fun h => absurd rfl h⟩, by simp, by simp⟩
  · unfold maxLen at hm
    have hle : len ≤ zs.length := by rw [hz]; split <;> omega
    have hlen : (zs.take len).length = len := by rw [List.length_take]; omega
    refine ⟨_, zs.take len, rfl, ⟨some a, cap, by rw [hlen], fun hne => ?_⟩, by rw [hlen]; omega, fun z hz' => ?_⟩
    · have hpos : 0 < len := by
        rcases Nat.eq_zero_or_pos len with h0 | h0
        · rw [h0] at hne; simp at hne
        · exact h0
      have h0 := hc 0 (by omega)
      rw [addr_zero] at h0
      obtain ⟨e1, e2⟩ := plain_of_cell h0
      refine ⟨a.block, a.off, by rw [← e1], e2, e2, fun j hj => ?_⟩
      rw [hlen] at hj
      have h1 := hc j (by omega)
      rw [e1, add_plain] at h1
      rw [h1, List.getElem?_take, if_pos hj]
      rfl
    · have := bounds_u8 (hw z (List.mem_of_mem_take hz'))
      omega
set_option maxRecDepth 100000 in
theorem fails_of {H : Type} {enc : TypeId × Value → H} {W : World} {v : Value} {d : DataW H} {p : List MemPlace} {base : Nat}
    (hok : Value.okWide Try.prog W .any base 73 v) (h : DataW.Trod enc Try.prog W 0 (fun _ => true) true 73 v d p) :
    ∃ (av kv : Value) (al kl : List Int), v = .agg #[av, kv] ∧ U8sIn (Old W) W av al ∧ al.length ≤ 9223372036854775807 ∧ (∀ z ∈ al, 0 ≤ z ∧ z < 256) ∧ IntsIn (Old W) W kv kl ∧ kl.length ≤ 9223372036854775807 := by
  obtain ⟨cs, rfl, hsz⟩ := okWide_struct Try.underlying73 hok
  obtain ⟨l⟩ := cs
  match l, hsz.trans (show Try.prog.cellsOf 73 = 2 by kernel_rfl) with
  | [c0, c1], _ =>
    obtain ⟨fuel, hf⟩ := h
    obtain ⟨xs, n, _, hx, _, hlen, hg⟩ := DataW.trod_struct Try.underlying73 hf
    match xs, hlen with
    | [y0, y1], _ =>
      have g0 := hg 0 _ rfl
      have g1 := hg 1 _ rfl
      obtain ⟨av, al, e0, h1, h2, h3⟩ := u8s_raw g0
      obtain ⟨kv, kl, e1, h4, h5, _⟩ := ints_raw g1
      injection e0 with e0 _
      injection e1 with e1 _
      subst e0 e1
      exact ⟨c0, c1, al, kl, rfl, h1, h2, h3, h4, h5⟩
set_option maxRecDepth 100000 in
theorem texts_arg {H : Type} {enc : TypeId × Value → H} {W : World} {v : Value} {d : DataW H} {p : List MemPlace} {base : Nat}
    (hok : Value.okWide Try.prog W .any base 30 v) (h : DataW.Trod enc Try.prog W 0 (fun _ => true) true 30 v d p) :
    ∃ l : List ByteArray, TextsAt W v l ∧ l.length ≤ 9223372036854775807 ∧ ∀ s ∈ l, s.size ≤ 9223372036854775807 := by
  obtain ⟨a0, len, cap, rfl⟩ := okWide_slice Try.underlying30 hok
  obtain ⟨fuel, hf⟩ := h
  rcases open_strings Try.underlying30 Try.underlying9 (by kernel_rfl) hf with ⟨hcs, hx⟩ | ⟨a, len', cap', ss, hcs, _, hl, hm, hz, hx, hcell, hws⟩
  · injection hcs with hcs _
    injection hcs with e1 e2 e3
    subst e1 e2 e3
    exact ⟨[], ⟨none, 0, rfl, fun h => absurd rfl h⟩, by simp, by simp⟩
  · injection hcs with hcs _
    injection hcs with e1 e2 e3
    subst e1 e2 e3
    simp only [if_true] at hz
    unfold maxLen at hm hws
    have hlen : (ss.take len).length = len := by rw [List.length_take]; omega
    refine ⟨ss.take len, ⟨some a, cap, by rw [hlen], fun hne => ?_⟩, by rw [hlen]; omega, fun s hs => hws s (List.mem_of_mem_take hs)⟩
    have hpos : 0 < len := by
      rcases Nat.eq_zero_or_pos len with h0 | h0
      · rw [h0] at hne; simp at hne
      · exact h0
    have h0 := hcell 0 (by omega)
    rw [addr_zero] at h0
    obtain ⟨e1, e2⟩ := plain_of_cell h0
    refine ⟨a.block, a.off, by rw [← e1], e2, fun j hj => ?_⟩
    have hj' := hj
    rw [hlen] at hj'
    have h1 := hcell j (by omega)
    rw [e1, add_plain] at h1
    rw [h1, List.getElem_take, List.getD_eq_getElem?_getD, List.getElem?_eq_getElem (by omega), Option.getD_some]
end Go.Proofs.Ytmoaecicibjmnaa
