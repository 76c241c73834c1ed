/- SavesTell: what its walk needs; a []uint8 among the arguments. -/
import Derived.Test.YtmoaecicibjmnaaRT
import Derived.Test.YtmoaecicibjmnaaSD
import Derived.Test.YtmoaecicibjmnaaKK
namespace Go.Proofs.Ytmoaecicibjmnaa
open Go.RowKit Go.ChangeShapes Go.WideShapes
open Go.WideMaps Go.WideElems Go.Deep

/-- A slice of small numbers, in a block of P. -/
def U8sIn (P : Nat → Prop) (w : World) (v : Value) (l : List Int) : Prop :=
  ∃ a c, v = .slice a l.length c ∧ (l ≠ [] → ∃ b o, a = some ⟨b, o, none⟩ ∧ b < w.heap.size ∧ P b ∧ ∀ j, j < l.length → w.cell? ⟨b, o + j, none⟩ = some (.int .u8 (l[j]?.getD 0)))
set_option maxRecDepth 100000 in
theorem u8s_of {H : Type} {enc : TypeId × Value → H} {W : World} {v : Value} {d : DataW H} {p : List MemPlace} {base : Nat}
    (hok : Value.okWide Try.prog W .any base 71 v) (h : DataW.Trod enc Try.prog W 0 (fun _ => true) true 71 v d p) :
    ∃ l, U8sIn (Old W) W v l ∧ l.length ≤ 9223372036854775807 ∧ ∀ z ∈ l, 0 ≤ z ∧ z < 256 := by
  obtain ⟨a0, len0, cap0, rfl⟩ := okWide_slice Try.underlying71 hok
  obtain ⟨fuel, hf⟩ := h
  rcases open_ints Try.underlying71 Try.underlying5 (by kernel_rfl) hf with ⟨hcs, _⟩ | ⟨a, len, cap, zs, hcs, _, hl, hm, hz, _, hc, hw⟩
  · injection hcs with hcs _
    exact ⟨[], by rw [hcs]; exact ⟨none, 0, rfl, fun h => absurd rfl h⟩, by simp, by simp⟩
  · injection hcs with hcs _
    unfold maxLen at hm
    have hle : len ≤ zs.length := by rw [hz]; split <;> omega
    have hlen : (zs.take len).length = len := by rw [List.length_take]; omega
    rw [hcs]
    refine ⟨zs.take len, ⟨some a, cap, by rw [hlen], fun hne => ?_⟩, by rw [hlen]; omega, fun z hz' => ?_⟩
    · have hpos : 0 < len := by
        rcases Nat.eq_zero_or_pos len with h0 | h0
        · rw [h0] at hne; simp at hne
        · exact h0
      have h0 := hc 0 (by omega)
      rw [addr_zero] at h0
      obtain ⟨e1, e2⟩ := plain_of_cell h0
      refine ⟨a.block, a.off, by rw [← e1], e2, e2, fun j hj => ?_⟩
      rw [hlen] at hj
      have h1 := hc j (by omega)
      rw [e1, add_plain] at h1
      rw [h1, List.getElem?_take, if_pos hj]
      rfl
    · have := bounds_u8 (hw z (List.mem_of_mem_take hz'))
      omega
theorem Turned.drewL {M : Nat → Prop} {w w' : World} {b : Nat} {F : FR} (h : Turned M w.drew w' b F) : Turned M w w' b F := by
  obtain ⟨M1, hf, hM, ho⟩ := h
  exact ⟨M1, hf, hM, ho.drewL⟩
theorem Turned.size {M : Nat → Prop} {w w' : World} {b : Nat} {F : FR} (h : Turned M w w' b F) : w.heap.size ≤ w'.heap.size := by
  obtain ⟨_, _, _, ho⟩ := h
  exact ho.size
theorem mid_turned {Mf Mr : Nat → Prop} {w W a : World} {bf br : Nat} {F F2 : FR} (hbel : Below w.heap.size w W) (hr0 : RAt Mr W br F) (hdj : ∀ x, Mf x → ¬ Mr x) (hmf : ∀ x, Mf x → w.heap.size ≤ x) (h1 : Turned Mf W a bf F2) :
    RAt Mr a br F ∧ Below w.heap.size w a ∧ ∀ B, B < W.heap.size → ¬ Mf B → a.heap[B]? = W.heap[B]? := by
  obtain ⟨_, _, _, ho⟩ := h1
  exact ⟨hr0.out ho (fun x hx hm => hdj x hm hx), hbel.trans (ho.below hbel.size hmf), fun B hB hn => ho.block B hB hn⟩
theorem both_turned {Mf Mr : Nat → Prop} {w W a z : World} {bf br : Nat} {F F2 : FR} (hbel : Below w.heap.size w W) (hr0 : RAt Mr W br F) (hdj : ∀ x, Mf x → ¬ Mr x) (hmf : ∀ x, Mf x → w.heap.size ≤ x) (hmr : ∀ x, Mr x → w.heap.size ≤ x)
    (h1 : Turned Mf W a bf F2) (h2 : RTurned Mr a z br F2) :
    ∃ Mf2 Mr2, FSAt Mf2 z bf F2 ∧ RAt Mr2 z br F2 ∧ (∀ x, Mf2 x → ¬ Mr2 x) ∧ (∀ x, Mf2 x → w.heap.size ≤ x) ∧ (∀ x, Mr2 x → w.heap.size ≤ x) ∧ Below w.heap.size w z := by
  obtain ⟨_, hba, _⟩ := mid_turned hbel hr0 hdj hmf h1
  obtain ⟨Mf2, hf, hM, ho⟩ := h1
  obtain ⟨Mr2, hr, hN, ho2⟩ := h2
  have hlt := hr0.lt
  have hs := hbel.size
  have hs2 := ho.size
  refine ⟨Mf2, Mr2, hf.out ho2 (fun x hx hm => (hM x hx).elim (fun h => hdj x h hm) (fun h => by have := hlt x hm; omega)), hr, fun x hx hy => ?_, fun x hx => (hM x hx).elim (hmf x) fun h => by omega, fun x hx => (hN x hx).elim (hmr x) fun h => by omega, hba.trans (ho2.below hba.size hmr)⟩
  have h1 := hf.lt x hx
  rcases hN x hy with h | h
  · rcases hM x hx with h2 | h2
    · exact hdj x h2 h
    · have := hlt x h; omega
  · omega
end Go.Proofs.Ytmoaecicibjmnaa
