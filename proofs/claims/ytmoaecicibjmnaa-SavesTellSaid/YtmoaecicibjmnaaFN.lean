/- (*FS).Remove. -/
import Derived.Test.YtmoaecicibjmnaaFM
import Derived.Shelf.Abstract
namespace Go.Proofs.Ytmoaecicibjmnaa
open Go.RowKit

set_option maxRecDepth 100000 in
theorem remove1_any {M : Nat → Prop} {b p2 p3 : Nat} {F : FR} (w : World) (h : FSAt M w b F) (hG : Sound F) (n : ByteArray) (h2 : w.cell? ⟨p2, 0, none⟩ = some (.pointer (some ⟨b, 0, none⟩))) (h3 : w.cell? ⟨p3, 0, none⟩ = some (.string n)) :
    Calls Try.prog 91 #[.pointer (some ⟨p2, 0, none⟩), .pointer (some ⟨p3, 0, none⟩)] w fun e w' => e = .returned (.tuple #[]) ∧ Turned M w w' b (dropF F n) := by
  have C1 := Lib.hid (drop_any w h hG n)
  clear h hG
  go_enter Try.func91, Try.ntmps91
  go_wp2_with fail
  (with_reducible refine C1.out.mono ?_); rintro e w2 ⟨rfl, ht⟩
  have HT := Lib.hid ht
  clear ht
  go_wp2_with fail
  go_end0
  exact ⟨rfl, HT.out⟩
/-- Two new blocks of one cell. -/
theorem two_new (w : World) (v u : Value) (t s : TypeId) : ∃ W, (w.alloc (.cells #[v] t)).alloc (.cells #[u] s) = W ∧ Below w.heap.size w W ∧ W.heap.size = w.heap.size + 2 ∧ W.cell? ⟨w.heap.size, 0, none⟩ = some v ∧ W.cell? ⟨w.heap.size + 1, 0, none⟩ = some u := by
  have h1 : ((w.alloc (.cells #[v] t)).alloc (.cells #[u] s)).heap[w.heap.size]? = some (.cells #[v] t (0, 0)) := by rw [heap_alloc, if_neg (by simp only [size_alloc]; omega), heap_alloc, if_pos rfl]
  have h2 : ((w.alloc (.cells #[v] t)).alloc (.cells #[u] s)).heap[w.heap.size + 1]? = some (.cells #[u] s (0, 0)) := by rw [heap_alloc, if_pos (by simp only [size_alloc])]
  exact ⟨_, rfl, ((Below.refl _ _).alloc (Nat.le_refl _) _).alloc (by rw [size_alloc]; omega) _, by simp only [size_alloc], cell_at h1 0, cell_at h2 0⟩
def removeF (F : FR) (n : ByteArray) : FR := if hasE F n = 0 then doneF F (dropF F n) else F
set_option maxHeartbeats 4000000 in
set_option maxRecDepth 100000 in
theorem remove_any {M : Nat → Prop} {b : Nat} {F : FR} (w : World) (h : FSAt M w b F) (hG : Sound F) (n : ByteArray) :
    Calls Try.prog 51 #[.pointer (some ⟨b, 0, none⟩), .string n] w fun e w' => e = .returned (.int .i64 (strokeE F n)) ∧ Turned M w w' b (removeF F n) := by
  have hmf : ∀ (fn : Fn) (first cap : Array Value) (w : World), (Instr.makeFunc fn first cap).run Try.prog w = .ok (.func fn first cap) w := fun _ _ _ _ => rfl
  have H := Lib.hid h
  have HG := Lib.hid hG
  obtain ⟨R, hR⟩ : ∃ R, R = removeF F n := ⟨_, rfl⟩
  obtain ⟨E, hE⟩ : ∃ E, E = strokeE F n := ⟨_, rfl⟩
  have HR := Lib.hid hR
  have HE := Lib.hid hE
  rw [← hR, ← hE]
  clear h hG hR hE
  go_enter Try.func51, Try.ntmps51
  go_upto_region 1 with fail
  obtain ⟨W, hW, hbW, hsW, x2, x3⟩ := two_new w (.pointer (some ⟨b, 0, none⟩)) (.string n) 25 9
  rw [hW]
  clear hW
  by_cases hz : hasE F n = 0
  · obtain ⟨ho, hi⟩ := hasE_ok hz
    have hR2 : R = doneF F (dropF F n) := by rw [HR.out, removeF, if_pos hz]
    have hE2 : E = (if F.left = 0 then 51 else 0) := by rw [HE.out, strokeE, if_pos hz]
    obtain ⟨fv, kv, hf⟩ := H.out
    have C1 := Lib.hid (has_ok (hf.below hbW) HG.out n hz)
    have HO := Lib.hid ho
    have HR2 := Lib.hid hR2
    have HE2 := Lib.hid hE2
    clear hf hR2 hE2 hz ho hi
    go_wp2_with fail
    (with_reducible refine C1.out.mono ?_); rintro e w2 ⟨⟨g, cap, rfl, rfl⟩, hb2⟩
    have y2 := cell_later hb2 x2
    have y3 := cell_later hb2 x3
    have hB2 := below_tr hbW hb2
    have C2 := do_then (M := M) w2 (H.out.below hB2) HG.out HO.out 91 #[.pointer (some ⟨w.heap.size, 0, none⟩), .pointer (some ⟨w.heap.size + 1, 0, none⟩)] (enters_of Try.func91 (by kernel_rfl) rfl) (dropF F n) rfl
      (fun _ w1 hb1 => remove1_any w1 ((H.out.below hB2).below hb1) HG.out n (cell_later hb1 y2) (cell_later hb1 y3))
    rw [← HR2.out, ← HE2.out] at C2
    have C3 := Lib.hid C2
    clear C2
    go_wp2_with fail
    (with_reducible refine C3.out.mono ?_); rintro e w3 ⟨rfl, ht3⟩
    have HT := Lib.hid ht3
    clear ht3
    go_wp2_with fail
    go_ret
    exact ⟨rfl, Turned.trans (fun k hk => .inl hk) (Out.of_below hB2) HT.out⟩
  · have C1 := Lib.hid (has_bad (H.out.below hbW) HG.out n hz)
    have hR2 : R = F := by rw [HR.out, removeF, if_neg hz]
    have hE2 : E = hasE F n := by rw [HE.out, strokeE, if_neg hz]
    have hz' : (hasE F n != 0) = true := by simpa using hz
    generalize hasE F n = z at *
    have HR2 := Lib.hid hR2
    have HE2 := Lib.hid hE2
    clear hz hR2 hE2 HR HE
    go_wp2_with fail
    (with_reducible refine C1.out.mono ?_); rintro e w2 ⟨rfl, hb2⟩
    go_wp2_with fail
    go_ret
    exact ⟨by rw [HE2.out]; rfl, by rw [HR2.out]; exact Turned.below H.out (below_tr hbW hb2)⟩
end Go.Proofs.Ytmoaecicibjmnaa
