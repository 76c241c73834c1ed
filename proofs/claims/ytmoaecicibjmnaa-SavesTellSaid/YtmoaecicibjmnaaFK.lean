/- (*FS).Sync, its caller's side. -/
import Derived.Test.YtmoaecicibjmnaaFJ
import Derived.Shelf.Abstract
namespace Go.Proofs.Ytmoaecicibjmnaa
open Go.RowKit

/-- What a stroke on a file that must be there tells, and leaves. -/
def strokeE (F : FR) (n : ByteArray) : Int := if hasE F n = 0 then (if F.left = 0 then 51 else 0) else hasE F n
def syncX (x : PF) : PF := ⟨x.name, x.bytes, ByteArray.empty⟩
def setX (F : FR) (n : ByteArray) (f : PF → PF) : FR := match F.files[place F.files n]? with
  | some x => putF F (place F.files n) (f x)
  | none => F
def syncF (F : FR) (n : ByteArray) : FR := if hasE F n = 0 then doneF F (setX F n syncX) else F
theorem one_new (w : World) (v : Value) (t : TypeId) : ∃ W, w.alloc (.cells #[v] t) = W ∧ Below w.heap.size w W ∧ W.heap.size = w.heap.size + 1 ∧ W.cell? ⟨w.heap.size, 0, none⟩ = some v ∧ W.frozen? ⟨w.heap.size, 0, none⟩ = false := by
  have h : (w.alloc (.cells #[v] t)).heap[w.heap.size]? = some (.cells #[v] t (0, 0)) := by rw [heap_alloc, if_pos rfl]
  exact ⟨_, rfl, (Below.refl _ _).alloc (Nat.le_refl _) _, size_alloc _ _, cell_at h 0, free_at h 0⟩
set_option maxHeartbeats 4000000 in
set_option maxRecDepth 100000 in
theorem sync_any {M : Nat → Prop} {b : Nat} {F : FR} (w : World) (h : FSAt M w b F) (hG : Sound F) (n : ByteArray) :
    Calls Try.prog 24 #[.pointer (some ⟨b, 0, none⟩), .string n] w fun e w' => e = .returned (.int .i64 (strokeE F n)) ∧ Turned M w w' b (syncF F n) := by
  have hmf : ∀ (fn : Fn) (first cap : Array Value) (w : World), (Instr.makeFunc fn first cap).run Try.prog w = .ok (.func fn first cap) w := fun _ _ _ _ => rfl
  by_cases hz : hasE F n = 0
  · obtain ⟨ho, hi⟩ := hasE_ok hz
    obtain ⟨x, hx, _⟩ := isAt_get hi
    obtain ⟨fv, kv, h⟩ := h
    have C1 := Lib.hid (has_ok h hG n hz)
    have H := Lib.hid h
    have HG := Lib.hid hG
    have HX := Lib.hid hx
    obtain ⟨R, hR⟩ : ∃ R, R = syncF F n := ⟨_, rfl⟩
    obtain ⟨E, hE⟩ : ∃ E, E = strokeE F n := ⟨_, rfl⟩
    rw [← hR, ← hE]
    have hR2 : R = doneF F (putF F (place F.files n) (syncX x)) := by rw [hR, syncF, if_pos hz, setX, hx]
    have hE2 : E = (if F.left = 0 then 51 else 0) := by rw [hE, strokeE, if_pos hz]
    have HR := Lib.hid hR2
    have HE := Lib.hid hE2
    have HO := Lib.hid ho
    clear h hG hx hR hE hR2 hE2 hz hi ho
    go_enter Try.func24, Try.ntmps24
    go_wp2_with fail
    (with_reducible refine C1.out.mono ?_); rintro e w2 ⟨⟨g, cap, rfl, rfl⟩, hb2⟩
    go_upto_region 2 with fail
    obtain ⟨W, hW, hbW, hsW, hcW, hfW⟩ := one_new w2 (.pointer (some ⟨g, place F.files n * 3, none⟩)) 97
    rw [hW]
    clear hW
    have hBW := below_tr hb2 hbW
    have C2 := do_then (M := M) W ⟨_, kv, H.out.below hBW⟩ HG.out HO.out 60 #[.pointer (some ⟨w2.heap.size, 0, none⟩)] (enters_of Try.func60 (by kernel_rfl) rfl) (putF F (place F.files n) (syncX x)) rfl
      (fun _ w1 hb1 => sync1_any w1 ((H.out.below hBW).below hb1) HG.out HX.out rfl (cell_later hb1 hcW))
    rw [← HR.out, ← HE.out] at C2
    have C3 := Lib.hid C2
    clear C2
    go_wp2_with fail
    (with_reducible refine C3.out.mono ?_); rintro e w3 ⟨rfl, ht3⟩
    have HT := Lib.hid ht3
    clear ht3
    go_wp2_with fail
    go_ret
    exact ⟨rfl, Turned.trans (fun k hk => .inl hk) (Out.of_below hBW) HT.out⟩
  · have C1 := Lib.hid (has_bad h hG n hz)
    have hR : syncF F n = F := by unfold syncF; rw [if_neg hz]
    have hE : strokeE F n = hasE F n := by unfold strokeE; rw [if_neg hz]
    rw [hR, hE]
    have hz' : (hasE F n != 0) = true := by simpa using hz
    have H := Lib.hid h
    generalize hasE F n = z at *
    clear hz h hG hR hE
    go_enter Try.func24, Try.ntmps24
    go_wp2_with fail
    (with_reducible refine C1.out.mono ?_); rintro e w2 ⟨rfl, hb2⟩
    go_wp2_with fail
    go_ret
    exact ⟨rfl, Turned.below H.out (hb2.trans ((Below.refl _ _).alloc hb2.size _))⟩
end Go.Proofs.Ytmoaecicibjmnaa
