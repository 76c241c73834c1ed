/- (*FS).Rename, (*FS).Start, (*FS).Fail. -/
import Derived.Test.YtmoaecicibjmnaaFZ
namespace Go.Proofs.Ytmoaecicibjmnaa
open Go.RowKit

def renE (F : FR) (a c : ByteArray) : Int := if hasE F a = 0 then (if namedB c = true then (if F.left = 0 then 51 else 0) else 2) else hasE F a
def renameF (F : FR) (a c : ByteArray) : FR := if hasE F a = 0 ∧ namedB c = true then doneF F (renF F a c (fileX F a)) else F
set_option maxHeartbeats 4000000 in
set_option maxRecDepth 100000 in
theorem rename_any {M : Nat → Prop} {b : Nat} {F : FR} (w : World) (h : FSAt M w b F) (hG : Sound F) (a c : ByteArray) :
    Calls Try.prog 25 #[.pointer (some ⟨b, 0, none⟩), .string a, .string c] w fun e w' => e = .returned (.int .i64 (renE F a c)) ∧ Turned M w w' b (renameF F a c) := by
  have hmf : ∀ (fn : Fn) (first cap : Array Value) (w : World), (Instr.makeFunc fn first cap).run Try.prog w = .ok (.func fn first cap) w := fun _ _ _ _ => rfl
  have H := Lib.hid h
  have HG := Lib.hid hG
  obtain ⟨R, hR⟩ : ∃ R, R = renameF F a c := ⟨_, rfl⟩
  obtain ⟨E, hE⟩ : ∃ E, E = renE F a c := ⟨_, rfl⟩
  have HR := Lib.hid hR
  have HE := Lib.hid hE
  rw [← hR, ← hE]
  clear h hG hR hE
  go_enter Try.func25, Try.ntmps25
  go_upto_region 1 with fail
  obtain ⟨W, hW, hbW, hsW, x3, x4, x5⟩ := three_new w (.pointer (some ⟨b, 0, none⟩)) (.string a) (.string c) 25 9 9
  rw [hW]
  clear hW
  have nM : ∀ k, w.heap.size ≤ k → ¬ M k := fun k hk hm => by have := H.out.lt k hm; omega
  by_cases hz : hasE F a = 0
  · obtain ⟨ho, hi⟩ := hasE_ok hz
    obtain ⟨x, hx, hxn⟩ := isAt_get hi
    have hfx : fileX F a = x := by unfold fileX; rw [hx]; rfl
    obtain ⟨fv, kv, hf⟩ := H.out
    have C1 := Lib.hid (has_ok (hf.below hbW) HG.out a hz)
    have HF := Lib.hid hf
    have HO := Lib.hid ho
    have HX := Lib.hid hx
    have HZ := Lib.hid hz
    have HFX := Lib.hid hfx
    have C2 := fun w1 => Lib.hid (named_any c w1)
    clear hf hz ho hi hxn hx hfx
    go_wp2_with fail
    (with_reducible refine C1.out.mono ?_); rintro e w2 ⟨⟨g, cap, rfl, rfl⟩, hb2⟩
    go_upto_region 2 with fail
    obtain ⟨W2, hW2, hbW2, hsW2, y2, hfy⟩ := one_new w2 (.pointer (some ⟨g, place F.files a * 3, none⟩)) 97
    rw [hW2]
    clear hW2 hfy
    have z3 := cell_later hbW2 (cell_later hb2 x3)
    have z4 := cell_later hbW2 (cell_later hb2 x4)
    have z5 := cell_later hbW2 (cell_later hb2 x5)
    have hB := below_tr (below_tr hbW hb2) hbW2
    have hs2 := hb2.size
    by_cases hnm : namedB c = true
    · have HE2 : Hid (E = (if F.left = 0 then 51 else 0)) := Lib.hid (by rw [HE.out, renE, if_pos HZ.out, if_pos hnm])
      have HR2 : Hid (R = doneF F (renF F a c x)) := Lib.hid (by rw [HR.out, renameF, if_pos ⟨HZ.out, hnm⟩, HFX.out])
      rw [hnm] at C2
      clear hnm x3 x4 x5
      have hl : (renF F a c x).left = F.left := rfl
      have C4 := do_then (M := M) W2 ⟨_, kv, HF.out.below hB⟩ HG.out HO.out 61 #[.pointer (some ⟨w2.heap.size, 0, none⟩), .pointer (some ⟨w.heap.size + 1 + 1, 0, none⟩), .pointer (some ⟨w.heap.size, 0, none⟩), .pointer (some ⟨w.heap.size + 1, 0, none⟩)] (enters_of Try.func61 (by kernel_rfl) rfl) (renF F a c x) hl
        (fun _ w1 hb1 => rename1_any w1 ((HF.out.below hB).below hb1) HG.out a c HX.out rfl (cell_later hb1 y2) (cell_later hb1 z5) (cell_later hb1 z3) (cell_later hb1 z4) (nM _ (by omega)) (nM _ (Nat.le_refl _)) (nM _ (by omega)))
      rw [← HR2.out, ← HE2.out] at C4
      have C3 := Lib.hid C4
      clear C4 hl
      go_wp2_with fail
      (with_reducible refine (C2 _).out.mono ?_); rintro e w3 ⟨rfl, rfl⟩
      go_wp2_with fail
      (with_reducible refine C3.out.mono ?_); rintro e w4 ⟨rfl, ht4⟩
      have HT := Lib.hid ht4
      clear ht4
      go_wp2_with fail
      go_ret
      exact ⟨rfl, Turned.trans (fun k hk => .inl hk) (Out.of_below hB) HT.out⟩
    · have hnf : namedB c = false := by cases e : namedB c; rfl; exact absurd e hnm
      have HE2 : Hid (E = 2) := Lib.hid (by rw [HE.out, renE, if_pos HZ.out, if_neg hnm])
      have HR2 : Hid (R = F) := Lib.hid (by rw [HR.out, renameF, if_neg (fun h => hnm h.2)])
      rw [hnf] at C2
      clear hnm hnf x3 x4 x5
      go_wp2_with fail
      (with_reducible refine (C2 _).out.mono ?_); rintro e w3 ⟨rfl, rfl⟩
      go_wp2_with fail
      go_ret
      exact ⟨by rw [HE2.out]; rfl, by rw [HR2.out]; exact Turned.below H.out hB⟩
  · have C1 := Lib.hid (has_bad (H.out.below hbW) HG.out a hz)
    have hR2 : R = F := by rw [HR.out, renameF, if_neg (fun h => hz h.1)]
    have hE2 : E = hasE F a := by rw [HE.out, renE, if_neg hz]
    have hz' : (hasE F a != 0) = true := by simpa using hz
    generalize hasE F a = z at *
    have HR2 := Lib.hid hR2
    have HE2 := Lib.hid hE2
    clear hz hR2 hE2 HR HE
    go_wp2_with fail
    (with_reducible refine C1.out.mono ?_); rintro e w2 ⟨rfl, hb2⟩
    go_wp2_with fail
    go_ret
    exact ⟨by rw [HE2.out]; rfl, by rw [HR2.out]; exact Turned.below H.out ((below_tr hbW hb2).trans ((Below.refl _ _).alloc (below_tr hbW hb2).size _))⟩
def startE (F : FR) : Int := if F.off = true then 0 else 2
def startF (F : FR) : FR := if F.off = true then { F with off := false, starts := wrap64 (F.starts + 1) } else F
set_option maxRecDepth 100000 in
theorem start_any {M : Nat → Prop} {b : Nat} {F : FR} (w : World) (h : FSAt M w b F) (hG : Sound F) :
    Calls Try.prog 27 #[.pointer (some ⟨b, 0, none⟩)] w fun e w' => e = .returned (.int .i64 (startE F)) ∧ Turned M w w' b (startF F) := by
  have C1 := Lib.hid (on_any h hG.lim)
  unfold onE at C1
  obtain ⟨fv, kv, h⟩ := h
  have H := Lib.hid h
  have c1 := h.box.c1
  have c2 := h.box.c2
  have f1 := h.box.free 1
  have f2 := h.box.free 2
  by_cases ho : F.off = true
  · rw [if_pos ho] at C1
    obtain ⟨R, hR⟩ : ∃ R, R = startF F := ⟨_, rfl⟩
    have HR : Hid (R = { F with off := false, starts := wrap64 (F.starts + 1) }) := Lib.hid (by rw [hR, startF, if_pos ho])
    rw [← hR, startE, if_pos ho]
    clear h hG ho hR
    go_enter Try.func27, Try.ntmps27
    go_wp2_with fail
    (with_reducible refine C1.out.mono ?_); rintro e w2 ⟨rfl, rfl⟩
    go_wp2_with fail
    go_ret
    refine ⟨rfl, M, ⟨fv, kv, ?_⟩, fun k hk => .inl hk, ((Out.refl _ _).set (.inl H.out.mb) _ _).set (.inl H.out.mb) _ _⟩
    rw [HR.out]
    exact H.out.turn _ rfl ((H.out.box.s2 _).s1 _) (own_eq H.out.own fun c hc => by rw [setCell_heap_other _ _ _ _ _ (H.out.mf c hc).2, setCell_heap_other _ _ _ _ _ (H.out.mf c hc).2]) (by rw [size_set, size_set]; exact Nat.le_refl _) (fun c _ hc _ => by rw [setCell_heap_other _ _ _ _ _ hc, setCell_heap_other _ _ _ _ _ hc])
  · rw [if_neg ho] at C1
    have hR : startF F = F := by rw [startF, if_neg ho]
    rw [hR, startE, if_neg ho]
    clear h hG ho hR
    go_enter Try.func27, Try.ntmps27
    go_wp2_with fail
    (with_reducible refine C1.out.mono ?_); rintro e w2 ⟨rfl, rfl⟩
    go_wp2_with fail
    go_ret
    exact ⟨rfl, Turned.below ⟨fv, kv, H.out⟩ (Below.refl _ _)⟩
end Go.Proofs.Ytmoaecicibjmnaa
