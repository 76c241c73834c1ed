/- (*FS).Truncate, its caller's side. -/
import Derived.Test.YtmoaecicibjmnaaFO
import Derived.Test.YtmoaecicibjmnaaHQ
namespace Go.Proofs.Ytmoaecicibjmnaa
open Go.RowKit

def fileX (F : FR) (n : ByteArray) : PF := F.files[place F.files n]?.getD ⟨ByteArray.empty, ByteArray.empty, ByteArray.empty⟩
def cutBad (F : FR) (n : ByteArray) (k : Int) : Prop := k < 0 ∨ ((fileX F n).bytes.size : Int) < k
instance (F : FR) (n : ByteArray) (k : Int) : Decidable (cutBad F n k) := by unfold cutBad; exact inferInstance
def cutE (F : FR) (n : ByteArray) (k : Int) : Int := if hasE F n = 0 then (if cutBad F n k then 2 else if F.left = 0 then 51 else 0) else hasE F n
def cutF (F : FR) (n : ByteArray) (k : Int) : FR := if hasE F n = 0 ∧ ¬ cutBad F n k then doneF F (setX F n fun x => cutX x k) else F
set_option maxHeartbeats 4000000 in
set_option maxRecDepth 100000 in
theorem truncate_any {M : Nat → Prop} {b : Nat} {F : FR} (w : World) (h : FSAt M w b F) (hG : Sound F) (n : ByteArray) (k : Int) :
    Calls Try.prog 50 #[.pointer (some ⟨b, 0, none⟩), .string n, .int .i64 k] w fun e w' => e = .returned (.int .i64 (cutE F n k)) ∧ Turned M w w' b (cutF F n k) := by
  have hmf : ∀ (fn : Fn) (first cap : Array Value) (w : World), (Instr.makeFunc fn first cap).run Try.prog w = .ok (.func fn first cap) w := fun _ _ _ _ => rfl
  have H := Lib.hid h
  have HG := Lib.hid hG
  obtain ⟨R, hR⟩ : ∃ R, R = cutF F n k := ⟨_, rfl⟩
  obtain ⟨E, hE⟩ : ∃ E, E = cutE F n k := ⟨_, rfl⟩
  have HR := Lib.hid hR
  have HE := Lib.hid hE
  rw [← hR, ← hE]
  clear h hG hR hE
  go_enter Try.func50, Try.ntmps50
  go_upto_region 1 with fail
  obtain ⟨W, hW, hbW, hsW, x2, hfx⟩ := one_new w (.int .i64 k) 3
  rw [hW]
  clear hW
  by_cases hz : hasE F n = 0
  · obtain ⟨ho, hi⟩ := hasE_ok hz
    obtain ⟨x, hx, hxn⟩ := isAt_get hi
    have hfx2 : fileX F n = x := by unfold fileX; rw [hx]; rfl
    obtain ⟨fv, kv, hf⟩ := H.out
    have C1 := Lib.hid (has_ok (hf.below hbW) HG.out n hz)
    have HF := Lib.hid hf
    have HO := Lib.hid ho
    have HX := Lib.hid hx
    have HZ := Lib.hid hz
    have HFX := Lib.hid hfx2
    have hbs : x.bytes.size = x.pl.size + x.air.size := by simp [PF.bytes]
    have HBS := Lib.hid hbs
    have C5 := fun w1 => Lib.hid (bytes_any x (HG.out.size (List.mem_of_getElem? hx)) w1)
    obtain ⟨S, hS⟩ : ∃ S, S = x.bytes := ⟨_, rfl⟩
    simp only [← hS] at C5
    have HS := Lib.hid hS
    clear hf hz ho hi hxn hx hfx2 hbs hS
    go_wp2_with fail
    (with_reducible refine C1.out.mono ?_); rintro e w2 ⟨⟨g, cap, rfl, rfl⟩, hb2⟩
    go_upto_region 2 with fail
    obtain ⟨W2, hW2, hbW2, hsW2, y2, hfy⟩ := one_new w2 (.pointer (some ⟨g, place F.files n * 3, none⟩)) 97
    rw [hW2]
    clear hW2
    have x3 := cell_later hbW2 (cell_later hb2 x2)
    have hB := below_tr (below_tr hbW hb2) hbW2
    obtain ⟨g', cap', he, hg, hMg, hgb, d0, d1, d2, hfr⟩ := (HF.out.below hB).file HX.out
    obtain rfl : g = g' := by injection he with e1 _ _; injection e1 with e1; injection e1
    clear he hfr x2 hfy hfx
    have l2 : w.heap.size < W2.heap.size := by have := hb2.size; omega
    have l3 : w2.heap.size < W2.heap.size := by omega
    by_cases hk0 : k < 0
    · have hE2 : E = 2 := by rw [HE.out, cutE, if_pos HZ.out, if_pos (.inl hk0)]
      have hR2 : R = F := by rw [HR.out, cutF, if_neg (by rintro ⟨_, h⟩; exact h (.inl hk0))]
      have HE2 := Lib.hid hE2
      have HR2 := Lib.hid hR2
      have hd : decide (k < 0) = true := by simp [hk0]
      have hp := fun (p : Ext W2) (o : Nat) => p.cell w.heap.size o l2
      have hp2 := fun (p : Ext W2) (o : Nat) => p.cell w2.heap.size o l3
      have hp3 := fun (p : Ext W2) (o : Nat) => p.cell g o hg
      clear hE2 hR2
      go_wp2_with fail
      refine wp_region_class (by kernel_rfl) (by kernel_rfl) ?_
      repeat (go_big_quiet_step (first | (go_at_call 47; with_reducible exact Calls.ext (C5 _).out)))
      refine wpQuiet_nil ?_
      intro _ hw'
      obtain ⟨q, hw''⟩ := hw'
      subst hw''
      go_wp2_with fail
      go_ret
      exact ⟨by rw [HE2.out]; rfl, by rw [HR2.out]; exact Turned.below H.out (below_tr hB q.2)⟩
    · obtain ⟨z, hzz⟩ : ∃ z : Nat, z = S.size := ⟨_, rfl⟩
      have hd : decide (k < 0) = false := by simp; omega
      have hp := fun (p : Ext W2) (o : Nat) => p.cell w.heap.size o l2
      have hp2 := fun (p : Ext W2) (o : Nat) => p.cell w2.heap.size o l3
      have hp3 := fun (p : Ext W2) (o : Nat) => p.cell g o hg
      have HD : Hid ((decide ((S.size : Int) < k) = true ↔ cutBad F n k)) := Lib.hid (by
        unfold cutBad
        rw [HFX.out, ← HS.out, decide_eq_true_iff]
        constructor
        · exact .inr
        · rintro (h | h)
          · exact absurd h hk0
          · exact h)
      by_cases hk1 : (S.size : Int) < k
      · have hE2 : E = 2 := by rw [HE.out, cutE, if_pos HZ.out, if_pos (HD.out.1 (by simp [hk1]))]
        have hR2 : R = F := by rw [HR.out, cutF, if_neg (by rintro ⟨_, h⟩; exact h (HD.out.1 (by simp [hk1])))]
        have HE2 := Lib.hid hE2
        have HR2 := Lib.hid hR2
        have hd2 : decide ((S.size : Int) < k) = true := by simp [hk1]
        clear hE2 hR2
        go_wp2_with fail
        refine wp_region_class (by kernel_rfl) (by kernel_rfl) ?_
        repeat (go_big_quiet_step (first | (go_at_call 47; with_reducible exact Calls.ext (C5 _).out)))
        refine wpQuiet_nil ?_
        intro _ hw'
        obtain ⟨q, hw''⟩ := hw'
        subst hw''
        go_wp2_with fail
        go_ret
        exact ⟨by rw [HE2.out]; rfl, by rw [HR2.out]; exact Turned.below H.out (below_tr hB q.2)⟩
      · have hE2 : E = (if F.left = 0 then 51 else 0) := by rw [HE.out, cutE, if_pos HZ.out, if_neg (fun h => by have := HD.out.2 h; simp at this; omega)]
        have hR2 : R = doneF F (putF F (place F.files n) (cutX x k)) := by rw [HR.out, cutF, if_pos ⟨HZ.out, fun h => by have := HD.out.2 h; simp at this; omega⟩, setX, HX.out]
        have HE2 := Lib.hid hE2
        have HR2 := Lib.hid hR2
        have hd2 : decide ((S.size : Int) < k) = false := by simp; omega
        have hk2 : k ≤ (x.pl.size : Int) + (x.air.size : Int) := by have := HBS.out; rw [← HS.out] at this; omega
        clear hE2 hR2
        go_upto_region 4 with fail
        refine wp_region_class (by kernel_rfl) (by kernel_rfl) ?_
        repeat (go_big_quiet_step (first | (go_at_call 47; with_reducible exact Calls.ext (C5 _).out)))
        refine wpQuiet_nil ?_
        intro _ hw'
        obtain ⟨q, hw''⟩ := hw'
        subst hw''
        have hB3 := below_tr hB q.2
        have hq2 := q.2
        have C2 := do_then (M := M) q.1 ⟨_, kv, HF.out.below hB3⟩ HG.out HO.out 90 #[.pointer (some ⟨w.heap.size, 0, none⟩), .pointer (some ⟨w2.heap.size, 0, none⟩)] (enters_of Try.func90 (by kernel_rfl) rfl) (putF F (place F.files n) (cutX x k)) rfl
          (fun _ w1 hb1 => truncate1_any w1 ((HF.out.below hB3).below hb1) HG.out HX.out rfl (by omega) hk2 (cell_later hb1 (cell_later hq2 x3)) (cell_later hb1 (cell_later hq2 y2)))
        rw [← HR2.out, ← HE2.out] at C2
        have C3 := Lib.hid C2
        clear C2
        go_wp2_with fail
        (with_reducible refine C3.out.mono ?_); rintro e w3 ⟨rfl, ht3⟩
        have HT := Lib.hid ht3
        clear ht3
        go_wp2_with fail
        go_ret
        exact ⟨rfl, Turned.trans (fun k hk => .inl hk) (Out.of_below hB3) HT.out⟩
  · have C1 := Lib.hid (has_bad (H.out.below hbW) HG.out n hz)
    have hR2 : R = F := by rw [HR.out, cutF, if_neg (by rintro ⟨h, _⟩; exact hz h)]
    have hE2 : E = hasE F n := by rw [HE.out, cutE, if_neg hz]
    have hz' : (hasE F n != 0) = true := by simpa using hz
    generalize hasE F n = z at *
    have HR2 := Lib.hid hR2
    have HE2 := Lib.hid hE2
    clear hz hR2 hE2 HR HE
    go_wp2_with fail
    (with_reducible refine C1.out.mono ?_); rintro e w2 ⟨rfl, hb2⟩
    go_wp2_with fail
    go_ret
    exact ⟨by rw [HE2.out]; rfl, by rw [HR2.out]; exact Turned.below H.out ((below_tr hbW hb2).trans ((Below.refl _ _).alloc (below_tr hbW hb2).size _))⟩
end Go.Proofs.Ytmoaecicibjmnaa
