/- saves: Write. -/
import Derived.Test.YtmoaecicibjmnaaSB
namespace Go.Proofs.Ytmoaecicibjmnaa
open Go.RowKit

set_option maxRecDepth 100000 in
theorem write1_any {M : Nat → Prop} {b p : Nat} {F : FR} (w : World) (h : FSAt M w b F) (hG : Sound F) (hp : w.cell? ⟨p, 0, none⟩ = some (.pointer (some ⟨b, 0, none⟩))) :
    Calls Try.prog 81 #[.pointer (some ⟨p, 0, none⟩)] w fun e w' => e = .returned (.int .i64 (onE F)) ∧ Turned M w w' b (F) := by
  have C1 := Lib.hid (son_any w h hG)
  generalize onE F = E at *
  clear h hG
  go_enter Try.func81, Try.ntmps81
  go_wp2_with fail
  (with_reducible refine C1.out.mono ?_); rintro e w2 ⟨rfl, ht⟩
  have HT := Lib.hid ht
  clear ht
  go_wp2_with fail
  go_ret
  exact ⟨rfl, HT.out⟩
set_option maxRecDepth 100000 in
theorem write2_any {p : Nat} {n : ByteArray} (w : World) (hp : w.cell? ⟨p, 0, none⟩ = some (.string n)) :
    Calls Try.prog 82 #[.pointer (some ⟨p, 0, none⟩)] w fun e w' => e = .returned (.int .i64 (nameE n)) ∧ w' = w := by
  have C1 := Lib.hid (snamed_any w n)
  generalize nameE n = E at *
  go_enter Try.func82, Try.ntmps82
  go_wp2_with fail
  (with_reducible refine C1.out.mono ?_); rintro e w2 ⟨rfl, rfl⟩
  go_wp2_with fail
  go_ret
  exact ⟨rfl, rfl⟩
set_option maxRecDepth 100000 in
theorem write3_any {M : Nat → Prop} {b p : Nat} {F : FR} (w : World) (h : FSAt M w b F) (hG : Sound F) (hp : w.cell? ⟨p, 0, none⟩ = some (.pointer (some ⟨b, 0, none⟩))) :
    Calls Try.prog 83 #[.pointer (some ⟨p, 0, none⟩)] w fun e w' => e = .returned (.int .i64 (cleanE F)) ∧ Turned M w w' b (removeF F dN) := by
  have C1 := Lib.hid (clean_any w h hG)
  generalize cleanE F = E at *
  clear h hG
  go_enter Try.func83, Try.ntmps83
  go_wp2_with fail
  (with_reducible refine C1.out.mono ?_); rintro e w2 ⟨rfl, ht⟩
  have HT := Lib.hid ht
  clear ht
  go_wp2_with fail
  go_ret
  exact ⟨rfl, HT.out⟩
set_option maxRecDepth 100000 in
theorem write4_any {M : Nat → Prop} {b p q : Nat} {t : ByteArray} {F : FR} (w : World) (h : FSAt M w b F) (hG : Sound F) (hp : w.cell? ⟨p, 0, none⟩ = some (.pointer (some ⟨b, 0, none⟩))) (hq : w.cell? ⟨q, 0, none⟩ = some (.string t)) (ht : t.size ≤ 9223372036854775807) :
    Calls Try.prog 84 #[.pointer (some ⟨p, 0, none⟩), .pointer (some ⟨q, 0, none⟩)] w fun e w' => e = .returned (.int .i64 (appE F dN t)) ∧ Turned M w w' b (appF F dN t) := by
  have C1 := Lib.hid (append_any w h hG dN t ht)
  generalize appE F dN t = E at *
  clear h hG ht
  go_enter Try.func84, Try.ntmps84
  go_wp2_with fail
  (with_reducible refine C1.out.mono ?_); rintro e w2 ⟨rfl, ht⟩
  have HT := Lib.hid ht
  clear ht
  go_wp2_with fail
  go_ret
  exact ⟨rfl, HT.out⟩
set_option maxRecDepth 100000 in
theorem write5_any {M : Nat → Prop} {b p : Nat} {F : FR} (w : World) (h : FSAt M w b F) (hG : Sound F) (hp : w.cell? ⟨p, 0, none⟩ = some (.pointer (some ⟨b, 0, none⟩))) :
    Calls Try.prog 85 #[.pointer (some ⟨p, 0, none⟩)] w fun e w' => e = .returned (.int .i64 (strokeE F dN)) ∧ Turned M w w' b (syncF F dN) := by
  have C1 := Lib.hid (sync_any w h hG dN)
  generalize strokeE F dN = E at *
  clear h hG
  go_enter Try.func85, Try.ntmps85
  go_wp2_with fail
  (with_reducible refine C1.out.mono ?_); rintro e w2 ⟨rfl, ht⟩
  have HT := Lib.hid ht
  clear ht
  go_wp2_with fail
  go_ret
  exact ⟨rfl, HT.out⟩
set_option maxRecDepth 100000 in
theorem write6_any {M : Nat → Prop} {b p q : Nat} {n : ByteArray} {F : FR} (w : World) (h : FSAt M w b F) (hG : Sound F) (hp : w.cell? ⟨p, 0, none⟩ = some (.pointer (some ⟨b, 0, none⟩))) (hq : w.cell? ⟨q, 0, none⟩ = some (.string n)) :
    Calls Try.prog 86 #[.pointer (some ⟨p, 0, none⟩), .pointer (some ⟨q, 0, none⟩)] w fun e w' => e = .returned (.int .i64 (renE F dN n)) ∧ Turned M w w' b (renameF F dN n) := by
  have C1 := Lib.hid (rename_any w h hG dN n)
  generalize renE F dN n = E at *
  clear h hG
  go_enter Try.func86, Try.ntmps86
  go_wp2_with fail
  (with_reducible refine C1.out.mono ?_); rintro e w2 ⟨rfl, ht⟩
  have HT := Lib.hid ht
  clear ht
  go_wp2_with fail
  go_ret
  exact ⟨rfl, HT.out⟩
/-- The states, and the answers, of a Write's steps. -/
def wF3 (F : FR) : FR := removeF F dN
def wF4 (F : FR) (t : ByteArray) : FR := appF (wF3 F) dN t
def wF5 (F : FR) (t : ByteArray) : FR := syncF (wF4 F t) dN
def wF6 (F : FR) (n t : ByteArray) : FR := renameF (wF5 F t) dN n
def wF (F : FR) (n t : ByteArray) (j : Nat) : FR := if j ≤ 2 then F else if j = 3 then wF3 F else if j = 4 then wF4 F t else if j = 5 then wF5 F t else wF6 F n t
def wE (F : FR) (n t : ByteArray) (j : Nat) : Int := if j = 0 then onE F else if j = 1 then nameE n else if j = 2 then cleanE F else if j = 3 then appE (wF3 F) dN t else if j = 4 then strokeE (wF4 F t) dN else renE (wF5 F t) dN n
def saveE (F : FR) (n t : ByteArray) : Int :=
  if wE F n t 0 ≠ 0 then wE F n t 0 else if wE F n t 1 ≠ 0 then wE F n t 1 else if wE F n t 2 ≠ 0 then wE F n t 2 else if wE F n t 3 ≠ 0 then wE F n t 3 else if wE F n t 4 ≠ 0 then wE F n t 4 else wE F n t 5
def saveF (F : FR) (n t : ByteArray) : FR :=
  if wE F n t 0 ≠ 0 then F else if wE F n t 1 ≠ 0 then F else if wE F n t 2 ≠ 0 then wF3 F else if wE F n t 3 ≠ 0 then wF4 F t else if wE F n t 4 ≠ 0 then wF5 F t else wF6 F n t
theorem Sound.w3 {F : FR} (h : Sound F) : Sound (wF3 F) := h.with' ⟨7, dN, tx [], tx [], 0, []⟩ (by show (0 : Int) ≤ _; omega) (Nat.zero_le _)
theorem Sound.w4 {F : FR} (h : Sound F) (t : ByteArray) : Sound (wF4 F t) := h.w3.with' ⟨0, dN, tx [], t, 0, []⟩ (by show (0 : Int) ≤ _; omega) (Nat.zero_le _)
theorem Sound.w5 {F : FR} (h : Sound F) (t : ByteArray) : Sound (wF5 F t) := (h.w4 t).with' ⟨3, dN, tx [], tx [], 0, []⟩ (by show (0 : Int) ≤ _; omega) (Nat.zero_le _)
theorem Sound.w6 {F : FR} (h : Sound F) (n t : ByteArray) : Sound (wF6 F n t) := (h.w5 t).with' ⟨6, dN, n, tx [], 0, []⟩ (by show (0 : Int) ≤ _; omega) (Nat.zero_le _)
theorem Sound.saved {F : FR} (h : Sound F) (n t : ByteArray) : Sound (saveF F n t) := by
  unfold saveF
  split; exact h
  split; exact h
  split; exact h.w3
  split; exact h.w4 t
  split; exact h.w5 t
  exact h.w6 n t
theorem saved_at {F : FR} {n t : ByteArray} {j : Nat} (hj : j < 6) (h0 : ∀ i, i < j → wE F n t i = 0) (hr : wE F n t j ≠ 0) : saveE F n t = wE F n t j ∧ saveF F n t = wF F n t (j + 1) := by
  unfold saveE saveF
  rcases (show j = 0 ∨ j = 1 ∨ j = 2 ∨ j = 3 ∨ j = 4 ∨ j = 5 by omega) with rfl | rfl | rfl | rfl | rfl | rfl
  · rw [if_pos hr, if_pos hr]; exact ⟨rfl, rfl⟩
  · simp only [h0 0 (by omega), ne_eq, not_true_eq_false, if_false]; rw [if_pos hr, if_pos hr]; exact ⟨rfl, rfl⟩
  · simp only [h0 0 (by omega), h0 1 (by omega), ne_eq, not_true_eq_false, if_false]; rw [if_pos hr, if_pos hr]; exact ⟨rfl, rfl⟩
  · simp only [h0 0 (by omega), h0 1 (by omega), h0 2 (by omega), ne_eq, not_true_eq_false, if_false]; rw [if_pos hr, if_pos hr]; exact ⟨rfl, rfl⟩
  · simp only [h0 0 (by omega), h0 1 (by omega), h0 2 (by omega), h0 3 (by omega), ne_eq, not_true_eq_false, if_false]; rw [if_pos hr, if_pos hr]; exact ⟨rfl, rfl⟩
  · simp only [h0 0 (by omega), h0 1 (by omega), h0 2 (by omega), h0 3 (by omega), h0 4 (by omega), ne_eq, not_true_eq_false, if_false]; exact ⟨trivial, rfl⟩
theorem saved_ok {F : FR} {n t : ByteArray} (h0 : ∀ i, i < 6 → wE F n t i = 0) : saveE F n t = 0 ∧ saveF F n t = wF6 F n t := by
  unfold saveE saveF
  simp only [h0 0 (by omega), h0 1 (by omega), h0 2 (by omega), h0 3 (by omega), h0 4 (by omega), h0 5 (by omega), ne_eq, not_true_eq_false, if_false]
  exact ⟨trivial, trivial⟩
set_option maxRecDepth 100000 in
set_option maxHeartbeats 4000000 in
theorem write_any {M : Nat → Prop} {b : Nat} {F : FR} (w : World) (h : FSAt M w b F) (hG : Sound F) (n t : ByteArray) (ht : t.size ≤ 9223372036854775807) :
    Calls Try.prog 38 #[.pointer (some ⟨b, 0, none⟩), .string n, .string t] w fun e w' => e = .returned (.int .i64 (saveE F n t)) ∧ Turned M w w' b (saveF F n t) := by
  have H := Lib.hid h
  have HG := Lib.hid hG
  have HTT := Lib.hid ht
  clear h hG ht
  go_enter Try.func38, Try.ntmps38
  have hmf : ∀ (fn : Fn) (first cap : Array Value) (w : World), (Instr.makeFunc fn first cap).run Try.prog w = .ok (.func fn first cap) w := fun _ _ _ _ => rfl
  go_wp2_with fail
  obtain ⟨W, hW, hbW, hsW, x0, x1, x2, x3⟩ := four w (.cells #[.pointer (some ⟨b, 0, none⟩)] 25) (.cells #[.string n] 9) (.cells #[.string t] 9) (.cells #[.func (.func 81) #[] #[.pointer (some ⟨w.heap.size, 0, none⟩)], .func (.func 82) #[] #[.pointer (some ⟨w.heap.size + 1, 0, none⟩)], .func (.func 83) #[] #[.pointer (some ⟨w.heap.size, 0, none⟩)], .func (.func 84) #[] #[.pointer (some ⟨w.heap.size, 0, none⟩), .pointer (some ⟨w.heap.size + 1 + 1, 0, none⟩)], .func (.func 85) #[] #[.pointer (some ⟨w.heap.size, 0, none⟩)], .func (.func 86) #[] #[.pointer (some ⟨w.heap.size, 0, none⟩), .pointer (some ⟨w.heap.size + 1, 0, none⟩)]] 44)
  rw [hW]
  have y0 := cell_at x0 0
  have y1 := cell_at x1 0
  have y2 := cell_at x2 0
  have z0 := cell_at x3 0
  have z1 := cell_at x3 1
  have z2 := cell_at x3 2
  have z3 := cell_at x3 3
  have z4 := cell_at x3 4
  have z5 := cell_at x3 5
  clear hW x0 x1 x2 x3
  have nM : ∀ k, w.heap.size ≤ k → ¬ M k := fun k hk hm => by have := H.out.lt k hm; omega
  have j6 : ∀ j, j < 6 → j = 0 ∨ j = 1 ∨ j = 2 ∨ j = 3 ∨ j = 4 ∨ j = 5 := fun j hj => by omega
  have C1 := row_any (n := 6) (b0 := w.heap.size + 1 + 1 + 1) (c := 6) (by omega) (fun j => if j = 0 then 81 else if j = 1 then 82 else if j = 2 then 83 else if j = 3 then 84 else if j = 4 then 85 else 86)
    (fun j => if j = 0 then #[.pointer (some ⟨w.heap.size, 0, none⟩)] else if j = 1 then #[.pointer (some ⟨w.heap.size + 1, 0, none⟩)] else if j = 2 then #[.pointer (some ⟨w.heap.size, 0, none⟩)] else if j = 3 then #[.pointer (some ⟨w.heap.size, 0, none⟩), .pointer (some ⟨w.heap.size + 1 + 1, 0, none⟩)] else if j = 4 then #[.pointer (some ⟨w.heap.size, 0, none⟩)] else #[.pointer (some ⟨w.heap.size, 0, none⟩), .pointer (some ⟨w.heap.size + 1, 0, none⟩)])
    (fun j w' => (∀ i, i < j → wE F n t i = 0) ∧ Turned M W w' b (wF F n t j)) (fun r w' => r = saveE F n t ∧ Turned M W w' b (saveF F n t))
    (fun j hj args w => by
      rcases j6 j hj with rfl | rfl | rfl | rfl | rfl | rfl
      · exact enters_of Try.func81 (by kernel_rfl) rfl args w
      · exact enters_of Try.func82 (by kernel_rfl) rfl args w
      · exact enters_of Try.func83 (by kernel_rfl) rfl args w
      · exact enters_of Try.func84 (by kernel_rfl) rfl args w
      · exact enters_of Try.func85 (by kernel_rfl) rfl args w
      · exact enters_of Try.func86 (by kernel_rfl) rfl args w)
    (fun j w' hj hI => by
      obtain ⟨_, _, _, _, ho⟩ := hI
      have e := fun i => ho.cell (show w.heap.size + 1 + 1 + 1 < W.heap.size by omega) (nM _ (by omega)) i
      rcases j6 j hj with rfl | rfl | rfl | rfl | rfl | rfl
      · exact (e 0).trans z0
      · exact (e 1).trans z1
      · exact (e 2).trans z2
      · exact (e 3).trans z3
      · exact (e 4).trans z4
      · exact (e 5).trans z5)
    (fun j w' hj hI => by
      obtain ⟨h1, M1, hf1, hM1, ho⟩ := hI
      have p0 := (ho.cell (show w.heap.size < W.heap.size by omega) (nM _ (by omega)) 0).trans y0
      have p1 := (ho.cell (show w.heap.size + 1 < W.heap.size by omega) (nM _ (by omega)) 0).trans y1
      have p2 := (ho.cell (show w.heap.size + 1 + 1 < W.heap.size by omega) (nM _ (by omega)) 0).trans y2
      have fin : ∀ w2, Turned M W w2 b (wF F n t (j + 1)) → ∃ r : Int, (Ending.returned (.int .i64 (wE F n t j)) = .returned (.int .i64 r)) ∧ (r = 0 → (∀ i, i < j + 1 → wE F n t i = 0) ∧ Turned M W w2 b (wF F n t (j + 1))) ∧ (r ≠ 0 → r = saveE F n t ∧ Turned M W w2 b (saveF F n t)) := fun w2 ht3 =>
        ⟨_, rfl, fun h => ⟨fun i hi => by
          rcases Nat.lt_or_ge i j with h2 | h2
          · exact h1 i h2
          · obtain rfl : i = j := by omega
            exact h, ht3⟩, fun h => by
          obtain ⟨e1, e2⟩ := saved_at hj h1 h
          rw [e1, e2]; exact ⟨rfl, ht3⟩⟩
      rcases j6 j hj with rfl | rfl | rfl | rfl | rfl | rfl
      · refine (write1_any w' hf1 HG.out p0).mono ?_
        rintro e w2 ⟨rfl, ht2⟩
        exact fin w2 (Turned.trans hM1 ho ht2)
      · refine (write2_any w' p1).mono ?_
        rintro e w2 ⟨rfl, rfl⟩
        exact fin _ ⟨M1, hf1, hM1, ho⟩
      · refine (write3_any w' hf1 HG.out p0).mono ?_
        rintro e w2 ⟨rfl, ht2⟩
        exact fin w2 (Turned.trans hM1 ho ht2)
      · refine (write4_any w' hf1 HG.out.w3 p0 p2 HTT.out).mono ?_
        rintro e w2 ⟨rfl, ht2⟩
        exact fin w2 (Turned.trans hM1 ho ht2)
      · refine (write5_any w' hf1 (HG.out.w4 t) p0).mono ?_
        rintro e w2 ⟨rfl, ht2⟩
        exact fin w2 (Turned.trans hM1 ho ht2)
      · refine (write6_any w' hf1 (HG.out.w5 t) p0 p1).mono ?_
        rintro e w2 ⟨rfl, ht2⟩
        exact fin w2 (Turned.trans hM1 ho ht2))
    W ⟨fun i hi => by omega, Turned.below (H.out.below hbW) (Below.refl _ _)⟩
  have C2 := Lib.hid C1
  clear C1 z0 z1 z2 z3 z4 z5 y0 y1 y2 j6 nM
  (with_reducible refine C2.out.mono ?_); rintro e w3 ⟨r, rfl, hr⟩
  have hfin : r = saveE F n t ∧ Turned M W w3 b (saveF F n t) := by
    rcases hr with ⟨rfl, h1, h2⟩ | ⟨_, h⟩
    · obtain ⟨e1, e2⟩ := saved_ok h1
      rw [e1, e2]; exact ⟨rfl, h2⟩
    · exact h
  obtain ⟨he, ht⟩ := hfin
  have HE := Lib.hid he
  have HT : Hid (Turned M w w3 b (saveF F n t)) := Lib.hid (Turned.start hbW ht)
  clear hr he ht C2
  go_wp2_with fail
  go_ret
  exact ⟨by rw [HE.out]; rfl, HT.out⟩
end Go.Proofs.Ytmoaecicibjmnaa
