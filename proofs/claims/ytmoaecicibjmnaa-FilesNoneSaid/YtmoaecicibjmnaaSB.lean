/- saves: Load. -/
import Derived.Test.YtmoaecicibjmnaaSA
namespace Go.Proofs.Ytmoaecicibjmnaa
open Go.RowKit

theorem three (w : World) (oA oB oC : Obj) : ∃ W, ((w.alloc oA).alloc oB).alloc oC = W ∧ Below w.heap.size w W ∧ W.heap.size = w.heap.size + 3 ∧ W.heap[w.heap.size]? = some oA ∧ W.heap[w.heap.size + 1]? = some oB ∧ W.heap[w.heap.size + 1 + 1]? = some oC := by
  refine ⟨_, rfl, ?_, by simp only [size_alloc], ?_, ?_, ?_⟩
  · exact (((Below.refl _ _).alloc (Nat.le_refl _) oA).alloc (by rw [size_alloc]; omega) oB).alloc (by rw [size_alloc, size_alloc]; omega) oC
  · rw [heap_alloc, if_neg (by simp only [size_alloc]; omega), heap_alloc, if_neg (by simp only [size_alloc]; omega), heap_alloc, if_pos rfl]
  · rw [heap_alloc, if_neg (by simp only [size_alloc]; omega), heap_alloc, if_pos (by simp only [size_alloc])]
  · rw [heap_alloc, if_pos (by simp only [size_alloc])]
set_option maxRecDepth 100000 in
theorem load1_any {M : Nat → Prop} {b p : Nat} {F : FR} (w : World) (h : FSAt M w b F) (hG : Sound F) (hp : w.cell? ⟨p, 0, none⟩ = some (.pointer (some ⟨b, 0, none⟩))) :
    Calls Try.prog 77 #[.pointer (some ⟨p, 0, none⟩)] w fun e w' => e = .returned (.int .i64 (onE F)) ∧ Turned M w w' b F := by
  have C1 := Lib.hid (son_any w h hG)
  generalize onE F = E at *
  clear h hG
  go_enter Try.func77, Try.ntmps77
  go_wp2_with fail
  (with_reducible refine C1.out.mono ?_); rintro e w2 ⟨rfl, ht⟩
  have HT := Lib.hid ht
  clear ht
  go_wp2_with fail
  go_ret
  exact ⟨rfl, HT.out⟩
set_option maxRecDepth 100000 in
theorem load2_any {p : Nat} {n : ByteArray} (w : World) (hp : w.cell? ⟨p, 0, none⟩ = some (.string n)) :
    Calls Try.prog 79 #[.pointer (some ⟨p, 0, none⟩)] w fun e w' => e = .returned (.int .i64 (nameE n)) ∧ w' = w := by
  have C1 := Lib.hid (snamed_any w n)
  generalize nameE n = E at *
  go_enter Try.func79, Try.ntmps79
  go_wp2_with fail
  (with_reducible refine C1.out.mono ?_); rintro e w2 ⟨rfl, rfl⟩
  go_wp2_with fail
  go_ret
  exact ⟨rfl, rfl⟩
def loadE (F : FR) (n : ByteArray) : Int := if F.off = true then 51 else if badN n then 2 else hasE F n
def loadS (F : FR) (n : ByteArray) : ByteArray := if loadE F n = 0 then readS F n else ⟨#[]⟩
theorem Turned.re {M : Nat → Prop} {w a w' : World} {b : Nat} {F F' : FR} (h : Turned M w a b F) (h2 : ∀ K, FSAt K a b F → Turned K a w' b F') : Turned M w w' b F' := by
  obtain ⟨M1, hf, hM, ho⟩ := h
  exact Turned.trans hM ho (h2 M1 hf)
theorem Turned.later {M : Nat → Prop} {w a w' : World} {b : Nat} {F : FR} (h : Turned M w a b F) (hb : Below a.heap.size a w') : Turned M w w' b F := by
  obtain ⟨M1, hf, hM, ho⟩ := h
  exact ⟨M1, hf.below hb, hM, ho.trans (Out.of_below hb) (fun _ hk => .inl hk)⟩
theorem Turned.start {M : Nat → Prop} {w W w' : World} {b : Nat} {F : FR} (hb : Below w.heap.size w W) (h : Turned M W w' b F) : Turned M w w' b F :=
  Turned.trans (fun _ hk => .inl hk) (Out.of_below hb) h
set_option maxRecDepth 100000 in
set_option maxHeartbeats 4000000 in
theorem load_any {M : Nat → Prop} {b : Nat} {F : FR} (w : World) (h : FSAt M w b F) (hG : Sound F) (n : ByteArray) :
    Calls Try.prog 37 #[.pointer (some ⟨b, 0, none⟩), .string n] w fun e w' => e = .returned (.tuple #[.string (loadS F n), .int .i64 (loadE F n)]) ∧ Turned M w w' b F := by
  have H := Lib.hid h
  have HG := Lib.hid hG
  clear h hG
  go_enter Try.func37, Try.ntmps37
  have hmf : ∀ (fn : Fn) (first cap : Array Value) (w : World), (Instr.makeFunc fn first cap).run Try.prog w = .ok (.func fn first cap) w := fun _ _ _ _ => rfl
  go_wp2_with fail
  obtain ⟨W, hW, hbW, hsW, x0, x1, x2⟩ := three w (.cells #[.pointer (some ⟨b, 0, none⟩)] 25) (.cells #[.string n] 9) (.cells #[.func (.func 77) #[] #[.pointer (some ⟨w.heap.size, 0, none⟩)], .func (.func 79) #[] #[.pointer (some ⟨w.heap.size + 1, 0, none⟩)]] 44)
  rw [hW]
  have y0 := cell_at x0 0
  have y1 := cell_at x1 0
  have z0 := cell_at x2 0
  have z1 := cell_at x2 1
  clear hW x0 x1 x2
  have nM : ∀ k, w.heap.size ≤ k → ¬ M k := fun k hk hm => by have := H.out.lt k hm; omega
  have C1 := row_any (n := 2) (b0 := w.heap.size + 1 + 1) (c := 2) (by omega) (fun j => if j = 0 then 77 else 79) (fun j => if j = 0 then #[.pointer (some ⟨w.heap.size, 0, none⟩)] else #[.pointer (some ⟨w.heap.size + 1, 0, none⟩)])
    (fun j w' => (1 ≤ j → onE F = 0) ∧ (2 ≤ j → nameE n = 0) ∧ Turned M W w' b F) (fun r w' => (r = if onE F = 0 then nameE n else onE F) ∧ Turned M W w' b F)
    (fun j hj args w => by
      rcases (show j = 0 ∨ j = 1 by omega) with rfl | rfl
      · exact enters_of Try.func77 (by kernel_rfl) rfl args w
      · exact enters_of Try.func79 (by kernel_rfl) rfl args w)
    (fun j w' hj hI => by
      obtain ⟨_, _, _, _, _, ho⟩ := hI
      have e := fun i => ho.cell (show w.heap.size + 1 + 1 < W.heap.size by omega) (nM _ (by omega)) i
      rcases (show j = 0 ∨ j = 1 by omega) with rfl | rfl
      · exact (e 0).trans z0
      · exact (e 1).trans z1)
    (fun j w' hj hI => by
      obtain ⟨h1, _, ht⟩ := hI
      obtain ⟨M1, hf1, hM1, ho⟩ := ht
      rcases (show j = 0 ∨ j = 1 by omega) with rfl | rfl
      · refine (load1_any w' hf1 HG.out ((ho.cell (show w.heap.size < W.heap.size by omega) (nM _ (by omega)) 0).trans y0)).mono ?_
        rintro e w2 ⟨rfl, ht2⟩
        have ht3 := Turned.trans hM1 ho ht2
        refine ⟨_, rfl, fun h => ⟨fun _ => h, fun h => by omega, ht3⟩, fun h => ⟨by rw [if_neg h], ht3⟩⟩
      · refine (load2_any w' ((ho.cell (show w.heap.size + 1 < W.heap.size by omega) (nM _ (by omega)) 0).trans y1)).mono ?_
        rintro e w2 ⟨rfl, rfl⟩
        exact ⟨_, rfl, fun h => ⟨fun _ => h1 (Nat.le_refl _), fun _ => h, M1, hf1, hM1, ho⟩, fun h => ⟨by rw [if_pos (h1 (Nat.le_refl _))], M1, hf1, hM1, ho⟩⟩)
    W ⟨fun h => by omega, fun h => by omega, Turned.below (H.out.below hbW) (Below.refl _ _)⟩
  have C2 := Lib.hid C1
  clear C1 z0 z1
  (with_reducible refine C2.out.mono ?_); rintro e w3 ⟨r, rfl, hr⟩
  rcases hr with ⟨rfl, h1, h2, M3, hf3, hM3, ho3⟩ | ⟨hr, he, ht⟩
  · have hon : ¬ F.off = true := fun e => by have := h1 (by omega); unfold onE at this; rw [if_pos e] at this; omega
    have hbad : ¬ badN n := fun e => by have := h2 (by omega); unfold nameE at this; rw [if_pos e] at this; omega
    have hE : loadE F n = hasE F n := by unfold loadE; rw [if_neg hon, if_neg hbad]
    have hS : loadS F n = readS F n := by
      unfold loadS; rw [hE]
      by_cases hh : hasE F n = 0
      · rw [if_pos hh]
      · rw [if_neg hh]; unfold readS; rw [if_neg hh]; rfl
    have q0 := (ho3.cell (show w.heap.size < W.heap.size by omega) (nM _ (by omega)) 0).trans y0
    have q1 := (ho3.cell (show w.heap.size + 1 < W.heap.size by omega) (nM _ (by omega)) 0).trans y1
    have CR := read_any hf3 HG.out n
    rw [← hE, ← hS] at CR
    have CR1 := Lib.hid CR
    have HT : Hid (Turned M w w3 b F) := Lib.hid (Turned.start hbW ⟨M3, hf3, hM3, ho3⟩)
    generalize hE1 : loadE F n = E at *
    generalize hS1 : loadS F n = S at *
    have HE1 := Lib.hid hE1
    have HS1 := Lib.hid hS1
    clear hE1 hS1
    clear CR hE hS hon hbad h1 h2 hf3 hM3 ho3 y0 y1 C2
    go_wp2_with fail
    (with_reducible refine CR1.out.mono ?_); rintro e w4 ⟨rfl, hb4⟩
    go_wp2_with fail
    go_ret2
    exact ⟨by rw [HE1.out, HS1.out]; rfl, HT.out.later hb4⟩
  · have hE : loadE F n = r := by
      rw [he]; unfold loadE onE nameE
      by_cases ho : F.off = true
      · rw [if_pos ho, if_pos ho, if_neg (by omega)]
      · rw [if_neg ho, if_neg ho, if_pos rfl]
        by_cases hb : badN n
        · rw [if_pos hb, if_pos hb]
        · exfalso; apply hr; rw [he]; unfold onE nameE; rw [if_neg ho, if_pos rfl, if_neg hb]
    have hS : loadS F n = ⟨#[]⟩ := by unfold loadS; rw [hE, if_neg hr]
    have HE := Lib.hid hE
    have HS := Lib.hid hS
    have HT : Hid (Turned M w w3 b F) := Lib.hid (Turned.start hbW ht)
    clear hE hS he ht C2
    go_wp2_with fail
    go_ret2
    exact ⟨by rw [HE.out, HS.out]; rfl, HT.out⟩
end Go.Proofs.Ytmoaecicibjmnaa
