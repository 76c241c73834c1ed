/- (*FS).do: a stroke. -/
import Derived.Test.YtmoaecicibjmnaaFG
namespace Go.Proofs.Ytmoaecicibjmnaa
open Go.RowKit

/-- What a stroke leaves: F ahead of it, F2 behind what it does. -/
def doneF (F F2 : FR) : FR := if F.left = 0 then crashF F F.keep else if 0 < F.left then { F2 with left := F.left - 1 } else F2
theorem nil_neq (f : Fn) (x c : Array Value) (w : World) : (binOp .neq 1 (.func f x c) .nilFunc).run Try.prog w = .ok (.bool true) w := by kernel_rfl
theorem nil_eq (w : World) : (binOp .neq 1 .nilFunc .nilFunc).run Try.prog w = .ok (.bool false) w := by kernel_rfl
/-- Four new blocks of a stroke. -/
theorem four (w : World) (oA oB oC oD : Obj) : ∃ W, ((((w.alloc oA).alloc oB).alloc oC).alloc oD) = W ∧ Below w.heap.size w W ∧ W.heap.size = w.heap.size + 4 ∧ W.heap[w.heap.size]? = some oA ∧ W.heap[w.heap.size + 1]? = some oB ∧ W.heap[w.heap.size + 1 + 1]? = some oC ∧ W.heap[w.heap.size + 1 + 1 + 1]? = some oD := by
  refine ⟨_, rfl, ?_, by simp only [size_alloc], ?_, ?_, ?_, ?_⟩
  · exact ((((Below.refl _ _).alloc (Nat.le_refl _) oA).alloc (by rw [size_alloc]; omega) oB).alloc (by rw [size_alloc, size_alloc]; omega) oC).alloc (by rw [size_alloc, size_alloc, size_alloc]; omega) oD
  · rw [heap_alloc, if_neg (by simp only [size_alloc]; omega), heap_alloc, if_neg (by simp only [size_alloc]; omega), heap_alloc, if_neg (by simp only [size_alloc]; omega), heap_alloc, if_pos rfl]
  · rw [heap_alloc, if_neg (by simp only [size_alloc]; omega), heap_alloc, if_neg (by simp only [size_alloc]; omega), heap_alloc, if_pos (by simp only [size_alloc])]
  · rw [heap_alloc, if_neg (by simp only [size_alloc]; omega), heap_alloc, if_pos (by simp only [size_alloc])]
  · rw [heap_alloc, if_pos (by simp only [size_alloc])]
theorem cell_at {w : World} {b : Nat} {cur : Array Value} {t : TypeId} (h : w.heap[b]? = some (.cells cur t (0, 0))) (k : Nat) : w.cell? ⟨b, k, none⟩ = cur[k]? := by
  unfold World.cell?; rw [h]; rfl
theorem free_at {w : World} {b : Nat} {cur : Array Value} {t : TypeId} (h : w.heap[b]? = some (.cells cur t (0, 0))) (k : Nat) : w.frozen? ⟨b, k, none⟩ = false := by
  unfold World.frozen?; rw [h]; simp
set_option maxHeartbeats 4000000 in
set_option maxRecDepth 100000 in
theorem do_then {M : Nat → Prop} {b : Nat} {F : FR} (w : World) (h : FSAt M w b F) (hG : Sound F) (ho : F.off = false) (g : Nat) (cap : Array Value) (eg : ∀ args w, (callFunc g args).run Try.prog w = .ok (.enter g args) w) (F2 : FR) (hl2 : F2.left = F.left)
    (ht : F.left ≠ 0 → ∀ w1, Below w.heap.size w w1 → Calls Try.prog g cap w1 fun e w' => e = .returned (.tuple #[]) ∧ Turned M w1 w' b F2) :
    Calls Try.prog 56 #[.pointer (some ⟨b, 0, none⟩), .agg #[.nilFunc, .func (.func g) #[] cap]] w fun e w' => e = .returned (.int .i64 (if F.left = 0 then 51 else 0)) ∧ Turned M w w' b (doneF F F2) := by
  have hmf : ∀ (fn : Fn) (first cap : Array Value) (w : World), (Instr.makeFunc fn first cap).run Try.prog w = .ok (.func fn first cap) w := fun _ _ _ _ => rfl
  have hnq := nil_neq
  have hne := nil_eq
  obtain ⟨fv, kv, h⟩ := h
  have H := Lib.hid h
  have HG := Lib.hid hG
  have c4 := h.box.c4
  have hbl := h.box.lt
  by_cases hl : F.left = 0
  · rw [hl] at c4
    rw [if_pos hl, show doneF F F2 = crashF F F.keep by unfold doneF; rw [if_pos hl]]
    have HL := Lib.hid hl
    have d4 : ∀ oA oB oC, (((w.alloc oA).alloc oB).alloc oC).cell? ⟨b, 4, none⟩ = some (.int .i64 0) := fun oA oB oC => by
      rw [← c4]
      refine World.cell?_of_block ?_
      rw [heap_alloc, if_neg (by simp only [size_alloc]; omega), heap_alloc, if_neg (by simp only [size_alloc]; omega), heap_alloc, if_neg (by simp only; omega)]
    clear h hG ht hl2 hl
    go_enter_defers Try.func56, Try.ntmps56
    go_upto_region 2 with fail
    obtain ⟨W, hW, hb1, hs1, x2, x3, x4, x5⟩ := four w (.cells #[.pointer (some ⟨b, 0, none⟩)] 25) (.cells #[.nilFunc, .func (.func g) #[] cap] 96) (.cells #[.int .i64 0] 26) (.cells #[.bool true] 4)
    rw [hW]
    have y2 := cell_at x2 0
    have y30 := cell_at x3 0
    have y31 := cell_at x3 1
    have y4 := cell_at x4 0
    have y5 := cell_at x5 0
    have z4 := free_at x4 0
    clear hW
    go_wp2_with fail
    generalize hD : W.setCell _ _ = Wd
    have hbd : Below w.heap.size w Wd := by rw [← hD]; exact hb1.setCell (p := ⟨w.heap.size + 1 + 1, 0, none⟩) (by show w.heap.size ≤ w.heap.size + 1 + 1; omega) _
    have e2 : Wd.cell? ⟨w.heap.size, 0, none⟩ = some (.pointer (some ⟨b, 0, none⟩)) := by rw [← hD, World.cell?_of_block (setCell_heap_other _ _ _ _ _ (by show w.heap.size ≠ w.heap.size + 1 + 1; omega))]; exact y2
    have e5 : Wd.cell? ⟨w.heap.size + 1 + 1 + 1, 0, none⟩ = some (.bool true) := by rw [← hD, World.cell?_of_block (setCell_heap_other _ _ _ _ _ (by show w.heap.size + 1 + 1 + 1 ≠ w.heap.size + 1 + 1; omega))]; exact y5
    have e4 : Wd.cell? ⟨w.heap.size + 1 + 1, 0, none⟩ = some (.int .i64 0) := by rw [← hD]; exact World.cell?_setCell_same _ _ _ y4
    have k4 : Wd.frozen? ⟨w.heap.size + 1 + 1, 0, none⟩ = false := by rw [← hD, World.frozen?_setCell]; exact z4
    refine leaves_cons (f := 95) (args := #[.pointer (some ⟨w.heap.size, 0, none⟩), .pointer (some ⟨w.heap.size + 1 + 1 + 1, 0, none⟩), .pointer (some ⟨w.heap.size + 1 + 1, 0, none⟩)]) (by simp) (by simp [go_sem]) ?_
    refine (do1_fail .returning Wd (H.out.below hbd) HG.out ho HG.out.kl HL.out e2 e5 e4 k4 (fun hm => by have := H.out.lt _ hm; omega)).mono ?_
    rintro e u' w3 ⟨rfl, rfl, h51, hf3, ho3⟩
    have hT : Turned M w w3 b (crashF F F.keep) := ⟨M, ⟨fv, kv, hf3⟩, fun k hk => .inl hk, (Out.of_below hbd).trans ho3 (fun k hk => hk.elim .inl fun e => .inr (by omega))⟩
    have HT := Lib.hid hT
    clear hT hf3 ho3
    simp [Leaves, settle, results, Try.results56, go_sem, h51, HT.out]
  · have hlz : (F.left == 0) = false := by simpa using hl
    rw [if_neg hl]
    obtain ⟨R, hR⟩ : ∃ R, R = doneF F F2 := ⟨_, rfl⟩
    rw [← hR]
    unfold doneF at hR
    rw [if_neg hl] at hR
    have HR := Lib.hid hR
    clear hR
    have HT := Lib.hid (ht hl)
    have HL2 := Lib.hid hl2
    obtain ⟨l, hlv⟩ : ∃ l, l = F.left := ⟨_, rfl⟩
    have HV := Lib.hid hlv
    rw [← hlv] at c4 hlz
    have d4 : ∀ oA oB oC, (((w.alloc oA).alloc oB).alloc oC).cell? ⟨b, 4, none⟩ = some (.int .i64 l) := fun oA oB oC => by
      rw [← c4]
      refine World.cell?_of_block ?_
      rw [heap_alloc, if_neg (by simp only [size_alloc]; omega), heap_alloc, if_neg (by simp only [size_alloc]; omega), heap_alloc, if_neg (by simp only; omega)]
    clear h hG ht hl2 hl hlv
    go_enter_defers Try.func56, Try.ntmps56
    go_upto_region 2 with fail
    obtain ⟨W, hW, hb1, hs1, x2, x3, x4, x5⟩ := four w (.cells #[.pointer (some ⟨b, 0, none⟩)] 25) (.cells #[.nilFunc, .func (.func g) #[] cap] 96) (.cells #[.int .i64 0] 26) (.cells #[.bool false] 4)
    rw [hW]
    have y2 := cell_at x2 0
    have y30 := cell_at x3 0
    have y31 := cell_at x3 1
    have y4 := cell_at x4 0
    have y5 := cell_at x5 0
    have z4 := free_at x4 0
    clear hW
    go_wp2_with fail
    refine (HT.out W hb1).mono ?_; rintro e w2 ⟨rfl, ht2⟩
    obtain ⟨M', ⟨fv', kv', hf2⟩, hM', ho2⟩ := ht2
    have nM : ∀ k, w.heap.size ≤ k → ¬ M k := fun k hk hm => by have := H.out.lt k hm; omega
    have q2 := (ho2.cell (show w.heap.size < W.heap.size by omega) (nM _ (by omega)) 0).trans y2
    have q5 := (ho2.cell (show w.heap.size + 1 + 1 + 1 < W.heap.size by omega) (nM _ (by omega)) 0).trans y5
    have q4 := (ho2.cell (show w.heap.size + 1 + 1 < W.heap.size by omega) (nM _ (by omega)) 0).trans y4
    have p4 := (World.frozen?_of_block (a := ⟨w.heap.size + 1 + 1, 0, none⟩) (ho2.block (w.heap.size + 1 + 1) (by omega) (nM _ (by omega)))).trans z4
    have hs2 := ho2.size
    have HF := Lib.hid hf2
    have HO := Lib.hid ho2
    have HM := Lib.hid hM'
    clear hf2 ho2 hM' y30 y31 d4 c4
    go_wp2_with fail
    generalize hD : w2.setCell _ _ = Wd
    have e2 : Wd.cell? ⟨w.heap.size, 0, none⟩ = some (.pointer (some ⟨b, 0, none⟩)) := by rw [← hD, World.cell?_of_block (setCell_heap_other _ _ _ _ _ (by show w.heap.size ≠ w.heap.size + 1 + 1; omega))]; exact q2
    have e5 : Wd.cell? ⟨w.heap.size + 1 + 1 + 1, 0, none⟩ = some (.bool false) := by rw [← hD, World.cell?_of_block (setCell_heap_other _ _ _ _ _ (by show w.heap.size + 1 + 1 + 1 ≠ w.heap.size + 1 + 1; omega))]; exact q5
    have e4 : Wd.cell? ⟨w.heap.size + 1 + 1, 0, none⟩ = some (.int .i64 0) := by rw [← hD]; exact World.cell?_setCell_same _ _ _ q4
    have nM' : ∀ k, M' k → k ≠ w.heap.size + 1 + 1 := fun k hk => by rcases HM.out k hk with h | h; exact fun e => nM k (by omega) h; omega
    have hfd : FSIn M' Wd b F2 fv' kv' := by rw [← hD]; exact HF.out.eq (by rw [size_set]; exact Nat.le_refl _) fun k hk => setCell_heap_other _ _ _ _ _ (nM' k hk)
    have hod : Out M w Wd := by rw [← hD]; exact ((Out.of_below hb1).trans HO.out fun k hk => .inl hk).set (.inr (by omega)) _ _
    have hMd : ∀ k, M' k → M k ∨ w.heap.size ≤ k := fun k hk => (HM.out k hk).imp id fun h => by omega
    refine leaves_cons (f := 95) (args := #[.pointer (some ⟨w.heap.size, 0, none⟩), .pointer (some ⟨w.heap.size + 1 + 1 + 1, 0, none⟩), .pointer (some ⟨w.heap.size + 1 + 1, 0, none⟩)]) (by simp) (by simp [go_sem]) ?_
    have c4 := hfd.box.c4
    by_cases hp : 0 < F.left
    · refine (do1_count .returning Wd e2 e5 c4 (hfd.box.free 4) (by rw [HL2.out]; exact hp) (by rw [HL2.out]; exact HG.out.lf)).mono ?_
      rintro e u' w3 ⟨rfl, rfl, rfl⟩
      have hbn : b ≠ w.heap.size + 1 + 1 := nM' b hfd.mb
      have e6 : (Wd.setCell ⟨b, 4, none⟩ (.int .i64 (F2.left - 1))).cell? ⟨w.heap.size + 1 + 1, 0, none⟩ = some (.int .i64 0) := by rw [World.cell?_of_block (setCell_heap_other _ _ _ _ _ (Ne.symm hbn))]; exact e4
      have hT : Turned M w (Wd.setCell ⟨b, 4, none⟩ (.int .i64 (F2.left - 1))) b { F2 with left := F.left - 1 } := by
        refine ⟨M', ⟨fv', kv', ?_⟩, hMd, hod.set (hMd b hfd.mb) _ _⟩
        rw [HL2.out]
        exact hfd.turn _ rfl (hfd.box.s4 _) (own_eq hfd.own fun k hk => setCell_heap_other _ _ _ _ _ (hfd.mf k hk).2) (by rw [size_set]; exact Nat.le_refl _) fun c _ hc _ => setCell_heap_other _ _ _ _ _ hc
      have e7 : R = { F2 with left := F.left - 1 } := by rw [HR.out, if_pos hp]
      rw [← e7] at hT
      have HT3 := Lib.hid hT
      clear hT e7
      simp [Leaves, settle, results, Try.results56, go_sem, e6, HT3.out]
    · refine (do1_none .returning Wd e2 e5 c4 (by rw [HL2.out]; exact hp)).mono ?_
      rintro e u' w3 ⟨rfl, rfl, rfl⟩
      have hT : Turned M w w3 b F2 := ⟨M', ⟨fv', kv', hfd⟩, hMd, hod⟩
      have e7 : R = F2 := by rw [HR.out, if_neg hp]
      rw [← e7] at hT
      have HT3 := Lib.hid hT
      clear hT e7
      simp [Leaves, settle, results, Try.results56, go_sem, e4, HT3.out]
end Go.Proofs.Ytmoaecicibjmnaa
