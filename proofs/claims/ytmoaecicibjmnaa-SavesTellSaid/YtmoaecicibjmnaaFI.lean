/- (*FS).do: a stroke whose work is done ahead of a crash. -/
import Derived.Test.YtmoaecicibjmnaaFH
namespace Go.Proofs.Ytmoaecicibjmnaa
open Go.RowKit

/-- What such a stroke leaves: F behind what it does. -/
def doneA (F : FR) : FR := if F.left = 0 then crashF F F.keep else if 0 < F.left then { F with left := F.left - 1 } else F
set_option maxHeartbeats 4000000 in
set_option maxRecDepth 100000 in
theorem do_first {M : Nat → Prop} {b : Nat} {F : FR} (w : World) (h : FSAt M w b F) (g : Nat) (cap : Array Value) (eg : ∀ args w, (callFunc g args).run Try.prog w = .ok (.enter g args) w) (F2 : FR) (hl2 : F2.left = F.left) (hG : Sound F2) (ho : F2.off = false)
    (ht : ∀ w1, Below w.heap.size w w1 → Calls Try.prog g cap w1 fun e w' => e = .returned (.tuple #[]) ∧ Turned M w1 w' b F2) :
    Calls Try.prog 56 #[.pointer (some ⟨b, 0, none⟩), .agg #[.func (.func g) #[] cap, .nilFunc]] w fun e w' => e = .returned (.int .i64 (if F2.left = 0 then 51 else 0)) ∧ Turned M w w' b (doneA F2) := by
  have hmf : ∀ (fn : Fn) (first cap : Array Value) (w : World), (Instr.makeFunc fn first cap).run Try.prog w = .ok (.func fn first cap) w := fun _ _ _ _ => rfl
  have hnq := nil_neq
  have hne := nil_eq
  obtain ⟨fv, kv, h⟩ := h
  have H := Lib.hid h
  have HG := Lib.hid hG
  have HT := Lib.hid ht
  have HL2 := Lib.hid hl2
  have c4 := h.box.c4
  have hbl := h.box.lt
  have nM : ∀ k, w.heap.size ≤ k → ¬ M k := fun k hk hm => by have := h.lt k hm; omega
  obtain ⟨l, hlv⟩ : ∃ l, l = F.left := ⟨_, rfl⟩
  have HV := Lib.hid (hl2.trans hlv.symm)
  rw [← hlv] at c4
  have d4 : ∀ oA oB oC, (((w.alloc oA).alloc oB).alloc oC).cell? ⟨b, 4, none⟩ = some (.int .i64 l) := fun oA oB oC => by
    rw [← c4]
    refine World.cell?_of_block ?_
    rw [heap_alloc, if_neg (by simp only [size_alloc]; omega), heap_alloc, if_neg (by simp only [size_alloc]; omega), heap_alloc, if_neg (by simp only; omega)]
  obtain ⟨R, hR⟩ : ∃ R, R = doneA F2 := ⟨_, rfl⟩
  have HR := Lib.hid hR
  obtain ⟨E, hE⟩ : ∃ E : Int, E = (if F2.left = 0 then 51 else 0) := ⟨_, rfl⟩
  have HE := Lib.hid hE
  rw [← hR, ← hE]
  obtain ⟨lz, hlz⟩ : ∃ lz, (l == 0) = lz := ⟨_, rfl⟩
  have HLZ := Lib.hid hlz
  clear h hG ht hl2 hlv hR hE c4
  go_enter_defers Try.func56, Try.ntmps56
  go_upto_region 2 with fail
  obtain ⟨W, hW, hb1, hs1, x2, x3, x4, x5⟩ := four w (.cells #[.pointer (some ⟨b, 0, none⟩)] 25) (.cells #[.func (.func g) #[] cap, .nilFunc] 96) (.cells #[.int .i64 0] 26) (.cells #[.bool lz] 4)
  rw [hW]
  have y2 := cell_at x2 0
  have y30 := cell_at x3 0
  have y31 := cell_at x3 1
  have y4 := cell_at x4 0
  have y5 := cell_at x5 0
  have z4 := free_at x4 0
  clear hW hlz
  go_wp2_with fail
  refine (HT.out W hb1).mono ?_; rintro e w2 ⟨rfl, ht2⟩
  obtain ⟨M', ⟨fv', kv', hf2⟩, hM', ho2⟩ := ht2
  have q2 := (ho2.cell (show w.heap.size < W.heap.size by omega) (nM _ (by omega)) 0).trans y2
  have q30 := (ho2.cell (show w.heap.size + 1 < W.heap.size by omega) (nM _ (by omega)) 0).trans y30
  have q31 := (ho2.cell (show w.heap.size + 1 < W.heap.size by omega) (nM _ (by omega)) 1).trans y31
  have q5 := (ho2.cell (show w.heap.size + 1 + 1 + 1 < W.heap.size by omega) (nM _ (by omega)) 0).trans y5
  have q4 := (ho2.cell (show w.heap.size + 1 + 1 < W.heap.size by omega) (nM _ (by omega)) 0).trans y4
  have p4 := (World.frozen?_of_block (a := ⟨w.heap.size + 1 + 1, 0, none⟩) (ho2.block (w.heap.size + 1 + 1) (by omega) (nM _ (by omega)))).trans z4
  have hs2 := ho2.size
  have HF := Lib.hid hf2
  have HO := Lib.hid ho2
  have HM := Lib.hid hM'
  clear hf2 ho2 hM' y30 y31 d4
  cases lz with
  | true =>
    go_wp2_with fail
    generalize hD : w2.setCell _ _ = Wd
    have e2 : Wd.cell? ⟨w.heap.size, 0, none⟩ = some (.pointer (some ⟨b, 0, none⟩)) := by rw [← hD, World.cell?_of_block (setCell_heap_other _ _ _ _ _ (by show w.heap.size ≠ w.heap.size + 1 + 1; omega))]; exact q2
    have e5 : Wd.cell? ⟨w.heap.size + 1 + 1 + 1, 0, none⟩ = some (.bool true) := by rw [← hD, World.cell?_of_block (setCell_heap_other _ _ _ _ _ (by show w.heap.size + 1 + 1 + 1 ≠ w.heap.size + 1 + 1; omega))]; exact q5
    have e4 : Wd.cell? ⟨w.heap.size + 1 + 1, 0, none⟩ = some (.int .i64 0) := by rw [← hD]; exact World.cell?_setCell_same _ _ _ q4
    have k4 : Wd.frozen? ⟨w.heap.size + 1 + 1, 0, none⟩ = false := by rw [← hD, World.frozen?_setCell]; exact p4
    have nM' : ∀ k, M' k → k ≠ w.heap.size + 1 + 1 := fun k hk => by rcases HM.out k hk with h | h; exact fun e => nM k (by omega) h; omega
    have hfd : FSIn M' Wd b F2 fv' kv' := by rw [← hD]; exact HF.out.eq (by rw [size_set]; exact Nat.le_refl _) fun k hk => setCell_heap_other _ _ _ _ _ (nM' k hk)
    have hod : Out M w Wd := by rw [← hD]; exact ((Out.of_below hb1).trans HO.out fun k hk => .inl hk).set (.inr (by omega)) _ _
    have hMd : ∀ k, M' k → M k ∨ w.heap.size ≤ k := fun k hk => (HM.out k hk).imp id fun h => by omega
    refine leaves_cons (f := 95) (args := #[.pointer (some ⟨w.heap.size, 0, none⟩), .pointer (some ⟨w.heap.size + 1 + 1 + 1, 0, none⟩), .pointer (some ⟨w.heap.size + 1 + 1, 0, none⟩)]) (by simp) (by simp [go_sem]) ?_
    have c4 := hfd.box.c4
    by_cases hz : F2.left = 0
    · refine (do1_fail .returning Wd hfd HG.out ho HG.out.kl hz e2 e5 e4 k4 (fun hm => nM' _ hm rfl)).mono ?_
      rintro e u' w3 ⟨rfl, rfl, h51, hf3, ho3⟩
      have hT : Turned M w w3 b (crashF F2 F2.keep) := ⟨M', ⟨fv', kv', hf3⟩, hMd, hod.trans ho3 (fun k hk => hk.elim (hMd k) fun e => .inr (by omega))⟩
      have e7 : R = crashF F2 F2.keep := by rw [HR.out, doneA, if_pos hz]
      have e8 : E = 51 := by rw [HE.out, if_pos hz]
      rw [← e7] at hT
      have HT3 := Lib.hid hT
      clear hT e7 hf3 ho3
      simp [Leaves, settle, results, Try.results56, go_sem, h51, HT3.out, e8]
    · exact absurd (by have := HLZ.out; rw [← HV.out] at this; simpa using this) hz
  | false =>
    go_wp2_with fail
    generalize hD : w2.setCell _ _ = Wd
    have e2 : Wd.cell? ⟨w.heap.size, 0, none⟩ = some (.pointer (some ⟨b, 0, none⟩)) := by rw [← hD, World.cell?_of_block (setCell_heap_other _ _ _ _ _ (by show w.heap.size ≠ w.heap.size + 1 + 1; omega))]; exact q2
    have e5 : Wd.cell? ⟨w.heap.size + 1 + 1 + 1, 0, none⟩ = some (.bool false) := by rw [← hD, World.cell?_of_block (setCell_heap_other _ _ _ _ _ (by show w.heap.size + 1 + 1 + 1 ≠ w.heap.size + 1 + 1; omega))]; exact q5
    have e4 : Wd.cell? ⟨w.heap.size + 1 + 1, 0, none⟩ = some (.int .i64 0) := by rw [← hD]; exact World.cell?_setCell_same _ _ _ q4
    have k4 : Wd.frozen? ⟨w.heap.size + 1 + 1, 0, none⟩ = false := by rw [← hD, World.frozen?_setCell]; exact p4
    have nM' : ∀ k, M' k → k ≠ w.heap.size + 1 + 1 := fun k hk => by rcases HM.out k hk with h | h; exact fun e => nM k (by omega) h; omega
    have hfd : FSIn M' Wd b F2 fv' kv' := by rw [← hD]; exact HF.out.eq (by rw [size_set]; exact Nat.le_refl _) fun k hk => setCell_heap_other _ _ _ _ _ (nM' k hk)
    have hod : Out M w Wd := by rw [← hD]; exact ((Out.of_below hb1).trans HO.out fun k hk => .inl hk).set (.inr (by omega)) _ _
    have hMd : ∀ k, M' k → M k ∨ w.heap.size ≤ k := fun k hk => (HM.out k hk).imp id fun h => by omega
    refine leaves_cons (f := 95) (args := #[.pointer (some ⟨w.heap.size, 0, none⟩), .pointer (some ⟨w.heap.size + 1 + 1 + 1, 0, none⟩), .pointer (some ⟨w.heap.size + 1 + 1, 0, none⟩)]) (by simp) (by simp [go_sem]) ?_
    have c4 := hfd.box.c4
    by_cases hz : F2.left = 0
    · exact absurd hz (by have := HLZ.out; rw [← HV.out] at this; simpa using this)
    · have e8 : E = 0 := by rw [HE.out, if_neg hz]
      by_cases hp : 0 < F2.left
      · refine (do1_count .returning Wd e2 e5 c4 (hfd.box.free 4) hp HG.out.lf).mono ?_
        rintro e u' w3 ⟨rfl, rfl, rfl⟩
        have hbn : b ≠ w.heap.size + 1 + 1 := nM' b hfd.mb
        have e6 : (Wd.setCell ⟨b, 4, none⟩ (.int .i64 (F2.left - 1))).cell? ⟨w.heap.size + 1 + 1, 0, none⟩ = some (.int .i64 0) := by rw [World.cell?_of_block (setCell_heap_other _ _ _ _ _ (Ne.symm hbn))]; exact e4
        have hT : Turned M w (Wd.setCell ⟨b, 4, none⟩ (.int .i64 (F2.left - 1))) b { F2 with left := F2.left - 1 } := by
          refine ⟨M', ⟨fv', kv', ?_⟩, hMd, hod.set (hMd b hfd.mb) _ _⟩
          exact hfd.turn _ rfl (hfd.box.s4 _) (own_eq hfd.own fun k hk => setCell_heap_other _ _ _ _ _ (hfd.mf k hk).2) (by rw [size_set]; exact Nat.le_refl _) fun c _ hc _ => setCell_heap_other _ _ _ _ _ hc
        have e7 : R = { F2 with left := F2.left - 1 } := by rw [HR.out, doneA, if_neg hz, if_pos hp]
        rw [← e7] at hT
        have HT3 := Lib.hid hT
        clear hT e7
        simp [Leaves, settle, results, Try.results56, go_sem, e6, HT3.out, e8]
      · refine (do1_none .returning Wd e2 e5 c4 hp).mono ?_
        rintro e u' w3 ⟨rfl, rfl, rfl⟩
        have hT : Turned M w w3 b F2 := ⟨M', ⟨fv', kv', hfd⟩, hMd, hod⟩
        have e7 : R = F2 := by rw [HR.out, doneA, if_neg hz, if_neg hp]
        rw [← e7] at hT
        have HT3 := Lib.hid hT
        clear hT e7
        simp [Leaves, settle, results, Try.results56, go_sem, e4, HT3.out, e8]
end Go.Proofs.Ytmoaecicibjmnaa
