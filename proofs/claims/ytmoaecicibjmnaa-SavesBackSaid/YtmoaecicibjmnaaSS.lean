/- SavesBack: the walk. -/
import Derived.Test.YtmoaecicibjmnaaSR
import Derived.Test.YtmoaecicibjmnaaSD
namespace Go.Proofs.Ytmoaecicibjmnaa
open Go.RowKit

/-- Two pairs in boxes. -/
theorem two_pairs (w : World) (a b c d : Value) (t : TypeId) : ∃ W, (w.alloc (.cells #[a, b] t)).alloc (.cells #[c, d] t) = W ∧ Below w.heap.size w W ∧ W.heap.size = w.heap.size + 1 + 1 ∧
    W.cell? ⟨w.heap.size, 0, none⟩ = some a ∧ W.cell? ⟨w.heap.size, 1, none⟩ = some b ∧ W.cell? ⟨w.heap.size + 1, 0, none⟩ = some c ∧ W.cell? ⟨w.heap.size + 1, 1, none⟩ = some d ∧ ∀ i, W.frozen? ⟨w.heap.size + 1, i, none⟩ = false := by
  have e0 : ((w.alloc (.cells #[a, b] t)).alloc (.cells #[c, d] t)).heap[w.heap.size]? = some (.cells #[a, b] t (0, 0)) := by
    rw [heap_alloc, if_neg (by rw [size_alloc]; omega), heap_alloc, if_pos rfl]
  have e1 : ((w.alloc (.cells #[a, b] t)).alloc (.cells #[c, d] t)).heap[w.heap.size + 1]? = some (.cells #[c, d] t (0, 0)) := by
    rw [heap_alloc, if_pos (by rw [size_alloc])]
  exact ⟨_, rfl, ((Below.refl _ _).alloc (Nat.le_refl _) _).alloc (by rw [size_alloc]; omega) _, by simp only [size_alloc], cell_at e0 0, cell_at e0 1, cell_at e1 0, cell_at e1 1, fun i => free_at e1 i⟩

set_option maxRecDepth 100000 in
set_option maxHeartbeats 8000000 in
theorem savesBack_walk (n0 n1 t0 t1 : ByteArray) (kv : Value) (keep : List Int) (w : World) (hk : IntsIn (fun k => k < w.heap.size) w kv keep)
    (b0 : n0.size ≤ 9223372036854775807) (b1 : n1.size ≤ 9223372036854775807) (b2 : t0.size ≤ 9223372036854775807) (b3 : t1.size ≤ 9223372036854775807) (hkl : keep.length ≤ 9223372036854775807) :
    Calls Try.prog 10 #[.agg #[.string n0, .string n1], .agg #[.string t0, .string t1], kv] w fun e w' => e = .returned (.bool true) ∧ Below w.heap.size w w' := by
  have HK := Lib.hid hk
  obtain ⟨ka, kc, rfl⟩ := hk.val
  clear hk
  go_enter Try.func10, Try.ntmps10
  go_upto_region 1 with fail
  obtain ⟨W, hW, hbW, hsW, q0, q1, r0, r1, fz⟩ := two_pairs w (.string n0) (.string n1) (.string t0) (.string t1) 39
  rw [hW]
  clear hW
  by_cases h1 : 3000 < t0.size
  · go_wp2_with fail
    go_ret
    exact ⟨rfl, hbW⟩
  by_cases h2 : 3000 < t1.size
  · go_wp2_with fail
    go_ret
    exact ⟨rfl, hbW⟩
  by_cases h3 : 100 < n0.size
  · go_wp2_with fail
    go_ret
    exact ⟨rfl, hbW⟩
  by_cases h4 : 100 < n1.size
  · go_wp2_with fail
    go_ret
    exact ⟨rfl, hbW⟩
  by_cases h5 : 60 < keep.length
  · go_wp2_with fail
    go_ret
    exact ⟨rfl, hbW⟩
  have hC : ∀ wx, Below W.heap.size W wx → wx.cell? ⟨w.heap.size, 0, none⟩ = some (.string n0) ∧ wx.cell? ⟨w.heap.size, 1, none⟩ = some (.string n1) ∧ wx.cell? ⟨w.heap.size + 1, 0, none⟩ = some (.string t0) ∧ wx.cell? ⟨w.heap.size + 1, 1, none⟩ = some (.string t1) := fun wx hb =>
    ⟨(hb.cell (p := ⟨w.heap.size, 0, none⟩) (by show w.heap.size < _; omega)).trans q0, (hb.cell (p := ⟨w.heap.size, 1, none⟩) (by show w.heap.size < _; omega)).trans q1, (hb.cell (p := ⟨w.heap.size + 1, 0, none⟩) (by show w.heap.size + 1 < _; omega)).trans r0, (hb.cell (p := ⟨w.heap.size + 1, 1, none⟩) (by show w.heap.size + 1 < _; omega)).trans r1⟩
  have HC := Lib.hid hC
  have HFZ := Lib.hid (fz 0)
  have hkW : IntsIn (fun k => k < W.heap.size) W (.slice ka keep.length kc) keep := HK.out.eq hbW.size fun k hk _ => ⟨hbW.block k hk, Nat.lt_of_lt_of_le hk hbW.size⟩
  have HKW := Lib.hid hkW
  obtain ⟨F1, hF1⟩ : ∃ F, F = saveF (newF 20000) n0 t0 := ⟨_, rfl⟩
  obtain ⟨F2, hF2⟩ : ∃ F, F = saveF F1 n1 t1 := ⟨_, rfl⟩
  obtain ⟨F4, hF4⟩ : ∃ F, F = startF (crashF F2 keep) := ⟨_, rfl⟩
  obtain ⟨s1, p2, s4, g0, g1, hS0, hS1⟩ := back_law n0 n1 t0 t1 (by omega) (by omega) keep F1 F2 F4 hF1 hF2 hF4
  have HS1 := Lib.hid s1
  have HP2 := Lib.hid p2
  have HS4 := Lib.hid s4
  have HG0 := Lib.hid g0
  have HG1 := Lib.hid g1
  have HF1' := Lib.hid hF1
  have HF2' := Lib.hid hF2
  have HF4' := Lib.hid hF4
  obtain ⟨A, hA⟩ : ∃ A, A = saveE (newF 20000) n0 t0 := ⟨_, rfl⟩
  obtain ⟨B, hB⟩ : ∃ B, B = saveE F1 n1 t1 := ⟨_, rfl⟩
  rw [← hA] at hS0 HG0
  rw [← hB] at hS1 HG1
  have HA := Lib.hid hA
  have HB := Lib.hid hB
  have HX0 := Lib.hid hS0
  have HX1 := Lib.hid hS1
  have CN := Lib.hid (new_any 20000 W (by omega) (by omega))
  clear hC fz hkW hF1 hF2 hF4 s1 p2 s4 g0 g1 hA hB hS0 hS1
  go_wp2_with fail
  (with_reducible refine CN.out.mono ?_); rintro e w1 ⟨b, rfl, M1, hf1, hM1, hbel1⟩
  have HFS1 := Lib.hid hf1
  have HM1 := Lib.hid hM1
  clear q0 q1 r0 r1
  obtain ⟨q0, q1, r0, r1⟩ := HC.out w1 hbel1
  have C0 := write_any w1 hf1 (Sound.new 20000 (by omega) (by omega)) n0 t0 (by omega)
  rw [← HA.out, ← HF1'.out] at C0
  have C1 := Lib.hid C0
  clear hf1 hM1 CN C0
  go_wp2_with fail
  (with_reducible refine C1.out.mono ?_); rintro e w2 ⟨rfl, M2, hf2, hM2, ho2⟩
  have hbel2 : Below W.heap.size W w2 := hbel1.trans (ho2.below hbel1.size HM1.out)
  have HF2 := Lib.hid hf2
  have HM2 := Lib.hid (fun x (hx : M2 x) => (show W.heap.size ≤ x by rcases hM2 x hx with h | h; exact HM1.out x h; exact Nat.le_trans hbel1.size h))
  obtain ⟨q0, q1, r0, r1⟩ := HC.out w2 hbel2
  clear hf2 hM2 ho2 C1 HFS1 hbel1 HM1
  have C0 := write_any w2 HF2.out HS1.out n1 t1 (by omega)
  rw [← HB.out, ← HF2'.out] at C0
  have C1 := Lib.hid C0
  clear C0
  go_wp2_with fail
  (with_reducible refine C1.out.mono ?_); rintro e w3 ⟨rfl, M3, hf3, hM3, ho3⟩
  have hbel3 : Below W.heap.size W w3 := hbel2.trans (ho3.below hbel2.size HM2.out)
  have HF3 := Lib.hid hf3
  have HM3 := Lib.hid (fun x (hx : M3 x) => (show W.heap.size ≤ x by rcases hM3 x hx with h | h; exact HM2.out x h; exact Nat.le_trans hbel2.size h))
  obtain ⟨q0, q1, r0, r1⟩ := HC.out w3 hbel3
  clear hf3 hM3 ho3 C1 HF2 hbel2 HM2
  have C1 : Hid (Calls Try.prog 36 #[.pointer (some ⟨b, 0, none⟩), .slice ka keep.length kc] w3 fun e w' => e = .returned (.int .i64 0) ∧ Turned M3 w3 w' b (crashF F2 keep)) := by
    have C0 := crash_any w3 HF3.out HP2.out.snd (v := .slice ka keep.length kc) (l := keep) (HKW.out.eq hbel3.size fun k hk _ => ⟨hbel3.block k hk, fun hm => by have := HM3.out k hm; omega⟩) (by omega)
    have e0 : crashE F2 = 0 := by unfold crashE; rw [if_neg (by rw [HP2.out.off]; simp)]
    have e1 : crashG F2 keep = crashF F2 keep := by unfold crashG; rw [if_neg (by rw [HP2.out.off]; simp)]
    rw [e0, e1] at C0
    exact Lib.hid C0
  go_wp2_with fail
  (with_reducible refine C1.out.mono ?_); rintro e w4 ⟨rfl, M4, hf4, hM4, ho4⟩
  have hbel4 : Below W.heap.size W w4 := hbel3.trans (ho4.below hbel3.size HM3.out)
  have HF4 := Lib.hid hf4
  have HM4 := Lib.hid (fun x (hx : M4 x) => (show W.heap.size ≤ x by rcases hM4 x hx with h | h; exact HM3.out x h; exact Nat.le_trans hbel3.size h))
  obtain ⟨q0, q1, r0, r1⟩ := HC.out w4 hbel4
  clear hf4 hM4 ho4 C1 HF3 hbel3 HM3
  have C1 : Hid (Calls Try.prog 27 #[.pointer (some ⟨b, 0, none⟩)] w4 fun e w' => e = .returned (.int .i64 0) ∧ Turned M4 w4 w' b F4) := by
    rw [HF4'.out]; exact Lib.hid (start_any w4 HF4.out (HP2.out.snd.crash keep))
  go_wp2_with fail
  (with_reducible refine C1.out.mono ?_); rintro e w5 ⟨rfl, M5, hf5, hM5, ho5⟩
  have hbel5 : Below W.heap.size W w5 := hbel4.trans (ho5.below hbel4.size HM4.out)
  have HF5 := Lib.hid hf5
  have HM5 := Lib.hid (fun x (hx : M5 x) => (show W.heap.size ≤ x by rcases hM5 x hx with h | h; exact HM4.out x h; exact Nat.le_trans hbel4.size h))
  obtain ⟨q0, q1, r0, r1⟩ := HC.out w5 hbel5
  clear hf5 hM5 ho5 C1 HF4 hbel4 HM4
  have C0 := load_any w5 HF5.out HS4.out n0
  rw [HG0.out] at C0
  obtain ⟨S, hS⟩ : ∃ S, S = loadS F4 n0 := ⟨_, rfl⟩
  rw [← hS] at C0 HX0
  have C1 := Lib.hid C0
  clear C0 hS
  go_wp2_with fail
  (with_reducible refine C1.out.mono ?_); rintro e w6 ⟨rfl, M6, hf6, hM6, ho6⟩
  have hbel6 : Below W.heap.size W w6 := hbel5.trans (ho6.below hbel5.size HM5.out)
  have HF6 := Lib.hid hf6
  have HM6 := Lib.hid (fun x (hx : M6 x) => (show W.heap.size ≤ x by rcases hM6 x hx with h | h; exact HM5.out x h; exact Nat.le_trans hbel5.size h))
  obtain ⟨q0, q1, r0, r1⟩ := HC.out w6 hbel6
  clear hf6 hM6 ho6 C1 HF5 hbel5 HM5
  have C0 := load_any w6 HF6.out HS4.out n1
  rw [HG1.out] at C0
  obtain ⟨T, hT⟩ : ∃ T, T = loadS F4 n1 := ⟨_, rfl⟩
  rw [← hT] at C0 HX1
  have C1 := Lib.hid C0
  clear C0 hT
  go_wp2_with fail
  (with_reducible refine C1.out.mono ?_); rintro e w7 ⟨rfl, M7, hf7, hM7, ho7⟩
  have hbel7 : Below W.heap.size W w7 := hbel6.trans (ho7.below hbel6.size HM6.out)
  have HF7 := Lib.hid hf7
  have HM7 := Lib.hid (fun x (hx : M7 x) => (show W.heap.size ≤ x by rcases hM7 x hx with h | h; exact HM6.out x h; exact Nat.le_trans hbel6.size h))
  obtain ⟨q0, q1, r0, r1⟩ := HC.out w7 hbel7
  clear hf7 hM7 ho7 C1 HF6 hbel6 HM6
  have hb7 : Below w.heap.size w w7 := below_tr hbW hbel7
  have f7 : w7.frozen? ⟨w.heap.size + 1, 0, none⟩ = false := (World.frozen?_of_block (a := ⟨w.heap.size + 1, 0, none⟩) (hbel7.block (w.heap.size + 1) (by omega))).trans HFZ.out
  have CD := fun wx => Lib.hid (sdoes_any wx)
  have t1b := toList_beq n0 n1
  clear hbel7 HFZ
  go_upto_region 12 with fail
  rcases Decidable.em (n0 = n1) with hN | hN <;> rcases Decidable.em (A = 0) with hA | hA <;> rcases Decidable.em (B = 0) with hB | hB
  all_goals
    (first | rw [decide_eq_true hN] at t1b | rw [decide_eq_false hN] at t1b)
    (first | (have hx := HX0.out hA; (first | rw [if_pos hN] at hx | rw [if_neg hN] at hx); subst hx; subst hA) | (have gA : (A == 0) = false := by simpa using hA))
    (first | (have hx := HX1.out hB; subst hx; subst hB) | (have gB : (B == 0) = false := by simpa using hB))
    have HNN := Lib.hid hN
    clear hN
    go_wp2_with fail
    (with_reducible refine (CD _).out.mono ?_); rintro e w8 ⟨rfl, hb8⟩
    go_wp2_with fail
    go_ret
    exact ⟨rfl, by first | exact below_tr hb7 hb8 | exact below_tr (hb7.setCell (p := ⟨w.heap.size + 1, 0, none⟩) (Nat.le_succ _) _) hb8⟩
end Go.Proofs.Ytmoaecicibjmnaa
