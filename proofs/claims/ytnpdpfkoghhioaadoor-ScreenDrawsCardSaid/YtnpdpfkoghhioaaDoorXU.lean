/- lives: the chapter's screens. -/
import Derived.Test.YtnpdpfkoghhioaaDoorXT
import Derived.Test.YtnpdpfkoghhioaaDoorXN
namespace Go.Proofs.YtnpdpfkoghhioaaDoor
open Go.RowKit

/-- What the chapter shows. -/
def sX : SH := ⟨[], 0, 0, ⟨#[120]⟩, false, 4, 8⟩
def linesC : List ByteArray := [⟨#[97, 98]⟩, ⟨#[48, 49, 50, 51, 52, 53, 54, 55, 56, 57]⟩, ⟨#[122]⟩]
def sC (l c : Int) : SH := ⟨linesC, l, c, ByteArray.empty, false, 4, 8⟩
theorem lim_X : Lim sX := ⟨by decide, (fun x hx => by cases hx), by decide⟩
theorem lim_C (l c : Int) : Lim (sC l c) := by
  refine ⟨by show 3 ≤ 1000; decide, fun x hx => ?_, by show 0 ≤ 1000; decide⟩
  have hx : x ∈ linesC := hx
  simp only [linesC, List.mem_cons, List.not_mem_nil, or_false] at hx
  rcases hx with rfl | rfl | rfl <;> decide
/-- What is asked of one of the chapter's screens. -/
structure IsOK (l c was : Int) (tp : Nat) (r0 r1 r2 : ByteArray) (row col : Int) (T : List ByteArray) : Prop where
  check : checkS (sC l c) = 0
  top : TopIs (sC l c) was tp
  draw : drawE (sC l c) tp = 0
  row : (drawG (sC l c) tp).row = row
  col : (drawG (sC l c) tp).col = col
  cnt : (drawG (sC l c) tp).cells.length = 4
  txt : texts (drawG (sC l c) tp).cells = T
  sml : Small (drawG (sC l c) tp)
  z : ∀ i, i < 3 → (([r0, r1, r2] : List ByteArray)[i]?.getD ByteArray.empty).size ≤ (T[i]?.getD ByteArray.empty).size ∧ (T[i]?.getD ByteArray.empty).extract 0 (([r0, r1, r2] : List ByteArray)[i]?.getD ByteArray.empty).size = ([r0, r1, r2] : List ByteArray)[i]?.getD ByteArray.empty
theorem four_new (w : World) (o1 o2 o3 o4 : Obj) : ∃ W, ((((w.alloc o1).alloc o2).alloc o3).alloc o4) = W ∧ Below w.heap.size w W ∧ W.heap.size = w.heap.size + 4 ∧ W.heap[w.heap.size + 1]? = some o2 ∧ W.heap[w.heap.size + 1 + 1]? = some o3 ∧ W.heap[w.heap.size + 1 + 1 + 1]? = some o4 := by
  have h1 : (w.alloc o1).heap.size = w.heap.size + 1 := alloc_size _ _
  have h2 : ((w.alloc o1).alloc o2).heap.size = w.heap.size + 1 + 1 := by rw [alloc_size, h1]
  have h3 : (((w.alloc o1).alloc o2).alloc o3).heap.size = w.heap.size + 1 + 1 + 1 := by rw [alloc_size, h2]
  refine ⟨_, rfl, ?_, by rw [alloc_size, h3], ?_, ?_, ?_⟩
  · exact ((((Below.refl _ _).alloc (Nat.le_refl _) _).alloc (by rw [h1]; omega) _).alloc (by rw [h2]; omega) _).alloc (by rw [h3]; omega) _
  · rw [heap_alloc, if_neg (by rw [h3]; omega), heap_alloc, if_neg (by rw [h2]; omega), heap_alloc, if_pos (by rw [h1])]
  · rw [heap_alloc, if_neg (by rw [h3]; omega), heap_alloc, if_pos (by rw [h2])]
  · rw [heap_alloc, if_pos (by rw [h3])]
theorem GridAt.grid {B : Nat} {w : World} {r c x y : Int} {a : Option Addr} {n k : Nat} {g : G} (h : GridAt B w (.agg #[.int .i64 r, .int .i64 c, .slice a n k, .int .i64 x, .int .i64 y]) g) : r = g.rows ∧ c = g.cols ∧ n = g.cells.length ∧ x = g.row ∧ y = g.col := by
  obtain ⟨cv, hv, a', c', hc, _⟩ := h
  rw [hc] at hv
  injection hv with hv
  simp only [Array.mk.injEq, List.cons.injEq, Value.int.injEq, Value.slice.injEq] at hv
  exact ⟨hv.1.2, hv.2.1.2, hv.2.2.1.2.1, hv.2.2.2.1.2, hv.2.2.2.2.1.2⟩
set_option maxRecDepth 100000 in
set_option maxHeartbeats 8000000 in
theorem is_any (l c was : Int) (tp : Nat) (r0 r1 r2 : ByteArray) (row col : Int) (T : List ByteArray) (hI : IsOK l c was tp r0 r1 r2 row col T) (w : World) (hT : TabOK w) :
    Calls Tryd.prog 33 #[.agg #[.int .i64 l, .int .i64 c], .int .i64 was, .int .i64 (tp : Nat), .agg #[.string r0, .string r1, .string r2], .int .i64 row, .int .i64 col] w fun e w' => e = .returned (.bool true) ∧ Below w.heap.size w w' := by
  have HI := Lib.hid hI
  have HTB := Lib.hid hT
  clear hI hT
  go_enter Tryd.func33, Tryd.ntmps33
  go_upto_region 2 with fail
  obtain ⟨W, hW, hbW, hsW, q1, q2, q3⟩ := four_new w (.cells #[.int .i64 l, .int .i64 c] 24) (.cells #[.string r0, .string r1, .string r2] 64) (.cells #[.string ⟨#[97, 98]⟩, .string ⟨#[48, 49, 50, 51, 52, 53, 54, 55, 56, 57]⟩, .string ⟨#[122]⟩] 9) (.cells #[.slice (some ⟨w.heap.size + 1 + 1, 0, none⟩) 3 3, .int .i64 l, .int .i64 c, .string ⟨#[]⟩, .bool false, .int .i64 4, .int .i64 8] 26)
  rw [hW]
  clear hW
  obtain ⟨B0, hB0⟩ : ∃ B, B = w.heap.size := ⟨_, rfl⟩
  have HB0 := Lib.hid hB0
  rw [← hB0] at hsW q1 q2 q3 ⊢
  have HBW : Hid (Below w.heap.size w W) := Lib.hid hbW
  have HBX : Hid (Box7 W (B0 + 1 + 1 + 1) 26 (.slice (some ⟨B0 + 1 + 1, 0, none⟩) 3 3) (.int .i64 l) (.int .i64 c) (.string ⟨#[]⟩) (.bool false) (.int .i64 4) (.int .i64 8)) := Lib.hid q3
  have HRR : Hid (∀ wx, Below W.heap.size W wx → ∀ i, i < 3 → wx.cell? ⟨B0 + 1, i, none⟩ = some (.string (([r0, r1, r2] : List ByteArray)[i]?.getD ByteArray.empty))) := Lib.hid (fun wx hb i hi => by
    rw [hb.cell (p := ⟨B0 + 1, i, none⟩) (by show B0 + 1 < W.heap.size; omega), at_cells q1 i]
    match i, hi with
    | 0, _ => rfl
    | 1, _ => rfl
    | 2, _ => rfl)
  have HSH : Hid (∀ wx, Below W.heap.size W wx → ShowAt wx (.agg #[.slice (some ⟨B0 + 1 + 1, 0, none⟩) 3 3, .int .i64 l, .int .i64 c, .string ⟨#[]⟩, .bool false, .int .i64 4, .int .i64 8]) (sC l c)) := Lib.hid (fun wx hb => by
    refine ⟨some ⟨B0 + 1 + 1, 0, none⟩, 3, rfl, ?_⟩
    refine TextsAt.later (w := W) ?_ hb
    refine ⟨_, _, rfl, fun _ => ⟨_, _, rfl, by omega, fun j hj => ?_⟩⟩
    rw [Nat.zero_add, at_cells q2 j]
    have hj : j < 3 := hj
    match j, hj with
    | 0, _ => rfl
    | 1, _ => rfl
    | 2, _ => rfl)
  have CTP : Hid (Calls Tryd.prog 14 #[.agg #[.slice (some ⟨B0 + 1 + 1, 0, none⟩) 3 3, .int .i64 l, .int .i64 c, .string ⟨#[]⟩, .bool false, .int .i64 4, .int .i64 8], .int .i64 was] W fun e w' => e = .returned (.tuple #[.int .i64 (tp : Nat), .int .i64 0]) ∧ Below W.heap.size W w') := Lib.hid (by
    refine (sctop_any (sC l c) _ W (HTB.out.later hbW) (HSH.out W (Below.refl _ _)) (lim_C l c) was).mono ?_
    rintro e w' ⟨⟨T', he, h1, _⟩, hb⟩
    have h2 := top_one (h1 HI.out.check) HI.out.top
    rw [h2, HI.out.check] at he
    exact ⟨he, hb⟩)
  have CDR : Hid (∀ wx, Below W.heap.size W wx → Calls Tryd.prog 17 #[.agg #[.slice (some ⟨B0 + 1 + 1, 0, none⟩) 3 3, .int .i64 l, .int .i64 c, .string ⟨#[]⟩, .bool false, .int .i64 4, .int .i64 8], .int .i64 (tp : Nat)] wx fun e w' => (∃ a k, e = .returned (.tuple #[.agg #[.int .i64 4, .int .i64 8, .slice a 4 k, .int .i64 row, .int .i64 col], .int .i64 0]) ∧ GridAt w'.heap.size w' (.agg #[.int .i64 4, .int .i64 8, .slice a 4 k, .int .i64 row, .int .i64 col]) (drawG (sC l c) tp)) ∧ Below wx.heap.size wx w') := Lib.hid (fun wx hb => by
    refine (sdraw_any (sC l c) _ wx ((HTB.out.later hbW).later hb) (HSH.out wx hb) (lim_C l c) (tp : Nat)).mono ?_
    rintro e w' ⟨⟨gv, he, hg⟩, hb⟩
    rw [HI.out.draw, if_pos rfl, Int.toNat_natCast] at hg
    have hat := hg.at
    obtain ⟨a, k, hv, _⟩ := hg
    have e4 : gv = .agg #[.int .i64 4, .int .i64 8, .slice a 4 k, .int .i64 row, .int .i64 col] := by
      rw [hv, HI.out.row, HI.out.col, HI.out.cnt]; rfl
    rw [e4] at he hat
    rw [HI.out.draw] at he
    exact ⟨⟨a, k, he, hat⟩, hb⟩)
  have x0 := HBX.out.c0
  have x1 := HBX.out.c1
  have x2 := HBX.out.c2
  have x3 := HBX.out.c3
  have x4 := HBX.out.c4
  have x5 := HBX.out.c5
  have x6 := HBX.out.c6
  clear q1 q2 q3 hsW hB0 hbW
  go_wp2_with fail
  (with_reducible refine CTP.out.mono ?_); rintro e w1 ⟨rfl, hb1⟩
  have HB1 := Lib.hid hb1
  clear x0 x1 x2 x3 x4 x5 x6 CTP
  have x0 := (HBX.out.later hb1).c0
  have x1 := (HBX.out.later hb1).c1
  have x2 := (HBX.out.later hb1).c2
  have x3 := (HBX.out.later hb1).c3
  have x4 := (HBX.out.later hb1).c4
  have x5 := (HBX.out.later hb1).c5
  have x6 := (HBX.out.later hb1).c6
  clear hb1
  go_wp2_with fail
  (with_reducible refine (CDR.out _ HB1.out).mono ?_); rintro e w2 ⟨⟨a, k, rfl, hg⟩, hb2⟩
  have HB2 : Hid (Below W.heap.size W w2) := Lib.hid (below_tr HB1.out hb2)
  have HG := Lib.hid hg
  clear x0 x1 x2 x3 x4 x5 x6 CDR hb2 hg
  go_upto_region 4 with fail
  generalize hW3 : World.alloc w2 _ = W3
  have hb3 : Below w2.heap.size w2 W3 := by rw [← hW3]; exact (Below.refl _ _).alloc (Nat.le_refl _) _
  have HGB : Hid (Box5 W3 w2.heap.size 37 (.int .i64 4) (.int .i64 8) (.slice a 4 k) (.int .i64 row) (.int .i64 col)) := Lib.hid (by rw [← hW3]; unfold Box5; rw [heap_alloc, if_pos rfl])
  have HB3 : Hid (Below W.heap.size W W3) := Lib.hid (below_tr HB2.out hb3)
  have CTX : Hid (Calls Tryd.prog 31 #[.agg #[.int .i64 4, .int .i64 8, .slice a 4 k, .int .i64 row, .int .i64 col]] W3 fun e w' => (∃ v', e = .returned v' ∧ TextsAt w' v' T) ∧ Below W3.heap.size W3 w') := Lib.hid (by
    have h0 := text_any _ _ W3 (HG.out.later hb3) HI.out.sml
    rw [HI.out.txt] at h0
    exact h0)
  obtain ⟨GB, hGB⟩ : ∃ GB, GB = w2.heap.size := ⟨_, rfl⟩
  rw [← hGB] at HGB ⊢
  clear hW3 hb3 hGB
  have g0 := HGB.out.c0
  have g1 := HGB.out.c1
  have g2 := HGB.out.c2
  have g3 := HGB.out.c3
  have g4 := HGB.out.c4
  go_wp2_with fail
  (with_reducible refine CTX.out.mono ?_); rintro e w4 ⟨⟨v', rfl, hT4⟩, hb4⟩
  have HB4 : Hid (Below W.heap.size W w4) := Lib.hid (below_tr HB3.out hb4)
  have HGB4 := Lib.hid (HGB.out.below hb4 HGB.out.lt')
  obtain ⟨ta, tc, rfl, ht⟩ := hT4
  have HLEN : Hid (T.length = 4) := Lib.hid (by rw [← HI.out.txt]; unfold texts; rw [List.length_map]; exact HI.out.cnt)
  obtain ⟨tb, tq, rfl, htb, htc⟩ := ht (by intro e; have := HLEN.out; rw [e] at this; simp at this)
  have HTC : Hid (∀ i, i < 4 → w4.cell? ⟨tb, tq + i, none⟩ = some (.string (T[i]?.getD ByteArray.empty))) := Lib.hid (fun i hi => by
    have hi : i < T.length := by rw [HLEN.out]; exact hi
    rw [htc i hi, List.getElem?_eq_getElem hi]; rfl)
  rw [HLEN.out]
  clear g0 g1 g2 g3 g4 CTX hb4 ht htc htb
  have g3 := HGB4.out.c3
  have g4 := HGB4.out.c4
  have d1 : (row == row) = true := by simp
  have d2 : (col == col) = true := by simp
  go_wp2_with fail
  go_loopw [19] (fun i wr => ∃ k : Nat, k ≤ 3 ∧ i = .int .i64 (k : Nat) ∧ Below w4.heap.size w4 wr) (fun i _ => 3 - (intOf i).toNat)
  case atStart => exact ⟨0, by omega, rfl, Below.refl _ _⟩
  case round =>
    clear g3 g4 d1 d2
    obtain ⟨j, hj, rfl, hbj⟩ := hrel
    have HBJ : Hid (Below W.heap.size W wr) := Lib.hid (below_tr HB4.out hbj)
    by_cases h3 : j < 3
    · have h3i : (j : Int) < 3 := by omega
      have h4i : (j : Int) < 4 := by omega
      have h4 : j < 4 := by omega
      have m1 := (hbj.cell (p := ⟨tb, tq + j, none⟩) (lt_of_cell (HTC.out j h4))).trans (HTC.out j h4)
      have m2 := HRR.out wr HBJ.out j h3
      have hz := HI.out.z j h3
      generalize T[j]?.getD ByteArray.empty = Tj at *
      generalize ([r0, r1, r2] : List ByteArray)[j]?.getD ByteArray.empty = rj at *
      obtain ⟨z1, z2⟩ := hz
      have z3 : decide ((Tj.size : Int) < (rj.size : Int)) = false := decide_eq_false (by omega)
      have z4 : (rj.size : Int) ≤ (Tj.size : Int) := by omega
      have z5 : decide (Tj.size < rj.size) = false := decide_eq_false (by omega)
      have Z2 := Lib.hid z2
      go_upto_region 10 with fail
      go_quiet (fail)
      clear z2
      go_wp2_with fail
      exact ⟨⟨j + 1, by omega, by go_num, below_drewN hbj _⟩, by simp [intOf]; omega⟩
    · obtain rfl : j = 3 := by omega
      go_wp2_with fail
      go_ret
      exact ⟨rfl, below_tr HBW.out HBJ.out⟩
theorem ok_1 : IsOK 1 1 1 1 ⟨#[97, 98]⟩ ⟨#[48, 49, 50, 51, 52, 53, 54, 55]⟩ ⟨#[56, 57]⟩ 0 1 (texts (drawG (sC 1 1) 1).cells) where
  check := by decide +kernel
  top := .inr (.inl ⟨by decide, by decide, by decide⟩)
  draw := by decide +kernel
  row := by decide +kernel
  col := by decide +kernel
  cnt := by decide +kernel
  txt := rfl
  sml := ⟨by decide +kernel, by decide +kernel⟩
  z := by decide +kernel
theorem ok_2 : IsOK 3 0 1 2 ⟨#[48, 49, 50, 51, 52, 53, 54, 55]⟩ ⟨#[56, 57]⟩ ⟨#[122]⟩ 2 0 (texts (drawG (sC 3 0) 2).cells) where
  check := by decide +kernel
  top := .inr (.inr ⟨by decide, by decide, by decide, by decide, fun j h1 h2 => by
    have h1 : (1 : Int) ≤ (j : Int) := h1
    obtain rfl : j = 1 := by omega
    decide +kernel, .inr (by decide +kernel)⟩)
  draw := by decide +kernel
  row := by decide +kernel
  col := by decide +kernel
  cnt := by decide +kernel
  txt := rfl
  sml := ⟨by decide +kernel, by decide +kernel⟩
  z := by decide +kernel
theorem ok_3 : IsOK 2 9 3 2 ⟨#[48, 49, 50, 51, 52, 53, 54, 55]⟩ ⟨#[56, 57]⟩ ⟨#[122]⟩ 1 1 (texts (drawG (sC 2 9) 2).cells) where
  check := by decide +kernel
  top := .inr (.inl ⟨by decide, by decide, by decide⟩)
  draw := by decide +kernel
  row := by decide +kernel
  col := by decide +kernel
  cnt := by decide +kernel
  txt := rfl
  sml := ⟨by decide +kernel, by decide +kernel⟩
  z := by decide +kernel
theorem draw_X : drawE sX 1 = 0 ∧ (drawG sX 1).cells.length = 4 ∧ (∀ j, j < 4 → ((drawG sX 1).cells[j]?.getD []).length = 8) ∧ ((drawG sX 1).cells[3]?.getD [])[0]?.getD 0 = 120 ∧ ((drawG sX 1).cells[1]?.getD [])[0]?.getD 0 = 126 ∧ ((drawG sX 1).cells[0]?.getD [])[0]?.getD 0 = 32 := by decide +kernel
set_option maxRecDepth 100000 in
set_option maxHeartbeats 8000000 in
theorem lives_any (w : World) (hT : TabOK w) :
    Calls Tryd.prog 13 #[] w fun e w' => e = .returned (.bool true) ∧ Below w.heap.size w w' := by
  have HTB := Lib.hid hT
  have CX : Hid (Calls Tryd.prog 17 #[.agg #[.slice none 0 0, .int .i64 0, .int .i64 0, .string ⟨#[120]⟩, .bool false, .int .i64 4, .int .i64 8], .int .i64 1] w fun e w' => (∃ r c x y hb k, e = .returned (.tuple #[.agg #[.int .i64 r, .int .i64 c, .slice (some ⟨hb, 0, none⟩) 4 k, .int .i64 x, .int .i64 y], .int .i64 0]) ∧
      (∃ b0 o0 k0, w'.cell? ⟨hb, 0, none⟩ = some (.slice (some ⟨b0, o0, none⟩) 8 k0) ∧ w'.cell? ⟨b0, o0, none⟩ = some (.int .u8 32)) ∧
      (∃ b0 o0 k0, w'.cell? ⟨hb, 1, none⟩ = some (.slice (some ⟨b0, o0, none⟩) 8 k0) ∧ w'.cell? ⟨b0, o0, none⟩ = some (.int .u8 126)) ∧
      (∃ b0 o0 k0, w'.cell? ⟨hb, 3, none⟩ = some (.slice (some ⟨b0, o0, none⟩) 8 k0) ∧ w'.cell? ⟨b0, o0, none⟩ = some (.int .u8 120))) ∧ Below w.heap.size w w') := Lib.hid (by
    obtain ⟨d0, d1, d2, d3, d4, d5⟩ := draw_X
    refine (sdraw_any sX _ w hT ⟨none, 0, rfl, none, 0, rfl, fun h => absurd rfl h⟩ lim_X 1).mono ?_
    rintro e w' ⟨⟨gv, he, hg⟩, hb⟩
    rw [d0] at he
    rw [d0, if_pos rfl] at hg
    obtain ⟨a, k, hv, ho⟩ := hg
    have e1 : (1 : Int).toNat = 1 := rfl
    rw [e1] at hv ho
    obtain ⟨hb2, rb, ro, rc, rfl, hr⟩ := ho (by intro e; rw [e] at d1; simp at d1)
    rw [d1] at hv
    rw [hv] at he
    refine ⟨⟨_, _, _, _, hb2, k, he, ?_, ?_, ?_⟩, hb⟩
    · have h1 := hr.head 0 (by omega)
      have h2 := hr.cell 0 (by omega) 0 (by rw [d2 0 (by omega)]; omega)
      rw [d2 0 (by omega)] at h1
      rw [d5] at h2
      exact ⟨_, _, _, h1, h2⟩
    · have h1 := hr.head 1 (by omega)
      have h2 := hr.cell 1 (by omega) 0 (by rw [d2 1 (by omega)]; omega)
      rw [d2 1 (by omega)] at h1
      rw [d4] at h2
      exact ⟨_, _, _, h1, h2⟩
    · have h1 := hr.head 3 (by omega)
      have h2 := hr.cell 3 (by omega) 0 (by rw [d2 3 (by omega)]; omega)
      rw [d2 3 (by omega)] at h1
      rw [d3] at h2
      exact ⟨_, _, _, h1, h2⟩)
  have C1 : Hid (∀ wx, TabOK wx → Calls Tryd.prog 33 #[.agg #[.int .i64 1, .int .i64 1], .int .i64 1, .int .i64 1, .agg #[.string ⟨#[97, 98]⟩, .string ⟨#[48, 49, 50, 51, 52, 53, 54, 55]⟩, .string ⟨#[56, 57]⟩], .int .i64 0, .int .i64 1] wx fun e w' => e = .returned (.bool true) ∧ Below wx.heap.size wx w') := Lib.hid (fun wx h => is_any 1 1 1 1 _ _ _ 0 1 _ ok_1 wx h)
  have C2 : Hid (∀ wx, TabOK wx → Calls Tryd.prog 33 #[.agg #[.int .i64 3, .int .i64 0], .int .i64 1, .int .i64 2, .agg #[.string ⟨#[48, 49, 50, 51, 52, 53, 54, 55]⟩, .string ⟨#[56, 57]⟩, .string ⟨#[122]⟩], .int .i64 2, .int .i64 0] wx fun e w' => e = .returned (.bool true) ∧ Below wx.heap.size wx w') := Lib.hid (fun wx h => is_any 3 0 1 2 _ _ _ 2 0 _ ok_2 wx h)
  have C3 : Hid (∀ wx, TabOK wx → Calls Tryd.prog 33 #[.agg #[.int .i64 2, .int .i64 9], .int .i64 3, .int .i64 2, .agg #[.string ⟨#[48, 49, 50, 51, 52, 53, 54, 55]⟩, .string ⟨#[56, 57]⟩, .string ⟨#[122]⟩], .int .i64 1, .int .i64 1] wx fun e w' => e = .returned (.bool true) ∧ Below wx.heap.size wx w') := Lib.hid (fun wx h => is_any 2 9 3 2 _ _ _ 1 1 _ ok_3 wx h)
  clear hT
  go_enter Tryd.func13, Tryd.ntmps13
  go_wp2_with fail
  (with_reducible refine CX.out.mono ?_); rintro e w1 ⟨⟨r, c, x, y, hb, k, rfl, ⟨b0, o0, k0, p0, q0⟩, ⟨b1, o1, k1, p1, q1⟩, ⟨b3, o3, k3, p3, q3⟩⟩, hb1⟩
  have HB1 := Lib.hid hb1
  go_upto_region 2 with fail
  generalize hW3 : World.alloc w1 _ = W3
  have hb3 : Below w1.heap.size w1 W3 := by rw [← hW3]; exact (Below.refl _ _).alloc (Nat.le_refl _) _
  have g2 : W3.cell? ⟨w1.heap.size, 2, none⟩ = some (.slice (some ⟨hb, 0, none⟩) 4 k) := by rw [← hW3, new_box]; rfl
  clear hW3
  have p0 := (hb3.cell (p := ⟨hb, 0, none⟩) (lt_of_cell p0)).trans p0
  have p1 := (hb3.cell (p := ⟨hb, 1, none⟩) (lt_of_cell p1)).trans p1
  have p3 := (hb3.cell (p := ⟨hb, 3, none⟩) (lt_of_cell p3)).trans p3
  have q0 := (hb3.cell (p := ⟨b0, o0, none⟩) (lt_of_cell q0)).trans q0
  have q1 := (hb3.cell (p := ⟨b1, o1, none⟩) (lt_of_cell q1)).trans q1
  have q3 := (hb3.cell (p := ⟨b3, o3, none⟩) (lt_of_cell q3)).trans q3
  have HB3 : Hid (Below w.heap.size w W3) := Lib.hid (below_tr HB1.out hb3)
  clear hb1 hb3
  go_wp2_with fail
  (with_reducible refine (C1.out _ (HTB.out.later HB3.out)).mono ?_); rintro e w4 ⟨rfl, hb4⟩
  have HB4 : Hid (Below w.heap.size w w4) := Lib.hid (below_tr HB3.out hb4)
  clear hb4 g2
  go_wp2_with fail
  (with_reducible refine (C2.out _ (HTB.out.later HB4.out)).mono ?_); rintro e w5 ⟨rfl, hb5⟩
  have HB5 : Hid (Below w.heap.size w w5) := Lib.hid (below_tr HB4.out hb5)
  clear hb5
  go_wp2_with fail
  (with_reducible refine (C3.out _ (HTB.out.later HB5.out)).mono ?_); rintro e w6 ⟨rfl, hb6⟩
  have HB6 : Hid (Below w.heap.size w w6) := Lib.hid (below_tr HB5.out hb6)
  clear hb6
  go_wp2_with fail
  go_ret
  exact ⟨rfl, HB6.out⟩
end Go.Proofs.YtnpdpfkoghhioaaDoor
