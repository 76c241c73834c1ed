/- The law ScreenSeen: its walk. -/
import Derived.Test.YtnpdpfkoghhioaaDoorXU
import Derived.Test.YtnpdpfkoghhioaaDoorYA
namespace Go.Proofs.YtnpdpfkoghhioaaDoor
open Go.RowKit

theorem drawE_bad {s : SH} {t : Int} (h : checkS s = 2) : drawE s t = 2 := by unfold drawE; rw [if_neg (by rw [h]; decide), h]
theorem top_in {s : SH} {was : Int} {T : Nat} (h : TopIs s was T) (hp : s.lines.length ≠ 0 → 1 ≤ s.line ∧ s.line ≤ s.lines.length) : 1 ≤ T ∧ (T : Int) ≤ max (s.lines.length : Int) 1 := by
  rcases h with ⟨h0, h1⟩ | ⟨h0, h1, h2⟩ | ⟨h0, h1, h2, h3, h4, h5⟩
  · omega
  · have := hp h0; omega
  · have := hp h0
    unfold top0 at h2
    omega
theorem drawE_ok {s : SH} {was : Int} {T : Nat} (hc : checkS s = 0) (h : TopIs s was T) (hp : s.lines.length ≠ 0 → 1 ≤ s.line ∧ s.line ≤ s.lines.length) : drawE s (T : Int) = 0 := by
  have := top_in h hp
  unfold drawE
  rw [if_pos hc, if_neg (by omega)]
/-- A drawn screen in memory: its rows, and their cells. -/
structure Seen (s : SH) (T : Nat) (R C hb : Nat) (rb ro rc : Nat → Nat) (w : World) : Prop where
  head : ∀ j, j < R → w.cell? ⟨hb, j, none⟩ = some (.slice (some ⟨rb j, ro j, none⟩) C (rc j))
  cell : ∀ j, j < R → ∀ k, k < C → w.cell? ⟨rb j, ro j + k, none⟩ = some (.int .u8 ((((drawG s T).cells[j]?.getD [])[k]?.getD 0).toNat : Int))
theorem Seen.later {s : SH} {T R C hb : Nat} {rb ro rc : Nat → Nat} {w w' : World} (h : Seen s T R C hb rb ro rc w) (hb' : Below w.heap.size w w') : Seen s T R C hb rb ro rc w' where
  head j hj := (hb'.cell (p := ⟨hb, j, none⟩) (lt_of_cell (h.head j hj))).trans (h.head j hj)
  cell j hj k hk := (hb'.cell (p := ⟨rb j, ro j + k, none⟩) (lt_of_cell (h.cell j hj k hk))).trans (h.cell j hj k hk)
theorem plain_at (s : SH) (T j k : Nat) : ((drawG s T).cells[j]?.getD [])[k]? = none ∨ 32 ≤ (((drawG s T).cells[j]?.getD [])[k]?.getD 0).toNat ∧ (((drawG s T).cells[j]?.getD [])[k]?.getD 0).toNat ≤ 126 := by
  cases hj : (drawG s T).cells[j]? with
  | none => exact .inl (by simp)
  | some r =>
    rw [Option.getD_some]
    cases hk : r[k]? with
    | none => exact .inl rfl
    | some x => exact .inr (plain_cells s T r (List.mem_of_getElem? hj) x (List.mem_of_getElem? hk))
theorem seen_of {B : Nat} {w : World} {gv : Value} {s : SH} {T R C : Nat} (hF : Fit s) (hR : s.rows = (R : Int)) (hC : s.cols = (C : Int)) (h : OwnGrid B w gv (drawG s T)) :
    ∃ hb k rb ro rc, gv = .agg #[.int .i64 s.rows, .int .i64 s.cols, .slice (some ⟨hb, 0, none⟩) R k, .int .i64 (drawG s T).row, .int .i64 (drawG s T).col] ∧ Seen s T R C hb rb ro rc w := by
  have hr2 := hF.r2
  have hR0 : s.rows.toNat = R := by omega
  have hC0 : s.cols.toNat = C := by omega
  have hl := draw_len s T hF
  rw [hR0] at hl
  obtain ⟨a, k, hv, ho⟩ := h
  obtain ⟨hb, rb, ro, rc, rfl, ho2⟩ := ho (by intro e; rw [e] at hl; simp at hl; omega)
  have hrow : ∀ j, j < R → ((drawG s T).cells[j]?.getD []).length = C := fun j hj => by
    rw [List.getElem?_eq_getElem (by omega), Option.getD_some, draw_row s T _ (List.getElem_mem _), hC0]
  refine ⟨hb, k, rb, ro, rc, by rw [hv, hl]; rfl, ⟨fun j hj => ?_, fun j hj m hm => ?_⟩⟩
  · have := ho2.head j (by omega)
    rw [hrow j hj] at this
    exact this
  · exact ho2.cell j (by omega) m (by rw [hrow j hj]; exact hm)
theorem Seen.plain {s : SH} {T R C hb : Nat} {rb ro rc : Nat → Nat} {w : World} (hF : Fit s) (hR : s.rows = (R : Int)) (hC : s.cols = (C : Int)) (h : Seen s T R C hb rb ro rc w) (j k : Nat) (hj : j < R) (hk : k < C) : ∃ z : Int, w.cell? ⟨rb j, ro j + k, none⟩ = some (.int .u8 z) ∧ 32 ≤ z ∧ z ≤ 126 := by
  have hl := draw_len s T hF
  refine ⟨_, h.cell j hj k hk, ?_⟩
  rcases plain_at s T j k with h0 | h0
  · have hjl : j < (drawG s T).cells.length := by omega
    rw [List.getElem?_eq_getElem hjl, Option.getD_some] at h0
    have h1 := draw_row s T _ (List.getElem_mem hjl)
    have h2 := List.getElem?_eq_none_iff.1 h0
    omega
  · omega
theorem text_byte (S : ByteArray) (k : Nat) (h : k < S.size) : S.data.toList[k]? = some (S[k]'h) := byte_get S S.data.toList (by simp) k h
theorem box5_new' (w : World) (v0 v1 v2 v3 v4 : Value) (t : TypeId) : ∃ W, w.alloc (.cells #[v0, v1, v2, v3, v4] t) = W ∧ Below w.heap.size w W ∧ W.heap.size = w.heap.size + 1 ∧ Box5 W w.heap.size t v0 v1 v2 v3 v4 :=
  ⟨_, rfl, (Below.refl _ _).alloc (Nat.le_refl _) _, alloc_size _ _, by unfold Box5; rw [heap_alloc, if_pos rfl]⟩
set_option maxRecDepth 100000 in
set_option maxHeartbeats 16000000 in
theorem screenSeen_walk (s : SH) (v : Value) (was : Int) (w : World) (hT : TabOK w) (h : ShowAt w v s) (hn : s.lines.length ≤ 9223372036854775807) :
    Calls Tryd.prog 4 #[v, .int .i64 was] w fun e w' => e = .returned (.bool true) ∧ Below w.heap.size w w' := by
  obtain ⟨a, c, rfl, hX⟩ := h
  have HX := Lib.hid hX
  have HTB := Lib.hid hT
  have HSV : Hid (∀ wx, Below w.heap.size w wx → ShowAt wx (.agg #[.slice a s.lines.length c, .int .i64 s.line, .int .i64 s.col, .string s.status, .bool s.typing, .int .i64 s.rows, .int .i64 s.cols]) s) := Lib.hid (fun wx hb => ⟨a, c, rfl, HX.out.later hb⟩)
  have CB : Hid (∀ wx, Below w.heap.size w wx → Calls Tryd.prog 12 #[.agg #[.slice a s.lines.length c, .int .i64 s.line, .int .i64 s.col, .string s.status, .bool s.typing, .int .i64 s.rows, .int .i64 s.cols]] wx fun e w' => e = .returned (.bool (beyondS s)) ∧ Below wx.heap.size wx w') := Lib.hid (fun wx hb => beyond_any s _ wx (HSV.out wx hb) hn)
  have CL : Hid (∀ wx, Below w.heap.size w wx → Calls Tryd.prog 13 #[] wx fun e w' => e = .returned (.bool true) ∧ Below wx.heap.size wx w') := Lib.hid (fun wx hb => lives_any wx (HTB.out.later hb))
  clear hX hT hn
  go_enter Tryd.func4, Tryd.ntmps4
  go_upto_region 1 with fail
  obtain ⟨W, hW, hbW, hsW, hbox⟩ := box7_new w (.slice a s.lines.length c) (.int .i64 s.line) (.int .i64 s.col) (.string s.status) (.bool s.typing) (.int .i64 s.rows) (.int .i64 s.cols) 26
  rw [hW]
  clear hW hsW
  obtain ⟨B0, hB0⟩ : ∃ B, B = w.heap.size := ⟨_, rfl⟩
  have HB0 := Lib.hid hB0
  rw [← hB0] at hbox ⊢
  have HBW := Lib.hid hbW
  have HBX := Lib.hid hbox
  clear hB0 hbW hbox
  have x0 := HBX.out.c0
  have x1 := HBX.out.c1
  have x2 := HBX.out.c2
  have x3 := HBX.out.c3
  have x4 := HBX.out.c4
  have x5 := HBX.out.c5
  have x6 := HBX.out.c6
  go_wp2_with fail
  (with_reducible refine (CB.out _ HBW.out).mono ?_); rintro e w1 ⟨rfl, hb1⟩
  have HB1 : Hid (Below W.heap.size W w1) := Lib.hid hb1
  have HA1 : Hid (Below w.heap.size w w1) := Lib.hid (below_tr HBW.out hb1)
  clear x0 x1 x2 x3 x4 x5 x6 hb1 CB
  cases hbe : beyondS s with
  | true =>
    clear hbe
    go_wp2_with fail
    (with_reducible refine (CL.out _ HA1.out).mono ?_); rintro e w2 ⟨rfl, hb2⟩
    go_wp2_with fail
    go_ret
    exact ⟨rfl, below_tr HA1.out hb2⟩
  | false =>
    have HL := Lib.hid (beyond_lim hbe).1
    clear hbe
    have CT : Hid (∀ wx (u : Int), Below w.heap.size w wx → Calls Tryd.prog 14 #[.agg #[.slice a s.lines.length c, .int .i64 s.line, .int .i64 s.col, .string s.status, .bool s.typing, .int .i64 s.rows, .int .i64 s.cols], .int .i64 u] wx fun e w' => (∃ T : Nat, e = .returned (.tuple #[.int .i64 (T : Nat), .int .i64 (checkS s)]) ∧ (checkS s = 0 → TopIs s u T) ∧ (checkS s ≠ 0 → T = 0)) ∧ Below wx.heap.size wx w') := Lib.hid (fun wx u hb => sctop_any s _ wx (HTB.out.later hb) (HSV.out wx hb) HL.out u)
    have CD : Hid (∀ wx (t : Int), Below w.heap.size w wx → Calls Tryd.prog 17 #[.agg #[.slice a s.lines.length c, .int .i64 s.line, .int .i64 s.col, .string s.status, .bool s.typing, .int .i64 s.rows, .int .i64 s.cols], .int .i64 t] wx fun e w' => (∃ gv, e = .returned (.tuple #[gv, .int .i64 (drawE s t)]) ∧ OwnGrid wx.heap.size w' gv (if drawE s t = 0 then drawG s t.toNat else zeroG)) ∧ Below wx.heap.size wx w') := Lib.hid (fun wx t hb => sdraw_any s _ wx (HTB.out.later hb) (HSV.out wx hb) HL.out t)
    have x0 := (HBX.out.later HB1.out).c0
    have x1 := (HBX.out.later HB1.out).c1
    have x2 := (HBX.out.later HB1.out).c2
    have x3 := (HBX.out.later HB1.out).c3
    have x4 := (HBX.out.later HB1.out).c4
    have x5 := (HBX.out.later HB1.out).c5
    have x6 := (HBX.out.later HB1.out).c6
    go_wp2_with fail
    (with_reducible refine (CT.out _ was HA1.out).mono ?_); rintro e w2 ⟨⟨T, rfl, hT1, hT2⟩, hb2⟩
    have HB2 : Hid (Below W.heap.size W w2) := Lib.hid (below_tr HB1.out hb2)
    have HA2 : Hid (Below w.heap.size w w2) := Lib.hid (below_tr HA1.out hb2)
    have HT1 := Lib.hid hT1
    have HT2 := Lib.hid hT2
    clear x0 x1 x2 x3 x4 x5 x6 hb2 hT1 hT2
    have x0 := (HBX.out.later HB2.out).c0
    have x1 := (HBX.out.later HB2.out).c1
    have x2 := (HBX.out.later HB2.out).c2
    have x3 := (HBX.out.later HB2.out).c3
    have x4 := (HBX.out.later HB2.out).c4
    have x5 := (HBX.out.later HB2.out).c5
    have x6 := (HBX.out.later HB2.out).c6
    rcases check_or s with hch | hch
    rotate_left
    · have hT0 : T = 0 := HT2.out (by rw [hch]; decide)
      subst hT0
      have CD0 : Hid (Calls Tryd.prog 17 #[.agg #[.slice a s.lines.length c, .int .i64 s.line, .int .i64 s.col, .string s.status, .bool s.typing, .int .i64 s.rows, .int .i64 s.cols], .int .i64 0] w2 fun e w' => (∃ r c a k x y, e = .returned (.tuple #[.agg #[.int .i64 r, .int .i64 c, .slice a 0 k, .int .i64 x, .int .i64 y], .int .i64 2])) ∧ Below w2.heap.size w2 w') := Lib.hid (by
        refine (CD.out w2 0 HA2.out).mono ?_
        rintro e w' ⟨⟨gv, he, hg⟩, hb⟩
        have hE : drawE s 0 = 2 := drawE_bad hch
        rw [hE, if_neg (by decide)] at hg
        rw [hE] at he
        obtain ⟨a', k', hv, _⟩ := hg
        rw [hv] at he
        exact ⟨⟨_, _, a', k', _, _, he⟩, hb⟩)
      rw [hch]
      clear hch HT1 HT2 CD CT
      go_wp2_with fail
      (with_reducible refine CD0.out.mono ?_); rintro e w3 ⟨⟨r, c', a', k', x, y, rfl⟩, hb3⟩
      have HA3 : Hid (Below w.heap.size w w3) := Lib.hid (below_tr HA2.out hb3)
      clear x0 x1 x2 x3 x4 x5 x6 hb3 CD0
      go_upto_region 6 with fail
      generalize hW3 : World.alloc w3 _ = W3
      have hb3 : Below w3.heap.size w3 W3 := by rw [← hW3]; exact (Below.refl _ _).alloc (Nat.le_refl _) _
      have g2 : W3.cell? ⟨w3.heap.size, 2, none⟩ = some (.slice a' 0 k') := by rw [← hW3, new_box]; rfl
      have HA4 : Hid (Below w.heap.size w W3) := Lib.hid (below_tr HA3.out hb3)
      clear hW3 hb3
      go_wp2_with fail
      (with_reducible refine (CL.out _ HA4.out).mono ?_); rintro e w5 ⟨rfl, hb5⟩
      go_wp2_with fail
      go_ret
      exact ⟨rfl, below_tr HA4.out hb5⟩
    · have HC := Lib.hid hch
      have hF0 := fit_of HL.out hch
      have HF := Lib.hid hF0
      have hpos : s.lines.length ≠ 0 → 1 ≤ s.line ∧ s.line ≤ s.lines.length ∧ 0 ≤ s.col ∧ ¬ badPos s := fun h0 => by
        rcases (check_ok hch).2 with h1 | h1
        · exact absurd h1.2.2 h0
        · exact ⟨h1.2.1, h1.2.2.1, h1.2.2.2, h1.1⟩
      have HPOS := Lib.hid hpos
      have HTI := Lib.hid (HT1.out hch)
      have HDE : Hid (drawE s (T : Int) = 0) := Lib.hid (drawE_ok hch (HT1.out hch) (fun h0 => ⟨(hpos h0).1, (hpos h0).2.1⟩))
      have HTA : Hid (∀ U, TopIs s (T : Int) U → U = T) := Lib.hid (fun U hU => top_again s was T U (HT1.out hch) (fun h0 => ⟨(hpos h0).1, (hpos h0).2.1⟩) hU)
      have HMAY : Hid (mayB (drawG s T) = true) := Lib.hid (draw_may s T hF0)
      have HSML : Hid (Small (drawG s T)) := Lib.hid ⟨by rw [draw_len s T hF0]; have := hF0.r60; omega, fun r hr => by rw [draw_row s T r hr]; have := hF0.c132; omega⟩
      obtain ⟨R, hR⟩ : ∃ R : Nat, s.rows = (R : Int) := ⟨s.rows.toNat, by have := hF0.r2; omega⟩
      obtain ⟨C, hC⟩ : ∃ C : Nat, s.cols = (C : Int) := ⟨s.cols.toNat, by have := hF0.c8; omega⟩
      have hR2 : 2 ≤ R ∧ R ≤ 60 := by have := hF0.r2; have := hF0.r60; omega
      have hC2 : 8 ≤ C ∧ C ≤ 132 := by have := hF0.c8; have := hF0.c132; omega
      have HR := Lib.hid hR
      have HCC := Lib.hid hC
      have CD1 : Hid (Calls Tryd.prog 17 #[.agg #[.slice a s.lines.length c, .int .i64 s.line, .int .i64 s.col, .string s.status, .bool s.typing, .int .i64 s.rows, .int .i64 s.cols], .int .i64 (T : Nat)] w2 fun e w' => (∃ hb k rb ro rc, e = .returned (.tuple #[.agg #[.int .i64 s.rows, .int .i64 s.cols, .slice (some ⟨hb, 0, none⟩) R k, .int .i64 (drawG s T).row, .int .i64 (drawG s T).col], .int .i64 0]) ∧ Seen s T R C hb rb ro rc w' ∧ GridAt w'.heap.size w' (.agg #[.int .i64 s.rows, .int .i64 s.cols, .slice (some ⟨hb, 0, none⟩) R k, .int .i64 (drawG s T).row, .int .i64 (drawG s T).col]) (drawG s T)) ∧ Below w2.heap.size w2 w') := Lib.hid (by
        refine (CD.out w2 (T : Nat) HA2.out).mono ?_
        rintro e w' ⟨⟨gv, he, hg⟩, hb⟩
        rw [HDE.out, if_pos rfl, Int.toNat_natCast] at hg
        rw [HDE.out] at he
        have hat := hg.at
        obtain ⟨hb2, k, rb, ro, rc, hv, hs⟩ := seen_of hF0 hR hC hg
        rw [hv] at he hat
        exact ⟨⟨hb2, k, rb, ro, rc, he, hs, hat⟩, hb⟩)
      obtain ⟨x, hx⟩ : ∃ x, x = (drawG s T).row := ⟨_, rfl⟩
      obtain ⟨y, hy⟩ : ∃ y, y = (drawG s T).col := ⟨_, rfl⟩
      have HXR := Lib.hid hx
      have HYC := Lib.hid hy
      have hcl := hch
      rw [← hx, ← hy] at CD1
      have CT2 : Hid (∀ wx, Below w.heap.size w wx → Calls Tryd.prog 14 #[.agg #[.slice a s.lines.length c, .int .i64 s.line, .int .i64 s.col, .string s.status, .bool s.typing, .int .i64 s.rows, .int .i64 s.cols], .int .i64 (T : Nat)] wx fun e w' => e = .returned (.tuple #[.int .i64 (T : Nat), .int .i64 0]) ∧ Below wx.heap.size wx w') := Lib.hid (fun wx hb => by
        refine (CT.out wx (T : Nat) hb).mono ?_
        rintro e w' ⟨⟨U, he, h1, _⟩, hb⟩
        rw [HTA.out U (h1 HC.out), HC.out] at he
        exact ⟨he, hb⟩)
      rw [hch]
      clear hch hcl hF0 hpos hR hC hx hy HT1 HT2 CD CT
      go_wp2_with fail
      (with_reducible refine CD1.out.mono ?_); rintro e w3 ⟨⟨hb, gk, rb, ro, rc, rfl, hsn, hat⟩, hb3⟩
      have HA3 : Hid (Below w.heap.size w w3) := Lib.hid (below_tr HA2.out hb3)
      have HB3 : Hid (Below W.heap.size W w3) := Lib.hid (below_tr HB2.out hb3)
      clear x0 x1 x2 x3 x4 x5 x6 hb3 CD1
      go_upto_region 5 with fail
      obtain ⟨w4, hw4, hb4, _, hx4⟩ := box5_new' w3 (.int .i64 s.rows) (.int .i64 s.cols) (.slice (some ⟨hb, 0, none⟩) R gk) (.int .i64 x) (.int .i64 y) 37
      rw [hw4]
      have HA4 : Hid (Below w.heap.size w w4) := Lib.hid (below_tr HA3.out hb4)
      have HB4 : Hid (Below W.heap.size W w4) := Lib.hid (below_tr HB3.out hb4)
      have HSN := Lib.hid (hsn.later hb4)
      have HAT := Lib.hid (hat.later hb4)
      obtain ⟨GB, hGB⟩ : ∃ B, B = w3.heap.size := ⟨_, rfl⟩
      rw [← hGB] at hx4 ⊢
      have HGB := Lib.hid hx4
      clear hw4 hb4 hx4 hsn hat hGB
      have x0 := (HBX.out.later HB4.out).c0
      have x1 := (HBX.out.later HB4.out).c1
      have x2 := (HBX.out.later HB4.out).c2
      have x3 := (HBX.out.later HB4.out).c3
      have x4 := (HBX.out.later HB4.out).c4
      have x5 := (HBX.out.later HB4.out).c5
      have x6 := (HBX.out.later HB4.out).c6
      go_wp2_with fail
      (with_reducible refine (CT2.out _ HA4.out).mono ?_); rintro e w5 ⟨rfl, hb5⟩
      have HA5 : Hid (Below w.heap.size w w5) := Lib.hid (below_tr HA4.out hb5)
      have HB5 : Hid (Below W.heap.size W w5) := Lib.hid (below_tr HB4.out hb5)
      have HSN5 := Lib.hid (HSN.out.later hb5)
      have HAT5 := Lib.hid (HAT.out.later hb5)
      have HGB5 := Lib.hid (HGB.out.below hb5 HGB.out.lt')
      clear x0 x1 x2 x3 x4 x5 x6 hb5 CT2
      have CCK : Hid (Calls Tryd.prog 20 #[.agg #[.int .i64 s.rows, .int .i64 s.cols, .slice (some ⟨hb, 0, none⟩) R gk, .int .i64 x, .int .i64 y]] w5 fun e w' => e = .returned (.int .i64 0) ∧ Below w5.heap.size w5 w') := Lib.hid (by
        have h0 := check_any _ _ w5 HAT5.out HSML.out
        rw [HMAY.out, if_pos rfl] at h0
        exact h0)
      have g0 := HGB5.out.c0
      have g1 := HGB5.out.c1
      have g2 := HGB5.out.c2
      have g3 := HGB5.out.c3
      have g4 := HGB5.out.c4
      have dT : ((T : Int) == (T : Int)) = true := by simp
      go_wp2_with fail
      (with_reducible refine CCK.out.mono ?_); rintro e w6 ⟨rfl, hb6⟩
      have HA6 : Hid (Below w.heap.size w w6) := Lib.hid (below_tr HA5.out hb6)
      have HB6 : Hid (Below W.heap.size W w6) := Lib.hid (below_tr HB5.out hb6)
      have HSN6 := Lib.hid (HSN5.out.later hb6)
      have HGB6 := Lib.hid (HGB5.out.below hb6 HGB5.out.lt')
      clear g0 g1 g2 g3 g4 hb6 CCK
      have g0 := HGB6.out.c0
      have g1 := HGB6.out.c1
      have g2 := HGB6.out.c2
      have x5 := (HBX.out.later HB6.out).c5
      have x6 := (HBX.out.later HB6.out).c6
      have dR : (s.rows == s.rows) = true := by simp
      have dC : (s.cols == s.cols) = true := by simp
      go_upto_region 10 with fail
      clear g0 g1 x5 x6 dT dR dC
      go_wp2_with fail
      go_loop [11] (fun i => ∃ j : Nat, j ≤ R ∧ i = .int .i64 (j : Nat)) (fun i => R - (intOf i).toNat)
      case atStart => exact ⟨0, Nat.zero_le _, rfl⟩
      case round =>
        obtain ⟨j, hj, rfl⟩ := hrel
        by_cases hjR : j < R
        · have hj2 : (j : Int) < (R : Int) := by omega
          have hh := HSN6.out.head j hjR
          go_wp2_with fail
          go_loop [12] (fun i => ∃ k : Nat, k ≤ C ∧ i = .int .i64 (k : Nat)) (fun i => C - (intOf i).toNat)
          case atStart => exact ⟨0, Nat.zero_le _, rfl⟩
          case round =>
            obtain ⟨k, hk, rfl⟩ := hrel
            by_cases hkC : k < C
            · have hk2 : (k : Int) < (C : Int) := by omega
              obtain ⟨z, hz, z1, z2⟩ := HSN6.out.plain HF.out HR.out HCC.out j k hjR hkC
              have z3 : decide (z < 32) = false := decide_eq_false (by omega)
              have z4 : decide (126 < z) = false := decide_eq_false (by omega)
              go_wp2_with fail
              exact ⟨⟨k + 1, by omega, by go_num⟩, by simp [intOf]; omega⟩
            · go_wp2_with fail
              exact ⟨⟨j + 1, by omega, by go_num⟩, by simp [intOf]; omega⟩
        · have g3 := HGB6.out.c3
          have g4 := HGB6.out.c4
          have x4 := (HBX.out.later HB6.out).c4
          have x5 : w6.cell? ⟨B0, 5, none⟩ = some (.int .i64 (R : Int)) := by rw [← HR.out]; exact (HBX.out.later HB6.out).c5
          have x0 := (HBX.out.later HB6.out).c0
          have hwr : IntKind.i64.wrap ((R : Int) - 1) = (R : Int) - 1 := IntWalk.i64_in _ ⟨by omega, by omega⟩
          rcases Bool.eq_false_or_eq_true s.typing with hty | hty
          · have hxr : x = (R : Int) - 1 := by rw [HXR.out, (draw_typed s T hty).1, HR.out]
            have hxq : (x == (R : Int) - 1) = true := by simp [hxr]
            rw [hty] at x4
            clear hxr hty
            go_wp2_with fail
            (with_reducible refine (CL.out _ HA6.out).mono ?_); rintro e w7 ⟨rfl, hb7⟩
            go_wp2_with fail
            go_ret
            exact ⟨rfl, below_tr HA6.out hb7⟩
          · have HTY := Lib.hid hty
            rw [hty] at x4
            clear hty
            by_cases hn0 : s.lines.length = 0
            · have hT1 : T = 1 := by rcases HTI.out with h0 | h0 | h0 <;> omega
              have hxy := draw_none s hn0 HTY.out
              have hx0 : (x == 0) = true := by rw [HXR.out, hT1, hxy.1]; rfl
              have hy0 : (y == 0) = true := by rw [HYC.out, hT1, hxy.2]; rfl
              have hn1 : ((s.lines.length : Int) == 0) = true := by rw [beq_iff_eq]; omega
              have hn2 : (s.lines.length == 0) = true := by rw [beq_iff_eq]; exact hn0
              clear hT1 hxy hn0
              go_wp2_with fail
              (with_reducible refine (CL.out _ HA6.out).mono ?_); rintro e w7 ⟨rfl, hb7⟩
              go_wp2_with fail
              go_ret
              exact ⟨rfl, below_tr HA6.out hb7⟩
            · obtain ⟨p1, p2, p3, p4⟩ := HPOS.out hn0
              obtain ⟨n, hnn⟩ : ∃ n, n = s.lines.length := ⟨_, rfl⟩
              obtain ⟨l, hll⟩ : ∃ l : Nat, s.line = (l : Int) := ⟨s.line.toNat, by omega⟩
              obtain ⟨cn, hcn⟩ : ∃ cn : Nat, s.col = (cn : Int) := ⟨s.col.toNat, by omega⟩
              have HN := Lib.hid hnn
              have HLL := Lib.hid hll
              have HCN := Lib.hid hcn
              obtain ⟨q1, q2, q3, q4⟩ := draw_cur s T HF.out HTY.out
              rw [← HXR.out] at q1 q2
              rw [← HYC.out] at q3 q4
              rw [HR.out] at q2
              rw [HCC.out] at q4
              obtain ⟨xn, rfl⟩ : ∃ xn : Nat, x = (xn : Int) := ⟨x.toNat, by omega⟩
              obtain ⟨yn, rfl⟩ : ∃ yn : Nat, y = (yn : Int) := ⟨y.toNat, by omega⟩
              have hcs : cn ≤ (s.text l).size := by
                have hb : ¬ ((s.text s.line.toNat).size : Int) < s.col := fun h => p4 (.inr (.inr (.inr h)))
                rw [hll, hcn, Int.toNat_natCast] at hb
                omega
              rw [← hnn] at x0 p2
              have x1 : w6.cell? ⟨B0, 1, none⟩ = some (.int .i64 (l : Int)) := by rw [← hll]; exact (HBX.out.later HB6.out).c1
              have x2 : w6.cell? ⟨B0, 2, none⟩ = some (.int .i64 (cn : Int)) := by rw [← hcn]; exact (HBX.out.later HB6.out).c2
              rw [hll] at p1 p2
              obtain ⟨tb, tq, rfl, _, t0⟩ := TextsAt.get (HX.out.later HA6.out) (k := l - 1) (by omega)
              have t1 : w6.cell? ⟨tb, tq + (l - 1), none⟩ = some (.string (s.text l)) := t0
              clear t0
              have hn1000 : n ≤ 1000 := by rw [hnn]; exact HL.out.n
              have HL12 : Hid (1 ≤ l ∧ l ≤ s.lines.length) := Lib.hid (by omega)
              have hn1 : ((n : Int) == 0) = false := by rw [beq_eq_false_iff_ne]; omega
              have hn2 : (n == 0) = false := by rw [beq_eq_false_iff_ne]; omega
              rw [← hnn] at hn0 ⊢
              clear hnn hll hcn p3 p4
              have HBY : Hid (∀ (h : cn < (s.text l).size), 32 ≤ ((s.text l)[cn]'h).toNat → ((s.text l)[cn]'h).toNat ≤ 126 → w6.cell? ⟨rb xn, ro xn + yn, none⟩ = some (.int .u8 ((((s.text l)[cn]'h).toNat : Nat) : Int))) := Lib.hid (fun h h1 h2 => by
                have h3 := text_byte (s.text l) cn h
                obtain ⟨h4, h5⟩ := List.getElem?_eq_some_iff.1 h3
                have h6 := seen_byte s HF.out HTY.out l T was HLL.out HL12.out.1 HL12.out.2 HTI.out cn HCN.out h4 (by rw [h5]; exact h1) (by rw [h5]; exact h2)
                rw [← HXR.out, ← HYC.out, Int.toNat_natCast, Int.toNat_natCast, h5] at h6
                rw [HSN6.out.cell xn (by omega) yn (by omega), h6]
                rfl)
              have hh := HSN6.out.head xn (by omega)
              have hxR : xn < R := by omega
              have hxR2 : (xn : Int) < (R : Int) := by omega
              have hyC : yn < C := by omega
              have d1 : decide ((xn : Int) < 0) = false := decide_eq_false (by omega)
              have d2 : decide ((R : Int) - 1 ≤ (xn : Int)) = false := decide_eq_false (by omega)
              have d3 : ((R : Int) == (R : Int)) = true := by simp
              have d4 : decide ((yn : Int) < 0) = false := decide_eq_false (by omega)
              have d5 : decide ((C : Int) ≤ (yn : Int)) = false := decide_eq_false (by omega)
              have d6 : decide (C ≤ yn) = false := decide_eq_false (by omega)
              have i1 : (1 : Int) ≤ (l : Int) := by omega
              have i2 : 0 < l := by omega
              have i4 : (0 : Int) ≤ (l : Int) - 1 := by omega
              have i5 : (l : Int) - 1 < (n : Int) := by omega
              have i6 : ((l : Int) - 1).toNat = l - 1 := by omega
              have i7 : IntKind.i64.wrap ((l : Int) - 1) = (l : Int) - 1 := IntWalk.i64_in _ ⟨by omega, by omega⟩
              generalize s.text l = tx at *
              go_upto_region 23 with fail
              go_quiet (fail)
              clear d1 d2 d3 d4 d5 d6 i1 i2 i4 i5 i6 i7
              have CL7 : Hid (∀ wx, Below w6.heap.size w6 wx → Calls Tryd.prog 13 #[] wx fun e w' => e = .returned (.bool true) ∧ Below wx.heap.size wx w') := Lib.hid (fun wx hb => CL.out wx (below_tr HA6.out hb))
              by_cases hct : cn < tx.size
              · have hct2 : (cn : Int) < ((tx.size : Nat) : Int) := by omega
                by_cases hb1 : 32 < (tx[cn]'hct).toNat
                · have hb2 : (32 : Int) < (((tx[cn]'hct).toNat : Nat) : Int) := by omega
                  by_cases hb3 : (tx[cn]'hct).toNat < 127
                  · have hb4 : (((tx[cn]'hct).toNat : Nat) : Int) < 127 := by omega
                    have hby := HBY.out hct (by omega) (by omega)
                    have dB : ((((tx[cn]'hct).toNat : Nat) : Int) == (((tx[cn]'hct).toNat : Nat) : Int)) = true := by simp
                    have HS : Hid (∀ wx, Below w6.heap.size w6 wx → (wx.cell? ⟨GB, 2, none⟩ = some (.slice (some ⟨hb, 0, none⟩) R gk) ∧ wx.cell? ⟨GB, 3, none⟩ = some (.int .i64 (xn : Int)) ∧ wx.cell? ⟨GB, 4, none⟩ = some (.int .i64 (yn : Int)) ∧ wx.cell? ⟨hb, xn, none⟩ = some (.slice (some ⟨rb xn, ro xn, none⟩) C (rc xn)) ∧ wx.cell? ⟨rb xn, ro xn + yn, none⟩ = some (.int .u8 (((tx[cn]'hct).toNat : Nat) : Int)) ∧ wx.cell? ⟨B0, 2, none⟩ = some (.int .i64 (cn : Int))) ∧ Below w6.heap.size w6 wx) := Lib.hid (fun wx hb' =>
                      ⟨⟨(hb'.cell (p := ⟨GB, 2, none⟩) (lt_of_cell g2)).trans g2, (hb'.cell (p := ⟨GB, 3, none⟩) (lt_of_cell g3)).trans g3, (hb'.cell (p := ⟨GB, 4, none⟩) (lt_of_cell g4)).trans g4, (hb'.cell (p := ⟨hb, xn, none⟩) (lt_of_cell hh)).trans hh, (hb'.cell (p := ⟨rb xn, ro xn + yn, none⟩) (lt_of_cell hby)).trans hby, (hb'.cell (p := ⟨B0, 2, none⟩) (lt_of_cell x2)).trans x2⟩, hb'⟩)
                    go_upto_region 26 with fail
                    refine wp_region_held_drew (S := fun wx => (wx.cell? ⟨GB, 2, none⟩ = some (.slice (some ⟨hb, 0, none⟩) R gk) ∧ wx.cell? ⟨GB, 3, none⟩ = some (.int .i64 (xn : Int)) ∧ wx.cell? ⟨GB, 4, none⟩ = some (.int .i64 (yn : Int)) ∧ wx.cell? ⟨hb, xn, none⟩ = some (.slice (some ⟨rb xn, ro xn, none⟩) C (rc xn)) ∧ wx.cell? ⟨rb xn, ro xn + yn, none⟩ = some (.int .u8 (((tx[cn]'hct).toNat : Nat) : Int)) ∧ wx.cell? ⟨B0, 2, none⟩ = some (.int .i64 (cn : Int))) ∧ Below w6.heap.size w6 wx) (by kernel_rfl) (HS.out _ (below_drewN (Below.refl _ _) _).drew) (fun hH => ?_)
                    (refine hTake (i := 0) (v := ?_) rfl (by kernel_rfl) (by kernel_rfl) (by kernel_rfl) (fun _ _ _ h => h) (by kernel_rfl) ?_ (by assumption) ?_; rotate_left; focus (intro w' hS'; (try dsimp only at hS'); go_split_ands; (try go_simp); (try (with_reducible rfl)); done); try simp only [Act.put, List.setIfInBounds_toArray, List.set_cons_zero, List.set_cons_succ]); (refine hTake (i := 1) (v := ?_) rfl (by kernel_rfl) (by kernel_rfl) (by kernel_rfl) (fun _ _ _ h => h) (by kernel_rfl) ?_ (by assumption) ?_; rotate_left; focus (intro w' hS'; (try dsimp only at hS'); go_split_ands; (try go_simp); (try (with_reducible rfl)); done); try simp only [Act.put, List.setIfInBounds_toArray, List.set_cons_zero, List.set_cons_succ]); (refine hTake (i := 2) (v := ?_) rfl (by kernel_rfl) (by kernel_rfl) (by kernel_rfl) (fun _ _ _ h => h) (by kernel_rfl) ?_ (by assumption) ?_; rotate_left; focus (intro w' hS'; (try dsimp only at hS'); go_split_ands; (try go_simp); (try (with_reducible rfl)); done); try simp only [Act.put, List.setIfInBounds_toArray, List.set_cons_zero, List.set_cons_succ]); (refine hTake (i := 3) (v := ?_) rfl (by kernel_rfl) (by kernel_rfl) (by kernel_rfl) (fun _ _ _ h => h) (by kernel_rfl) ?_ (by assumption) ?_; rotate_left; focus (intro w' hS'; (try dsimp only at hS'); go_split_ands; (try go_simp); (try (with_reducible rfl)); done); try simp only [Act.put, List.setIfInBounds_toArray, List.set_cons_zero, List.set_cons_succ]); (refine hTake (i := 4) (v := ?_) rfl (by kernel_rfl) (by kernel_rfl) (by kernel_rfl) (fun _ _ _ h => h) (by kernel_rfl) ?_ (by assumption) ?_; rotate_left; focus (intro w' hS'; (try dsimp only at hS'); go_split_ands; (try go_simp); (try (with_reducible rfl)); done); try simp only [Act.put, List.setIfInBounds_toArray, List.set_cons_zero, List.set_cons_succ]); (refine hTake (i := 5) (v := ?_) rfl (by kernel_rfl) (by kernel_rfl) (by kernel_rfl) (fun _ _ _ h => h) (by kernel_rfl) ?_ (by assumption) ?_; rotate_left; focus (intro w' hS'; (try dsimp only at hS'); go_split_ands; (try go_simp); (try (with_reducible rfl)); done); try simp only [Act.put, List.setIfInBounds_toArray, List.set_cons_zero, List.set_cons_succ]); (refine hTake (i := 6) (v := ?_) rfl (by kernel_rfl) (by kernel_rfl) (by kernel_rfl) (fun _ _ _ h => h) (by kernel_rfl) ?_ (by assumption) ?_; rotate_left; focus (intro w' hS'; (try dsimp only at hS'); go_split_ands; (try go_simp); (try (with_reducible rfl)); done); try simp only [Act.put, List.setIfInBounds_toArray, List.set_cons_zero, List.set_cons_succ]); (refine hTake (i := 7) (v := ?_) rfl (by kernel_rfl) (by kernel_rfl) (by kernel_rfl) (fun _ _ _ h => h) (by kernel_rfl) ?_ (by assumption) ?_; rotate_left; focus (intro w' hS'; (try dsimp only at hS'); go_split_ands; (try go_simp); (try (with_reducible rfl)); done); try simp only [Act.put, List.setIfInBounds_toArray, List.set_cons_zero, List.set_cons_succ]); (refine hTake (i := 8) (v := ?_) rfl (by kernel_rfl) (by kernel_rfl) (by kernel_rfl) (fun _ _ _ h => h) (by kernel_rfl) ?_ (by assumption) ?_; rotate_left; focus (intro w' hS'; (try dsimp only at hS'); go_split_ands; (try go_simp); (try (with_reducible rfl)); done); try simp only [Act.put, List.setIfInBounds_toArray, List.set_cons_zero, List.set_cons_succ]); (refine hTake (i := 9) (v := ?_) rfl (by kernel_rfl) (by kernel_rfl) (by kernel_rfl) (fun _ _ _ h => h) (by kernel_rfl) ?_ (by assumption) ?_; rotate_left; focus (intro w' hS'; (try dsimp only at hS'); go_split_ands; (try go_simp); (try (with_reducible rfl)); done); try simp only [Act.put, List.setIfInBounds_toArray, List.set_cons_zero, List.set_cons_succ])
                    (refine hTake (i := 10) (v := ?_) rfl (by kernel_rfl) (by kernel_rfl) (by kernel_rfl) (fun _ _ _ h => h) (by kernel_rfl) ?_ (by assumption) ?_; rotate_left; focus (intro w' hS'; (try dsimp only at hS'); go_split_ands; (try go_simp); (try (with_reducible rfl)); done); try simp only [Act.put, List.setIfInBounds_toArray, List.set_cons_zero, List.set_cons_succ]); (refine hTake (i := 11) (v := ?_) rfl (by kernel_rfl) (by kernel_rfl) (by kernel_rfl) (fun _ _ _ h => h) (by kernel_rfl) ?_ (by assumption) ?_; rotate_left; focus (intro w' hS'; (try dsimp only at hS'); go_split_ands; (try go_simp); (try (with_reducible rfl)); done); try simp only [Act.put, List.setIfInBounds_toArray, List.set_cons_zero, List.set_cons_succ]); (refine hTake (i := 12) (v := ?_) rfl (by kernel_rfl) (by kernel_rfl) (by kernel_rfl) (fun _ _ _ h => h) (by kernel_rfl) ?_ (by assumption) ?_; rotate_left; focus (intro w' hS'; (try dsimp only at hS'); go_split_ands; (try go_simp); (try (with_reducible rfl)); done); try simp only [Act.put, List.setIfInBounds_toArray, List.set_cons_zero, List.set_cons_succ]); (refine hTake (i := 13) (v := ?_) rfl (by kernel_rfl) (by kernel_rfl) (by kernel_rfl) (fun _ _ _ h => h) (by kernel_rfl) ?_ (by assumption) ?_; rotate_left; focus (intro w' hS'; (try dsimp only at hS'); go_split_ands; (try go_simp); (try (with_reducible rfl)); done); try simp only [Act.put, List.setIfInBounds_toArray, List.set_cons_zero, List.set_cons_succ]); (refine hTake (i := 14) (v := ?_) rfl (by kernel_rfl) (by kernel_rfl) (by kernel_rfl) (fun _ _ _ h => h) (by kernel_rfl) ?_ (by assumption) ?_; rotate_left; focus (intro w' hS'; (try dsimp only at hS'); go_split_ands; (try go_simp); (try (with_reducible rfl)); done); try simp only [Act.put, List.setIfInBounds_toArray, List.set_cons_zero, List.set_cons_succ]); (refine hTake (i := 15) (v := ?_) rfl (by kernel_rfl) (by kernel_rfl) (by kernel_rfl) (fun _ _ _ h => h) (by kernel_rfl) ?_ (by assumption) ?_; rotate_left; focus (intro w' hS'; (try dsimp only at hS'); go_split_ands; (try go_simp); (try (with_reducible rfl)); done); try simp only [Act.put, List.setIfInBounds_toArray, List.set_cons_zero, List.set_cons_succ]); (refine hTake (i := 16) (v := ?_) rfl (by kernel_rfl) (by kernel_rfl) (by kernel_rfl) (fun _ _ _ h => h) (by kernel_rfl) ?_ (by assumption) ?_; rotate_left; focus (intro w' hS'; (try dsimp only at hS'); go_split_ands; (try go_simp); (try (with_reducible rfl)); done); try simp only [Act.put, List.setIfInBounds_toArray, List.set_cons_zero, List.set_cons_succ])
                    refine hOne (i := 17) rfl (by kernel_rfl) (fun K hK => ?_)
                    go_simp
                    refine (CL7.out _ hH.2).mono ?_
                    rintro e w7 ⟨rfl, hb7⟩
                    have hb7 : Below w6.heap.size w6 w7 := below_tr hH.2 hb7
                    go_wp2_with fail
                    refine hK.out _ _ (HS.out _ hb7) (fun hH => ?_)
                    clear hK K
                    (refine hTake (i := 18) (v := ?_) rfl (by kernel_rfl) (by kernel_rfl) (by kernel_rfl) (fun _ _ _ h => h) (by kernel_rfl) ?_ (by assumption) ?_; rotate_left; focus (intro w' hS'; (try dsimp only at hS'); go_split_ands; (try go_simp); (try (with_reducible rfl)); done); try simp only [Act.put, List.setIfInBounds_toArray, List.set_cons_zero, List.set_cons_succ]); (refine hTake (i := 19) (v := ?_) rfl (by kernel_rfl) (by kernel_rfl) (by kernel_rfl) (fun _ _ _ h => h) (by kernel_rfl) ?_ (by assumption) ?_; rotate_left; focus (intro w' hS'; (try dsimp only at hS'); go_split_ands; (try go_simp); (try (with_reducible rfl)); done); try simp only [Act.put, List.setIfInBounds_toArray, List.set_cons_zero, List.set_cons_succ])
                    refine wpAnyH_done (by kernel_rfl) ?_ _
                    clear hH
                    go_wp2_with fail
                    go_ret
                    exact ⟨rfl, below_tr HA6.out hb7⟩
                  · have hb4 : decide ((((tx[cn]'hct).toNat : Nat) : Int) < 127) = false := decide_eq_false (by omega)
                    go_wp2_with fail
                    (with_reducible refine (CL7.out _ (below_drewN (Below.refl _ _) _)).mono ?_); rintro e w7 ⟨rfl, hb7⟩
                    go_wp2_with fail
                    go_ret
                    exact ⟨rfl, below_tr HA6.out (below_tr (below_drewN (Below.refl _ _) _) hb7)⟩
                · have hb2 : decide ((32 : Int) < (((tx[cn]'hct).toNat : Nat) : Int)) = false := decide_eq_false (by omega)
                  go_wp2_with fail
                  (with_reducible refine (CL7.out _ (below_drewN (Below.refl _ _) _)).mono ?_); rintro e w7 ⟨rfl, hb7⟩
                  go_wp2_with fail
                  go_ret
                  exact ⟨rfl, below_tr HA6.out (below_tr (below_drewN (Below.refl _ _) _) hb7)⟩
              · have hct2 : decide ((cn : Int) < ((tx.size : Nat) : Int)) = false := decide_eq_false (by omega)
                have hct3 : decide (cn < tx.size) = false := decide_eq_false hct
                go_wp2_with fail
                (with_reducible refine (CL7.out _ (below_drewN (Below.refl _ _) _)).mono ?_); rintro e w7 ⟨rfl, hb7⟩
                go_wp2_with fail
                go_ret
                exact ⟨rfl, below_tr HA6.out (below_tr (below_drewN (Below.refl _ _) _) hb7)⟩
end Go.Proofs.YtnpdpfkoghhioaaDoor
