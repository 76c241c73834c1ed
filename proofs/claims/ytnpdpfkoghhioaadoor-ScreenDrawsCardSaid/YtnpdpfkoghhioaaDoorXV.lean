/- The law ScreenDraws: its walk. -/
import Derived.Test.YtnpdpfkoghhioaaDoorXU
import Derived.Test.YtnpdpfkoghhioaaDoorXS
import Derived.Test.YtnpdpfkoghhioaaDoorYA
namespace Go.Proofs.YtnpdpfkoghhioaaDoor
open Go.RowKit

/-- What Draw hands back. -/
def gAt (s : SH) (t : Int) : G := if drawE s t = 0 then drawG s t.toNat else zeroG
theorem drawE_check {s : SH} {t : Int} (h : drawE s t = 0) : checkS s = 0 := by
  unfold drawE at h
  split at h
  · rename_i h0; exact h0
  · rename_i h0; exact absurd h h0
theorem gAt_len {s : SH} (hl : Lim s) (t : Int) : (gAt s t).cells.length ≤ 1000000 := by
  unfold gAt
  split
  · rename_i h
    have hF := fit_of hl (drawE_check h)
    rw [draw_len s _ hF]
    have := hF.r60
    omega
  · exact Nat.zero_le _
theorem same_self (g : G) : sameB g g = true := by simp [sameB]
theorem box5_new (w : World) (v0 v1 v2 v3 v4 : Value) (t : TypeId) : ∃ W, w.alloc (.cells #[v0, v1, v2, v3, v4] t) = W ∧ Below w.heap.size w W ∧ W.heap.size = w.heap.size + 1 ∧ Box5 W w.heap.size t v0 v1 v2 v3 v4 :=
  ⟨_, rfl, (Below.refl _ _).alloc (Nat.le_refl _) _, alloc_size _ _, by unfold Box5; rw [heap_alloc, if_pos rfl]⟩
/-- A grid's value in five cells. -/
def GVal (w : World) (r c : Int) (a : Option Addr) (n k : Nat) (x y : Int) (g : G) : Prop := GridAt w.heap.size w (.agg #[.int .i64 r, .int .i64 c, .slice a n k, .int .i64 x, .int .i64 y]) g
theorem gval_of {B : Nat} {w : World} {gv : Value} {g : G} (h : OwnGrid B w gv g) : ∃ r c a n k x y, gv = .agg #[.int .i64 r, .int .i64 c, .slice a n k, .int .i64 x, .int .i64 y] ∧ GVal w r c a n k x y g := by
  have h2 := h.at
  obtain ⟨a, k, hv, _⟩ := h
  rw [hv] at h2
  exact ⟨_, _, a, _, k, _, _, hv, h2⟩
theorem GVal.later {w w' : World} {r c : Int} {a : Option Addr} {n k : Nat} {x y : Int} {g : G} (h : GVal w r c a n k x y g) (hb : Below w.heap.size w w') : GVal w' r c a n k x y g := GridAt.later h hb
set_option maxRecDepth 100000 in
set_option maxHeartbeats 16000000 in
theorem screenDraws_walk (s : SH) (v : Value) (was top : Int) (w : World) (hT : TabOK w) (h : ShowAt w v s) (hn : s.lines.length ≤ 9223372036854775807) :
    Calls Tryd.prog 3 #[v, .int .i64 was, .int .i64 top] w fun e w' => e = .returned (.bool true) ∧ Below w.heap.size w w' := by
  obtain ⟨a, c, rfl, hX⟩ := h
  have HX := Lib.hid hX
  have HTB := Lib.hid hT
  obtain ⟨V, hV⟩ : ∃ V, V = Value.agg #[.slice a s.lines.length c, .int .i64 s.line, .int .i64 s.col, .string s.status, .bool s.typing, .int .i64 s.rows, .int .i64 s.cols] := ⟨_, rfl⟩
  have HV := Lib.hid hV
  have HSV : Hid (∀ wx, Below w.heap.size w wx → ShowAt wx (.agg #[.slice a s.lines.length c, .int .i64 s.line, .int .i64 s.col, .string s.status, .bool s.typing, .int .i64 s.rows, .int .i64 s.cols]) s) := Lib.hid (fun wx hb => ⟨a, c, rfl, HX.out.later hb⟩)
  have CB : Hid (∀ wx, Below w.heap.size w wx → Calls Tryd.prog 12 #[.agg #[.slice a s.lines.length c, .int .i64 s.line, .int .i64 s.col, .string s.status, .bool s.typing, .int .i64 s.rows, .int .i64 s.cols]] wx fun e w' => e = .returned (.bool (beyondS s)) ∧ Below wx.heap.size wx w') := Lib.hid (fun wx hb => beyond_any s _ wx (HSV.out wx hb) hn)
  have CL : Hid (∀ wx, Below w.heap.size w wx → Calls Tryd.prog 13 #[] wx fun e w' => e = .returned (.bool true) ∧ Below wx.heap.size wx w') := Lib.hid (fun wx hb => lives_any wx (HTB.out.later hb))
  have CO : Hid (∀ wx, Below w.heap.size w wx → Calls Tryd.prog 16 #[.agg #[.slice a s.lines.length c, .int .i64 s.line, .int .i64 s.col, .string s.status, .bool s.typing, .int .i64 s.rows, .int .i64 s.cols]] wx fun e w' => e = .returned (.agg #[.slice a s.lines.length c, .int .i64 s.line, .int .i64 s.col, .string s.status, .bool s.typing, .int .i64 s.rows, .int .i64 s.cols]) ∧ Below wx.heap.size wx w') := Lib.hid (fun wx hb => of29_any s _ wx (HSV.out wx hb))
  clear hX hT hV hn
  go_enter Tryd.func3, Tryd.ntmps3
  go_upto_region 1 with fail
  obtain ⟨W, hW, hbW, hsW, hbox⟩ := box7_new w (.slice a s.lines.length c) (.int .i64 s.line) (.int .i64 s.col) (.string s.status) (.bool s.typing) (.int .i64 s.rows) (.int .i64 s.cols) 26
  rw [hW]
  clear hW hsW
  obtain ⟨B0, hB0⟩ : ∃ B, B = w.heap.size := ⟨_, rfl⟩
  have HB0 := Lib.hid hB0
  rw [← hB0] at hbox ⊢
  have HBW := Lib.hid hbW
  have HBX := Lib.hid hbox
  clear hB0 hbW hbox
  have x0 := HBX.out.c0
  have x1 := HBX.out.c1
  have x2 := HBX.out.c2
  have x3 := HBX.out.c3
  have x4 := HBX.out.c4
  have x5 := HBX.out.c5
  have x6 := HBX.out.c6
  go_wp2_with fail
  (with_reducible refine (CB.out _ HBW.out).mono ?_); rintro e w1 ⟨rfl, hb1⟩
  have HB1 : Hid (Below W.heap.size W w1) := Lib.hid hb1
  have HA1 : Hid (Below w.heap.size w w1) := Lib.hid (below_tr HBW.out hb1)
  clear x0 x1 x2 x3 x4 x5 x6 hb1 CB
  cases hbe : beyondS s with
  | true =>
    clear hbe
    go_wp2_with fail
    (with_reducible refine (CL.out _ HA1.out).mono ?_); rintro e w2 ⟨rfl, hb2⟩
    go_wp2_with fail
    go_ret
    exact ⟨rfl, below_tr HA1.out hb2⟩
  | false =>
    obtain ⟨hl, hl12⟩ := beyond_lim hbe
    have HL := Lib.hid hl
    have HL12 := Lib.hid hl12
    clear hbe hl hl12
    have CT : Hid (∀ wx, Below w.heap.size w wx → Calls Tryd.prog 14 #[.agg #[.slice a s.lines.length c, .int .i64 s.line, .int .i64 s.col, .string s.status, .bool s.typing, .int .i64 s.rows, .int .i64 s.cols], .int .i64 was] wx fun e w' => (∃ T : Nat, e = .returned (.tuple #[.int .i64 (T : Nat), .int .i64 (checkS s)]) ∧ (checkS s = 0 → TopIs s was T) ∧ (checkS s ≠ 0 → T = 0)) ∧ Below wx.heap.size wx w') := Lib.hid (fun wx hb => sctop_any s _ wx (HTB.out.later hb) (HSV.out wx hb) HL.out was)
    have CD : Hid (∀ wx (t : Int), Below w.heap.size w wx → Calls Tryd.prog 17 #[.agg #[.slice a s.lines.length c, .int .i64 s.line, .int .i64 s.col, .string s.status, .bool s.typing, .int .i64 s.rows, .int .i64 s.cols], .int .i64 t] wx fun e w' => (∃ r c a n k x y, e = .returned (.tuple #[.agg #[.int .i64 r, .int .i64 c, .slice a n k, .int .i64 x, .int .i64 y], .int .i64 (drawE s t)]) ∧ GVal w' r c a n k x y (gAt s t)) ∧ Below wx.heap.size wx w') := Lib.hid (fun wx t hb => by
      refine (sdraw_any s _ wx (HTB.out.later hb) (HSV.out wx hb) HL.out t).mono ?_
      rintro e w' ⟨⟨gv, he, hg⟩, hb⟩
      obtain ⟨r, c, a, n, k, x, y, hv, hg⟩ := gval_of hg
      rw [hv] at he
      exact ⟨⟨r, c, a, n, k, x, y, he, hg⟩, hb⟩)
    have CR : Hid (∀ wx (t : Int), Below w.heap.size w wx → Calls Tryd.prog 18 #[.agg #[.slice a s.lines.length c, .int .i64 s.line, .int .i64 s.col, .string s.status, .bool s.typing, .int .i64 s.rows, .int .i64 s.cols], .int .i64 t] wx fun e w' => (∃ r c a n k x y, e = .returned (.tuple #[.agg #[.int .i64 r, .int .i64 c, .slice a n k, .int .i64 x, .int .i64 y], .int .i64 (drawE s t)]) ∧ GVal w' r c a n k x y (gAt s t)) ∧ Below wx.heap.size wx w') := Lib.hid (fun wx t hb => by
      refine (rdraw_any s _ wx (HTB.out.later hb) (HSV.out wx hb) HL.out HL12.out t).mono ?_
      rintro e w' ⟨⟨gv, he, hg⟩, hb⟩
      obtain ⟨r, c, a, n, k, x, y, hv, hg⟩ := gval_of hg
      rw [hv] at he
      exact ⟨⟨r, c, a, n, k, x, y, he, hg⟩, hb⟩)
    have HLW_1 := HB1
    have HLo_1 := HA1
    have x0 := (HBX.out.later HLW_1.out).c0
    have x1 := (HBX.out.later HLW_1.out).c1
    have x2 := (HBX.out.later HLW_1.out).c2
    have x3 := (HBX.out.later HLW_1.out).c3
    have x4 := (HBX.out.later HLW_1.out).c4
    have x5 := (HBX.out.later HLW_1.out).c5
    have x6 := (HBX.out.later HLW_1.out).c6
    go_wp2_with fail
    (with_reducible refine (CT.out _ HLo_1.out).mono ?_); rintro e w2 ⟨⟨T, rfl, hT1, hT2⟩, hb2⟩
    have HLW_2 := Lib.hid (below_tr HLW_1.out hb2)
    have HLo_2 := Lib.hid (below_tr HLo_1.out hb2)
    clear hb2 x0 x1 x2 x3 x4 x5 x6
    have CU : Hid (∀ wx, Below w.heap.size w wx → Calls Tryd.prog 15 #[.agg #[.slice a s.lines.length c, .int .i64 s.line, .int .i64 s.col, .string s.status, .bool s.typing, .int .i64 s.rows, .int .i64 s.cols], .int .i64 was] wx fun e w' => e = .returned (.tuple #[.int .i64 (T : Nat), .int .i64 (checkS s)]) ∧ Below wx.heap.size wx w') := Lib.hid (fun wx hb => by
      refine (rctop_any s _ wx (HTB.out.later hb) (HSV.out wx hb) HL.out was).mono ?_
      rintro e w' ⟨⟨U, he, hU1, hU2⟩, hb⟩
      have hUT : U = T := by
        by_cases h0 : checkS s = 0
        · exact top_one (hU1 h0) (hT1 h0)
        · rw [hU2 h0, hT2 h0]
      rw [hUT] at he
      exact ⟨he, hb⟩)
    clear hT1 hT2 CT
    have x0 := (HBX.out.later HLW_2.out).c0
    have x1 := (HBX.out.later HLW_2.out).c1
    have x2 := (HBX.out.later HLW_2.out).c2
    have x3 := (HBX.out.later HLW_2.out).c3
    have x4 := (HBX.out.later HLW_2.out).c4
    have x5 := (HBX.out.later HLW_2.out).c5
    have x6 := (HBX.out.later HLW_2.out).c6
    go_wp2_with fail
    (with_reducible refine (CO.out _ HLo_2.out).mono ?_); rintro e w3 ⟨rfl, hb3⟩
    have HLW_3 := Lib.hid (below_tr HLW_2.out hb3)
    have HLo_3 := Lib.hid (below_tr HLo_2.out hb3)
    clear hb3 x0 x1 x2 x3 x4 x5 x6
    go_wp2_with fail
    (with_reducible refine (CU.out _ HLo_3.out).mono ?_); rintro e w4 ⟨rfl, hb4⟩
    have HLW_4 := Lib.hid (below_tr HLW_3.out hb4)
    have HLo_4 := Lib.hid (below_tr HLo_3.out hb4)
    clear hb4 CU
    have x0 := (HBX.out.later HLW_4.out).c0
    have x1 := (HBX.out.later HLW_4.out).c1
    have x2 := (HBX.out.later HLW_4.out).c2
    have x3 := (HBX.out.later HLW_4.out).c3
    have x4 := (HBX.out.later HLW_4.out).c4
    have x5 := (HBX.out.later HLW_4.out).c5
    have x6 := (HBX.out.later HLW_4.out).c6
    go_wp2_with fail
    (with_reducible refine (CD.out _ top HLo_4.out).mono ?_); rintro e w5 ⟨⟨r1, c1, a1, n1, k1, x1_, y1_, rfl, hg1⟩, hb5⟩
    have HLW_5 := Lib.hid (below_tr HLW_4.out hb5)
    have HLo_5 := Lib.hid (below_tr HLo_4.out hb5)
    clear hb5 x0 x1 x2 x3 x4 x5 x6
    go_upto_region 6 with fail
    obtain ⟨w6, hw6, hb6, _, hx6⟩ := box5_new w5 (.int .i64 r1) (.int .i64 c1) (.slice a1 n1 k1) (.int .i64 x1_) (.int .i64 y1_) 37
    rw [hw6]
    have HGV1 := Lib.hid (hg1.later hb6)
    obtain ⟨G1, hG1⟩ : ∃ G, G = w5.heap.size := ⟨_, rfl⟩
    rw [← hG1] at hx6 ⊢
    have HGB1 := Lib.hid hx6
    have HLW_6 := Lib.hid (below_tr HLW_5.out hb6)
    have HLo_6 := Lib.hid (below_tr HLo_5.out hb6)
    clear hw6 hb6 hx6 hG1 hg1
    have HL6_6 : Hid (Below w6.heap.size w6 w6) := Lib.hid (Below.refl _ _)
    have x0 := (HBX.out.later HLW_6.out).c0
    have x1 := (HBX.out.later HLW_6.out).c1
    have x2 := (HBX.out.later HLW_6.out).c2
    have x3 := (HBX.out.later HLW_6.out).c3
    have x4 := (HBX.out.later HLW_6.out).c4
    have x5 := (HBX.out.later HLW_6.out).c5
    have x6 := (HBX.out.later HLW_6.out).c6
    go_wp2_with fail
    (with_reducible refine (CO.out _ HLo_6.out).mono ?_); rintro e w7 ⟨rfl, hb7⟩
    have HLW_7 := Lib.hid (below_tr HLW_6.out hb7)
    have HLo_7 := Lib.hid (below_tr HLo_6.out hb7)
    have HL6_7 := Lib.hid (below_tr HL6_6.out hb7)
    clear hb7 x0 x1 x2 x3 x4 x5 x6
    go_wp2_with fail
    (with_reducible refine (CR.out _ top HLo_7.out).mono ?_); rintro e w8 ⟨⟨r2, c2, a2, n2, k2, x2_, y2_, rfl, hg2⟩, hb8⟩
    have HLW_8 := Lib.hid (below_tr HLW_7.out hb8)
    have HLo_8 := Lib.hid (below_tr HLo_7.out hb8)
    have HL6_8 := Lib.hid (below_tr HL6_7.out hb8)
    clear hb8
    go_upto_region 7 with fail
    obtain ⟨w9, hw9, hb9, _, hx9⟩ := box5_new w8 (.int .i64 r2) (.int .i64 c2) (.slice a2 n2 k2) (.int .i64 x2_) (.int .i64 y2_) 37
    rw [hw9]
    have HGV2 := Lib.hid (hg2.later hb9)
    obtain ⟨G2, hG2⟩ : ∃ G, G = w8.heap.size := ⟨_, rfl⟩
    rw [← hG2] at hx9 ⊢
    have HGB2 := Lib.hid hx9
    have HLW_9 := Lib.hid (below_tr HLW_8.out hb9)
    have HLo_9 := Lib.hid (below_tr HLo_8.out hb9)
    have HL6_9 := Lib.hid (below_tr HL6_8.out hb9)
    clear hw9 hb9 hx9 hG2 hg2
    have HL9_9 : Hid (Below w9.heap.size w9 w9) := Lib.hid (Below.refl _ _)
    have x0 := (HBX.out.later HLW_9.out).c0
    have x1 := (HBX.out.later HLW_9.out).c1
    have x2 := (HBX.out.later HLW_9.out).c2
    have x3 := (HBX.out.later HLW_9.out).c3
    have x4 := (HBX.out.later HLW_9.out).c4
    have x5 := (HBX.out.later HLW_9.out).c5
    have x6 := (HBX.out.later HLW_9.out).c6
    go_wp2_with fail
    (with_reducible refine (CD.out _ (T : Int) HLo_9.out).mono ?_); rintro e wa ⟨⟨r3, c3, a3, n3, k3, x3_, y3_, rfl, hg3⟩, hba⟩
    have HLW_a := Lib.hid (below_tr HLW_9.out hba)
    have HLo_a := Lib.hid (below_tr HLo_9.out hba)
    have HL6_a := Lib.hid (below_tr HL6_9.out hba)
    have HL9_a := Lib.hid (below_tr HL9_9.out hba)
    clear hba x0 x1 x2 x3 x4 x5 x6
    go_upto_region 8 with fail
    obtain ⟨wb, hwb, hbb, _, hxb⟩ := box5_new wa (.int .i64 r3) (.int .i64 c3) (.slice a3 n3 k3) (.int .i64 x3_) (.int .i64 y3_) 37
    rw [hwb]
    have HGV3 := Lib.hid (hg3.later hbb)
    obtain ⟨G3, hG3⟩ : ∃ G, G = wa.heap.size := ⟨_, rfl⟩
    rw [← hG3] at hxb ⊢
    have HGB3 := Lib.hid hxb
    have HLW_b := Lib.hid (below_tr HLW_a.out hbb)
    have HLo_b := Lib.hid (below_tr HLo_a.out hbb)
    have HL6_b := Lib.hid (below_tr HL6_a.out hbb)
    have HL9_b := Lib.hid (below_tr HL9_a.out hbb)
    clear hwb hbb hxb hG3 hg3
    have HLb_b : Hid (Below wb.heap.size wb wb) := Lib.hid (Below.refl _ _)
    have x0 := (HBX.out.later HLW_b.out).c0
    have x1 := (HBX.out.later HLW_b.out).c1
    have x2 := (HBX.out.later HLW_b.out).c2
    have x3 := (HBX.out.later HLW_b.out).c3
    have x4 := (HBX.out.later HLW_b.out).c4
    have x5 := (HBX.out.later HLW_b.out).c5
    have x6 := (HBX.out.later HLW_b.out).c6
    go_wp2_with fail
    (with_reducible refine (CO.out _ HLo_b.out).mono ?_); rintro e wc ⟨rfl, hbc⟩
    have HLW_c := Lib.hid (below_tr HLW_b.out hbc)
    have HLo_c := Lib.hid (below_tr HLo_b.out hbc)
    have HL6_c := Lib.hid (below_tr HL6_b.out hbc)
    have HL9_c := Lib.hid (below_tr HL9_b.out hbc)
    have HLb_c := Lib.hid (below_tr HLb_b.out hbc)
    clear hbc x0 x1 x2 x3 x4 x5 x6
    go_wp2_with fail
    (with_reducible refine (CR.out _ (T : Int) HLo_c.out).mono ?_); rintro e wd ⟨⟨r4, c4, a4, n4, k4, x4_, y4_, rfl, hg4⟩, hbd⟩
    have HLW_d := Lib.hid (below_tr HLW_c.out hbd)
    have HLo_d := Lib.hid (below_tr HLo_c.out hbd)
    have HL6_d := Lib.hid (below_tr HL6_c.out hbd)
    have HL9_d := Lib.hid (below_tr HL9_c.out hbd)
    have HLb_d := Lib.hid (below_tr HLb_c.out hbd)
    clear hbd
    go_upto_region 9 with fail
    obtain ⟨we, hwe, hbe, _, hxe⟩ := box5_new wd (.int .i64 r4) (.int .i64 c4) (.slice a4 n4 k4) (.int .i64 x4_) (.int .i64 y4_) 37
    rw [hwe]
    have HGV4 := Lib.hid (hg4.later hbe)
    obtain ⟨G4, hG4⟩ : ∃ G, G = wd.heap.size := ⟨_, rfl⟩
    rw [← hG4] at hxe ⊢
    have HGB4 := Lib.hid hxe
    have HLW_e := Lib.hid (below_tr HLW_d.out hbe)
    have HLo_e := Lib.hid (below_tr HLo_d.out hbe)
    have HL6_e := Lib.hid (below_tr HL6_d.out hbe)
    have HL9_e := Lib.hid (below_tr HL9_d.out hbe)
    have HLb_e := Lib.hid (below_tr HLb_d.out hbe)
    clear hwe hbe hxe hG4 hg4
    have HLe_e : Hid (Below we.heap.size we we) := Lib.hid (Below.refl _ _)
    have e1 : ((T : Int) == (T : Int)) = true := by simp
    have e2 : (checkS s == checkS s) = true := by simp
    have e3 : (drawE s top == drawE s top) = true := by simp
    have e4 : (drawE s (T : Int) == drawE s (T : Int)) = true := by simp
    have CS1 : Hid (Calls Tryd.prog 19 #[.agg #[.int .i64 r1, .int .i64 c1, .slice a1 n1 k1, .int .i64 x1_, .int .i64 y1_], .agg #[.int .i64 r2, .int .i64 c2, .slice a2 n2 k2, .int .i64 x2_, .int .i64 y2_]] we fun e w' => e = .returned (.bool true) ∧ Below we.heap.size we w') := Lib.hid (by
      have h0 := same_any _ _ _ _ we (HGV1.out.later HL6_e.out) (HGV2.out.later HL9_e.out) (gAt_len HL.out _) (gAt_len HL.out _)
      rw [same_self] at h0
      exact h0)
    have pz0 := (HGB1.out.below HL6_e.out HGB1.out.lt').c0
    have pz1 := (HGB1.out.below HL6_e.out HGB1.out.lt').c1
    have pz2 := (HGB1.out.below HL6_e.out HGB1.out.lt').c2
    have pz3 := (HGB1.out.below HL6_e.out HGB1.out.lt').c3
    have pz4 := (HGB1.out.below HL6_e.out HGB1.out.lt').c4
    have qz0 := (HGB2.out.below HL9_e.out HGB2.out.lt').c0
    have qz1 := (HGB2.out.below HL9_e.out HGB2.out.lt').c1
    have qz2 := (HGB2.out.below HL9_e.out HGB2.out.lt').c2
    have qz3 := (HGB2.out.below HL9_e.out HGB2.out.lt').c3
    have qz4 := (HGB2.out.below HL9_e.out HGB2.out.lt').c4
    go_wp2_with fail
    (with_reducible refine CS1.out.mono ?_); rintro e wf ⟨rfl, hbf⟩
    have HLW_f := Lib.hid (below_tr HLW_e.out hbf)
    have HLo_f := Lib.hid (below_tr HLo_e.out hbf)
    have HL6_f := Lib.hid (below_tr HL6_e.out hbf)
    have HL9_f := Lib.hid (below_tr HL9_e.out hbf)
    have HLb_f := Lib.hid (below_tr HLb_e.out hbf)
    have HLe_f := Lib.hid (below_tr HLe_e.out hbf)
    clear hbf pz0 pz1 pz2 pz3 pz4 qz0 qz1 qz2 qz3 qz4 CS1
    have CS2 : Hid (Calls Tryd.prog 19 #[.agg #[.int .i64 r3, .int .i64 c3, .slice a3 n3 k3, .int .i64 x3_, .int .i64 y3_], .agg #[.int .i64 r4, .int .i64 c4, .slice a4 n4 k4, .int .i64 x4_, .int .i64 y4_]] wf fun e w' => e = .returned (.bool true) ∧ Below wf.heap.size wf w') := Lib.hid (by
      have h0 := same_any _ _ _ _ wf (HGV3.out.later HLb_f.out) (HGV4.out.later HLe_f.out) (gAt_len HL.out _) (gAt_len HL.out _)
      rw [same_self] at h0
      exact h0)
    have rz0 := (HGB3.out.below HLb_f.out HGB3.out.lt').c0
    have rz1 := (HGB3.out.below HLb_f.out HGB3.out.lt').c1
    have rz2 := (HGB3.out.below HLb_f.out HGB3.out.lt').c2
    have rz3 := (HGB3.out.below HLb_f.out HGB3.out.lt').c3
    have rz4 := (HGB3.out.below HLb_f.out HGB3.out.lt').c4
    have sz0 := (HGB4.out.below HLe_f.out HGB4.out.lt').c0
    have sz1 := (HGB4.out.below HLe_f.out HGB4.out.lt').c1
    have sz2 := (HGB4.out.below HLe_f.out HGB4.out.lt').c2
    have sz3 := (HGB4.out.below HLe_f.out HGB4.out.lt').c3
    have sz4 := (HGB4.out.below HLe_f.out HGB4.out.lt').c4
    go_wp2_with fail
    (with_reducible refine CS2.out.mono ?_); rintro e wg ⟨rfl, hbg⟩
    have HLW_g := Lib.hid (below_tr HLW_f.out hbg)
    have HLo_g := Lib.hid (below_tr HLo_f.out hbg)
    have HL6_g := Lib.hid (below_tr HL6_f.out hbg)
    have HL9_g := Lib.hid (below_tr HL9_f.out hbg)
    have HLb_g := Lib.hid (below_tr HLb_f.out hbg)
    have HLe_g := Lib.hid (below_tr HLe_f.out hbg)
    clear hbg rz0 rz1 rz2 rz3 rz4 sz0 sz1 sz2 sz3 sz4 CS2
    go_wp2_with fail
    (with_reducible refine (CL.out _ HLo_g.out).mono ?_); rintro e wh ⟨rfl, hbh⟩
    go_wp2_with fail
    go_ret
    exact ⟨rfl, below_tr HLo_g.out hbh⟩
end Go.Proofs.YtnpdpfkoghhioaaDoor
