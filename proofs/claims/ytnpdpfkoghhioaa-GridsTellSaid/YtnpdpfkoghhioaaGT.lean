/- The chapter's examples: does returns true. -/
import Derived.Test.YtnpdpfkoghhioaaGS
import Derived.Deep.RegionHeld3
namespace Go.Proofs.Ytnpdpfkoghhioaa
open Go.RowKit

def Held (N : Nat) (W w : World) : Prop := (∀ b o, b < N → w.cell? ⟨b, o, none⟩ = W.cell? ⟨b, o, none⟩) ∧ Below N W w
theorem Held.call {N : Nat} {W w1 w2 : World} (h : (∀ b o, b < N → w1.cell? ⟨b, o, none⟩ = W.cell? ⟨b, o, none⟩) ∧ Below N W w1) (hb : Below w1.heap.size w1 w2) (hN : N = W.heap.size) : (∀ b o, b < N → w2.cell? ⟨b, o, none⟩ = W.cell? ⟨b, o, none⟩) ∧ Below N W w2 := by
  have h2 : Below N W w2 := h.2.trans (hb.mono (by have := h.2.size; omega))
  exact ⟨fun b o hbo => h2.cell (p := ⟨b, o, none⟩) hbo, h2⟩
theorem Held.alloc {N : Nat} {W w1 : World} (h : (∀ b o, b < N → w1.cell? ⟨b, o, none⟩ = W.cell? ⟨b, o, none⟩) ∧ Below N W w1) (hN : N = W.heap.size) (o : Obj) : (∀ b c, b < N → (w1.alloc o).cell? ⟨b, c, none⟩ = W.cell? ⟨b, c, none⟩) ∧ Below N W (w1.alloc o) :=
  Held.call h ((Below.refl _ _).alloc (Nat.le_refl _) o) hN
theorem Held.drew {N : Nat} {W : World} : (∀ b o, b < N → W.drew.cell? ⟨b, o, none⟩ = W.cell? ⟨b, o, none⟩) ∧ Below N W W.drew :=
  ⟨fun _ _ _ => rfl, (Below.refl _ _).drew⟩

theorem agg_of {B : Nat} {w : World} {v : Value} {g : G} (h : OwnGrid B w v g) : ∃ ha hc, v = .agg #[.int .i64 g.rows, .int .i64 g.cols, .slice ha g.cells.length hc, .int .i64 g.row, .int .i64 g.col] := by
  obtain ⟨ha, hc, hv, _⟩ := h
  exact ⟨ha, hc, hv⟩
def g0 : G := newG 2 8
def g1 : G := putG g0 1 3 120
theorem small0 : Small g0 := by
  refine ⟨by decide, fun r hr => ?_⟩
  have : r = List.replicate 8 32 := by simpa [g0, newG] using hr
  rw [this]; decide
theorem small1 : Small g1 := by
  have : g1.cells = [List.replicate 8 32, [32, 32, 32, 120, 32, 32, 32, 32]] := by decide
  rw [Small, this]
  refine ⟨by decide, fun r hr => ?_⟩
  simp at hr
  rcases hr with rfl | rfl <;> decide

theorem put120 (v : Value) (g : G) (i k : Int) (w : World) (h : GridAt w.heap.size w v g) (hb : Small g) :
    Calls Try.prog 16 #[v, .int .i64 i, .int .i64 k, .int .u8 120] w fun e w' => (∃ v', e = .returned v' ∧ OwnGrid w.heap.size w' v' (putG g i k 120)) ∧ Below w.heap.size w w' := put_any v g i k 120 w h hb
def t0 : List ByteArray := [⟨#[32, 32, 32, 32, 32, 32, 32, 32]⟩, ⟨#[32, 32, 32, 32, 32, 32, 32, 32]⟩]
def t1 : List ByteArray := [⟨#[32, 32, 32, 32, 32, 32, 32, 32]⟩, ⟨#[32, 32, 32, 120, 32, 32, 32, 32]⟩]
theorem texts0 : texts g0.cells = t0 := by decide
theorem texts1 : texts g1.cells = t1 := by decide
theorem lits {w : World} {t : TypeId} {T : List ByteArray} {x y : ByteArray} (hT : T = [x, y]) : TextsAt (w.alloc (.cells #[.string x, .string y] t (0, 0))) (.slice (some ⟨w.heap.size, 0, none⟩) 2 2) T := by
  subst hT
  refine ⟨_, _, rfl, fun _ => ⟨_, _, rfl, by rw [size_alloc]; omega, fun j hj => ?_⟩⟩
  rw [Nat.zero_add, new_box]
  match j, hj with
  | 0, _ => rfl
  | 1, _ => rfl
theorem litsD {w : World} {t : TypeId} {T : List ByteArray} {x y : ByteArray} (hT : T = [x, y]) : TextsAt (w.alloc (.cells #[.string x, .string y] t (0, 0))).drew (.slice (some ⟨w.heap.size, 0, none⟩) 2 2) T := lits hT
theorem TextsAt.later {w w' : World} {v : Value} {T : List ByteArray} (h : TextsAt w v T) (hb : Below w.heap.size w w') : TextsAt w' v T := by
  obtain ⟨a, c, hv, h⟩ := h
  refine ⟨a, c, hv, fun hne => ?_⟩
  obtain ⟨b, o, ha, hlt, hc⟩ := h hne
  exact ⟨b, o, ha, Nat.lt_of_lt_of_le hlt hb.size, fun j hj => (hb.cell (p := ⟨b, o + j, none⟩) hlt).trans (hc j hj)⟩

set_option maxRecDepth 100000 in
set_option maxHeartbeats 4000000 in
theorem does_any (w : World) : Calls Try.prog 12 #[] w fun e w' => e = .returned (.bool true) ∧ Below w.heap.size w w' := by
  have C1 : ∀ w, Hid (Calls Try.prog 9 #[.int .i64 2, .int .i64 8] w fun e w' => (∃ gv, e = .returned (.tuple #[gv, .int .i64 0]) ∧ OwnGrid w.heap.size w' gv g0) ∧ Below w.heap.size w w') := fun w => Lib.hid (new_any 2 8 w)
  have C2 : ∀ w, Hid (Calls Try.prog 9 #[.int .i64 1, .int .i64 8] w fun e w' => (∃ gv, e = .returned (.tuple #[gv, .int .i64 2]) ∧ OwnGrid w.heap.size w' gv zeroG) ∧ Below w.heap.size w w') := fun w => Lib.hid (new_any 1 8 w)
  have C3 : ∀ w, Hid (Calls Try.prog 9 #[.int .i64 2, .int .i64 133] w fun e w' => (∃ gv, e = .returned (.tuple #[gv, .int .i64 2]) ∧ OwnGrid w.heap.size w' gv zeroG) ∧ Below w.heap.size w w') := fun w => Lib.hid (new_any 2 133 w)
  go_enter Try.func12, Try.ntmps12
  go_wp2_with fail
  (with_reducible refine (C1 _).out.mono ?_); rintro e w1 ⟨⟨v1, rfl, ho1⟩, hb1⟩
  obtain ⟨h1, k1, rfl⟩ := agg_of ho1
  go_wp2_with fail
  generalize hW1 : World.alloc w1 _ = W1
  have bx1 : Box5 W1 w1.heap.size 24 (.int .i64 g0.rows) (.int .i64 g0.cols) (.slice h1 g0.cells.length k1) (.int .i64 g0.row) (.int .i64 g0.col) := by rw [← hW1]; unfold Box5; rw [heap_alloc, if_pos rfl]
  have hB1 : Below w1.heap.size w1 W1 := by rw [← hW1]; exact (Below.refl _ _).alloc (Nat.le_refl _) _
  have gr1 : GridAt W1.heap.size W1 _ g0 := ho1.at.later hB1
  have HB1 : Below w.heap.size w W1 := below_tr hb1 hB1
  have Hbx1 := Lib.hid bx1
  have Hgr1 := Lib.hid gr1
  clear ho1 hW1 bx1 gr1
  (with_reducible refine (C2 _).out.mono ?_); rintro e w2 ⟨⟨v2, rfl, ho2⟩, hb2⟩
  obtain ⟨h2, k2, rfl⟩ := agg_of ho2
  go_wp2_with fail
  generalize hW2 : World.alloc w2 _ = W2
  have hB2 : Below W1.heap.size W1 W2 := by rw [← hW2]; exact hb2.alloc hb2.size _
  have HB2 := below_tr HB1 hB2
  clear ho2 hW2
  (with_reducible refine (C3 _).out.mono ?_); rintro e w3 ⟨⟨v3, rfl, ho3⟩, hb3⟩
  obtain ⟨h3, k3, rfl⟩ := agg_of ho3
  have bx1 : Box5 w3 _ _ _ _ _ _ _ := (Hbx1.out.below hB2 Hbx1.out.lt).below hb3 (Nat.lt_of_lt_of_le Hbx1.out.lt hB2.size)
  have Hbx3 := Lib.hid bx1
  have a0 := fun o => (bx1.alloc' o).c0
  have a1 := fun o => (bx1.alloc' o).c1
  have a2 := fun o => (bx1.alloc' o).c2
  have a3 := fun o => (bx1.alloc' o).c3
  have a4 := fun o => (bx1.alloc' o).c4
  clear bx1
  go_wp2_with fail
  clear a0 a1 a2 a3 a4
  generalize hW3 : World.alloc w3 _ = W3
  have hB3 : Below W2.heap.size W2 W3 := by rw [← hW3]; exact hb3.alloc hb3.size _
  have HB3 := below_tr HB2 hB3
  have gr1 := (Hgr1.out.later hB2).later hB3
  have bx1 := Lib.hid ((Hbx1.out.below hB2 Hbx1.out.lt).below hB3 (Nat.lt_of_lt_of_le Hbx1.out.lt hB2.size))
  have C4 := Lib.hid (put120 _ g0 1 3 W3 gr1 small0)
  have Hgr3 := Lib.hid gr1
  clear gr1 ho3 hW3
  (with_reducible refine C4.out.mono ?_); rintro e w4 ⟨⟨v4, rfl, ho4⟩, hb4⟩
  obtain ⟨h4, k4, rfl⟩ := agg_of ho4
  go_wp2_with fail
  generalize hW4 : World.alloc w4 _ = W4
  have hB4 : Below W3.heap.size W3 W4 := by rw [← hW4]; exact hb4.alloc hb4.size _
  have HB4 := below_tr HB3 hB4
  have e4 : ∀ c, c < w4.heap.size → W4.heap[c]? = w4.heap[c]? := fun c hc => by rw [← hW4, heap_alloc, if_neg (by omega)]
  have hB4' : Below w4.heap.size w4 W4 := by rw [← hW4]; exact (Below.refl _ _).alloc (Nat.le_refl _) _
  have g4 : GridAt W4.heap.size W4 (.agg #[.int .i64 g1.rows, .int .i64 g1.cols, .slice h4 g1.cells.length k4, .int .i64 g1.row, .int .i64 g1.col]) g1 := ho4.at.later hB4'
  have g3 := Hgr3.out.later hB4
  have k3 : Box5 W4 _ _ _ _ _ _ _ := bx1.out.below hB4 bx1.out.lt
  have k4' : Box5 W4 w4.heap.size 24 (.int .i64 g1.rows) (.int .i64 g1.cols) (.slice h4 g1.cells.length k4) (.int .i64 g1.row) (.int .i64 g1.col) := by rw [← hW4]; unfold Box5; rw [heap_alloc, if_pos rfl]; rfl
  have G3 := Lib.hid g3
  have G4 := Lib.hid g4
  clear g3 g4 hW4 e4 ho4 Hgr3 Hgr1 C1 C2 C3 Hbx1 Hbx3 bx1
  have l1 := k3.lt
  have l4 := k4'.lt
  have c0 := k3.c0
  have c1 := k3.c1
  have c2 := k3.c2
  have c3 := k3.c3
  have c4 := k3.c4
  have d0 := k4'.c0
  have d1 := k4'.c1
  have d2 := k4'.c2
  have d3 := k4'.c3
  have d4 := k4'.c4
  clear k3 k4'
  have T1 : ∀ w5, Below W4.heap.size W4 w5 → Hid (Calls Try.prog 21 #[.agg #[.int .i64 g1.rows, .int .i64 g1.cols, .slice h4 g1.cells.length k4, .int .i64 g1.row, .int .i64 g1.col]] w5 fun e w' => (∃ v', e = .returned v' ∧ TextsAt w' v' t1) ∧ Below w5.heap.size w5 w') := by
    intro w5 hb; rw [← texts1]; exact Lib.hid (text_any _ g1 w5 (G4.out.later hb) small1)
  have T0 : ∀ w5, Below W4.heap.size W4 w5 → Hid (Calls Try.prog 21 #[.agg #[.int .i64 g0.rows, .int .i64 g0.cols, .slice h1 g0.cells.length k1, .int .i64 g0.row, .int .i64 g0.col]] w5 fun e w' => (∃ v', e = .returned v' ∧ TextsAt w' v' t0) ∧ Below w5.heap.size w5 w') := by
    intro w5 hb; rw [← texts0]; exact Lib.hid (text_any _ g0 w5 (G3.out.later hb) small0)
  have P0 : ∀ w5, Below W4.heap.size W4 w5 → Hid (Calls Try.prog 16 #[.agg #[.int .i64 g0.rows, .int .i64 g0.cols, .slice h1 g0.cells.length k1, .int .i64 g0.row, .int .i64 g0.col], .int .i64 2, .int .i64 0, .int .u8 120] w5 fun e w' => (∃ v', e = .returned v' ∧ OwnGrid w5.heap.size w' v' g0) ∧ Below w5.heap.size w5 w') := by
    intro w5 hb
    have hx := put120 _ g0 2 0 w5 (G3.out.later hb) small0
    rw [show putG g0 2 0 120 = g0 by unfold putG; rw [if_neg (by decide)]] at hx
    exact Lib.hid hx
  have S1 : ∀ v w5, Below W4.heap.size W4 w5 → GridAt w5.heap.size w5 v g0 → Hid (Calls Try.prog 23 #[v, .agg #[.int .i64 g0.rows, .int .i64 g0.cols, .slice h1 g0.cells.length k1, .int .i64 g0.row, .int .i64 g0.col]] w5 fun e w' => e = .returned (.bool true) ∧ Below w5.heap.size w5 w') := by
    intro v w5 hb ho
    exact Lib.hid (same_any _ _ g0 g0 w5 ho (G3.out.later hb) small0.1 small0.1)
  have S2 : ∀ w5, Below W4.heap.size W4 w5 → Hid (Calls Try.prog 23 #[.agg #[.int .i64 g0.rows, .int .i64 g0.cols, .slice h1 g0.cells.length k1, .int .i64 g0.row, .int .i64 g0.col], .agg #[.int .i64 g1.rows, .int .i64 g1.cols, .slice h4 g1.cells.length k4, .int .i64 g1.row, .int .i64 g1.col]] w5 fun e w' => e = .returned (.bool false) ∧ Below w5.heap.size w5 w') := by
    intro w5 hb
    have hx := same_any _ _ g0 g1 w5 (G3.out.later hb) (G4.out.later hb) small0.1 small1.1
    rw [show sameB g0 g1 = false by decide] at hx
    exact Lib.hid hx
  have K1 : ∀ w5, Below W4.heap.size W4 w5 → Hid (Calls Try.prog 17 #[.agg #[.int .i64 g1.rows, .int .i64 g1.cols, .slice h4 g1.cells.length k4, .int .i64 g1.row, .int .i64 g1.col]] w5 fun e w' => e = .returned (.int .i64 0) ∧ Below w5.heap.size w5 w') := by
    intro w5 hb
    have hx := check_any _ g1 w5 (G4.out.later hb) small1
    rw [if_pos (show mayB g1 = true by decide)] at hx
    exact Lib.hid hx
  have TS : ∀ (T : List ByteArray) (v1 v2 : Value) (w5 : World), TextsAt w5 v1 T → TextsAt w5 v2 T → T.length ≤ 1000000 → Hid (Calls Try.prog 20 #[v1, v2] w5 fun e w' => e = .returned (.bool true) ∧ Below w5.heap.size w5 w') := by
    intro T v1 v2 w5 h1 h2 h3
    have hx := tsame_any v1 v2 T T w5 h1 h2 h3 h3
    rw [show decide (T = T) = true by simp] at hx
    exact Lib.hid hx
  go_region_held3 (fun w' => (∀ b o, b < W4.heap.size → w'.cell? ⟨b, o, none⟩ = W4.cell? ⟨b, o, none⟩) ∧ Below W4.heap.size W4 w') (first | exact Held.drew | exact Held.call (by assumption) (by assumption) rfl | exact Held.alloc (by assumption) rfl _)
    (first
      | (go_at_call 21; with_reducible (refine (T1 _ (And.right (by assumption))).out.mono ?_); rintro e w5 ⟨⟨v5, rfl, ht5⟩, hb5⟩)
      | (go_at_call 21; with_reducible (refine (T0 _ (And.right (by assumption))).out.mono ?_); rintro e w5 ⟨⟨v5, rfl, ht5⟩, hb5⟩)
      | (go_at_call 20; first
          | (with_reducible (refine (TS t1 _ _ _ (ht5.later ((Below.refl _ _).alloc (Nat.le_refl _) _)) (lits rfl) (by decide)).out.mono ?_); rintro e w6 ⟨rfl, hb6⟩)
          | (with_reducible (refine (TS t1 _ _ _ ht5 (TextsAt.later (lits rfl) hb5) (by decide)).out.mono ?_); rintro e w6 ⟨rfl, hb6⟩)
          | (with_reducible (refine (TS t1 _ _ _ ht5 (TextsAt.later (litsD rfl) hb5) (by decide)).out.mono ?_); rintro e w6 ⟨rfl, hb6⟩)
          | (with_reducible (refine (TS t0 _ _ _ (ht5.later ((Below.refl _ _).alloc (Nat.le_refl _) _)) (lits rfl) (by decide)).out.mono ?_); rintro e w6 ⟨rfl, hb6⟩)
          | (with_reducible (refine (TS t0 _ _ _ ht5 (TextsAt.later (lits rfl) hb5) (by decide)).out.mono ?_); rintro e w6 ⟨rfl, hb6⟩)
          | (with_reducible (refine (TS t0 _ _ _ ht5 (TextsAt.later (litsD rfl) hb5) (by decide)).out.mono ?_); rintro e w6 ⟨rfl, hb6⟩))
      | (go_at_call 16; with_reducible (refine (P0 _ (And.right (by assumption))).out.mono ?_); rintro e w7 ⟨⟨v7, rfl, ho7⟩, hb7⟩)
      | (go_at_call 23; with_reducible (refine (S1 _ _ (And.right (by assumption)) ho7.at).out.mono ?_); rintro e w8 ⟨rfl, hb8⟩)
      | (go_at_call 23; with_reducible (refine (S2 _ (And.right (by assumption))).out.mono ?_); rintro e w8 ⟨rfl, hb8⟩)
      | (go_at_call 17; with_reducible (refine (K1 _ (And.right (by assumption))).out.mono ?_); rintro e w9 ⟨rfl, hb9⟩))
  all_goals
    go_wp2_with fail
    go_ret
    exact ⟨rfl, below_tr HB4 (And.right (by assumption))⟩
end Go.Proofs.Ytnpdpfkoghhioaa
