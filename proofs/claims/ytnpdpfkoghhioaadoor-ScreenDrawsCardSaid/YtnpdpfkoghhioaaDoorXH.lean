/- screen: check. -/
import Derived.Test.YtnpdpfkoghhioaaDoorXF
import Derived.BigQuiet
import Derived.Laws.Cover1
namespace Go.Proofs.YtnpdpfkoghhioaaDoor
open Go.RowKit

/-! ### A box of seven cells -/
def Box7 (w : World) (b : Nat) (t : TypeId) (v0 v1 v2 v3 v4 v5 v6 : Value) : Prop := w.heap[b]? = some (.cells #[v0, v1, v2, v3, v4, v5, v6] t (0, 0))
section
variable {w : World} {b : Nat} {t : TypeId} {v0 v1 v2 v3 v4 v5 v6 : Value}
theorem Box7.c0 (h : Box7 w b t v0 v1 v2 v3 v4 v5 v6) : w.cell? ⟨b, 0, none⟩ = some v0 := by unfold Box7 at h; simp [World.cell?, h]
theorem Box7.c1 (h : Box7 w b t v0 v1 v2 v3 v4 v5 v6) : w.cell? ⟨b, 1, none⟩ = some v1 := by unfold Box7 at h; simp [World.cell?, h]
theorem Box7.c2 (h : Box7 w b t v0 v1 v2 v3 v4 v5 v6) : w.cell? ⟨b, 2, none⟩ = some v2 := by unfold Box7 at h; simp [World.cell?, h]
theorem Box7.c3 (h : Box7 w b t v0 v1 v2 v3 v4 v5 v6) : w.cell? ⟨b, 3, none⟩ = some v3 := by unfold Box7 at h; simp [World.cell?, h]
theorem Box7.c4 (h : Box7 w b t v0 v1 v2 v3 v4 v5 v6) : w.cell? ⟨b, 4, none⟩ = some v4 := by unfold Box7 at h; simp [World.cell?, h]
theorem Box7.c5 (h : Box7 w b t v0 v1 v2 v3 v4 v5 v6) : w.cell? ⟨b, 5, none⟩ = some v5 := by unfold Box7 at h; simp [World.cell?, h]
theorem Box7.c6 (h : Box7 w b t v0 v1 v2 v3 v4 v5 v6) : w.cell? ⟨b, 6, none⟩ = some v6 := by unfold Box7 at h; simp [World.cell?, h]
theorem Box7.lt (h : Box7 w b t v0 v1 v2 v3 v4 v5 v6) : b < w.heap.size := (Array.getElem?_eq_some_iff.1 h).1
theorem Box7.eq {w' : World} (h : Box7 w b t v0 v1 v2 v3 v4 v5 v6) (e : w'.heap[b]? = w.heap[b]?) : Box7 w' b t v0 v1 v2 v3 v4 v5 v6 := e.trans h
theorem Box7.later {w' : World} (h : Box7 w b t v0 v1 v2 v3 v4 v5 v6) (hb : Below w.heap.size w w') : Box7 w' b t v0 v1 v2 v3 v4 v5 v6 := h.eq (hb.block b h.lt)
end
theorem alloc_size (w : World) (o : Obj) : (w.alloc o).heap.size = w.heap.size + 1 := Array.size_push _
theorem at_cells {w : World} {b : Nat} {cur : Array Value} {t : TypeId} {fz : Nat × Nat} (h : w.heap[b]? = some (.cells cur t fz)) (k : Nat) : w.cell? ⟨b, k, none⟩ = cur[k]? := by unfold World.cell?; rw [h]; rfl
theorem box7_new (w : World) (v0 v1 v2 v3 v4 v5 v6 : Value) (t : TypeId) : ∃ W, w.alloc (.cells #[v0, v1, v2, v3, v4, v5, v6] t) = W ∧ Below w.heap.size w W ∧ W.heap.size = w.heap.size + 1 ∧ Box7 W w.heap.size t v0 v1 v2 v3 v4 v5 v6 :=
  ⟨_, rfl, (Below.refl _ _).alloc (Nat.le_refl _) _, alloc_size _ _, by unfold Box7; rw [heap_alloc, if_pos rfl]⟩
theorem box_two (w : World) (o : Obj) (a b : Value) (t : TypeId) : ∃ W, (w.alloc o).alloc (.cells #[a, b] t) = W ∧ Below w.heap.size w W ∧ W.cell? ⟨w.heap.size + 1, 0, none⟩ = some a ∧ W.cell? ⟨w.heap.size + 1, 1, none⟩ = some b := by
  have hs : (w.alloc o).heap.size = w.heap.size + 1 := alloc_size _ _
  have h : ((w.alloc o).alloc (.cells #[a, b] t)).heap[w.heap.size + 1]? = some (.cells #[a, b] t (0, 0)) := by rw [heap_alloc, if_pos (by rw [hs])]
  refine ⟨_, rfl, ((Below.refl _ _).alloc (Nat.le_refl _) o).alloc (by rw [hs]; omega) _, ?_, ?_⟩
  · exact at_cells h 0
  · exact at_cells h 1
theorem TextsAt.later {w w' : World} {v : Value} {T : List ByteArray} (h : TextsAt w v T) (hb : Below w.heap.size w w') : TextsAt w' v T := by
  obtain ⟨a, c, hv, h⟩ := h
  refine ⟨a, c, hv, fun hne => ?_⟩
  obtain ⟨b, o, ha, hlt, hc⟩ := h hne
  exact ⟨b, o, ha, Nat.lt_of_lt_of_le hlt hb.size, fun j hj => (hb.cell (p := ⟨b, o + j, none⟩) hlt).trans (hc j hj)⟩
/-- A text of a list, in memory. -/
theorem TextsAt.get {w : World} {a : Option Addr} {n c : Nat} {T : List ByteArray} (h : TextsAt w (.slice a n c) T) {k : Nat} (hk : k < T.length) :
    ∃ b o, a = some ⟨b, o, none⟩ ∧ b < w.heap.size ∧ w.cell? ⟨b, o + k, none⟩ = some (.string (T[k]?.getD ByteArray.empty)) := by
  obtain ⟨a', c', hv, h⟩ := h
  obtain ⟨b, o, ha, hlt, hc⟩ := h (by intro e; rw [e] at hk; simp at hk)
  injection hv with e1 _ _
  refine ⟨b, o, e1.trans ha, hlt, ?_⟩
  rw [hc k hk, List.getElem?_eq_getElem hk]; rfl
/-- What is to be shown, as a value. -/
def ShowAt (w : World) (v : Value) (s : SH) : Prop :=
  ∃ a c, v = .agg #[.slice a s.lines.length c, .int .i64 s.line, .int .i64 s.col, .string s.status, .bool s.typing, .int .i64 s.rows, .int .i64 s.cols] ∧ TextsAt w (.slice a s.lines.length c) s.lines
theorem ShowAt.later {w w' : World} {v : Value} {s : SH} (h : ShowAt w v s) (hb : Below w.heap.size w w') : ShowAt w' v s := by
  obtain ⟨a, c, hv, h⟩ := h
  exact ⟨a, c, hv, h.later hb⟩
theorem Lim.text {s : SH} (h : Lim s) (i : Nat) : (s.text i).size ≤ 1000 := by
  unfold SH.text
  cases e : s.lines[i - 1]? with
  | none => exact Nat.zero_le _
  | some x => exact h.t x (List.mem_of_getElem? e)
set_option maxRecDepth 100000 in
set_option maxHeartbeats 16000000 in
theorem scheck_any (s : SH) (v : Value) (w : World) (h : ShowAt w v s) (hl : Lim s) :
    Calls Tryd.prog 34 #[v] w fun e w' => e = .returned (.int .i64 (checkS s)) ∧ Below w.heap.size w w' := by
  obtain ⟨a, c, rfl, ht⟩ := h
  have HT := Lib.hid ht
  obtain ⟨n, hn⟩ : ∃ n, n = s.lines.length := ⟨_, rfl⟩
  have HN := Lib.hid hn
  obtain ⟨line, hline⟩ : ∃ x, x = s.line := ⟨_, rfl⟩
  obtain ⟨col, hcol⟩ : ∃ x, x = s.col := ⟨_, rfl⟩
  have hn1 := hl.n
  have HCS : Hid (checkS s = if sizedB s.rows s.cols = true then (if line = 0 ∧ col = 0 ∧ n = 0 then 0 else if line < 1 ∨ (n : Int) < line ∨ col < 0 ∨ ((s.text line.toNat).size : Int) < col then 2 else 0) else 2) := Lib.hid (by
    rw [hn, hline, hcol]; rfl)
  obtain ⟨E, hE⟩ : ∃ E, E = checkS s := ⟨_, rfl⟩
  rw [← hE] at HCS ⊢
  rw [← hn, ← hline, ← hcol]
  rw [← hn] at HT hn1
  have HLT := Lib.hid hl.text
  clear ht hn hline hcol hl hE
  have CN := fun wx => Lib.hid (new_any s.rows s.cols wx)
  by_cases hs : sizedB s.rows s.cols = true
  · simp only [hs, if_true] at CN HCS
    clear hs
    by_cases h0 : line = 0 ∧ col = 0 ∧ n = 0
    · obtain ⟨k0, k1, k2⟩ := h0
      have l1 : (line == 0) = true := by simpa using k0
      have c1 : (col == 0) = true := by simpa using k1
      have n1 : ((n : Int) == 0) = true := by simpa using k2
      have n2 : (n == 0) = true := by simpa using k2
      have HE : Hid (E = 0) := Lib.hid (by rw [HCS.out]; rw [if_pos ⟨k0, k1, k2⟩])
      clear HCS k0 k1 k2
      go_enter Tryd.func34, Tryd.ntmps34
      go_upto_region 1 with fail
      obtain ⟨W, hW, hbW, hsW, hbox⟩ := box7_new w (.slice a n c) (.int .i64 line) (.int .i64 col) (.string s.status) (.bool s.typing) (.int .i64 s.rows) (.int .i64 s.cols) 26
      rw [hW]
      clear hW
      have x5 := hbox.c5
      have x6 := hbox.c6
      go_wp2_with fail
      (with_reducible refine (CN _).out.mono ?_); rintro e w1 ⟨⟨gv, rfl, hg⟩, hb1⟩
      obtain ⟨ga, gc, rfl, _⟩ := hg
      clear CN x5 x6
      have hbox1 := hbox.later hb1
      have y0 := fun o => (hbox1.later ((Below.refl _ _).alloc (Nat.le_refl _) o)).c0
      have y1 := fun o => (hbox1.later ((Below.refl _ _).alloc (Nat.le_refl _) o)).c1
      have y2 := fun o => (hbox1.later ((Below.refl _ _).alloc (Nat.le_refl _) o)).c2
      go_upto_region 5 with fail
      obtain ⟨W2, hW2, hb2, p0, p1⟩ := box_two w1 (.cells #[.int .i64 (newG s.rows s.cols).rows, .int .i64 (newG s.rows s.cols).cols, .slice ga (newG s.rows s.cols).cells.length gc, .int .i64 (newG s.rows s.cols).row, .int .i64 (newG s.rows s.cols).col] 37) (.int .i64 line) (.int .i64 col) 24
      first | rw [hW2] | (trace_state; fail "hW2")
      clear hW2 y0 y1 y2
      have z0 := (hbox1.later hb2).c0
      have hbe : Below w.heap.size w W2 := below_tr (below_tr hbW hb1) hb2
      go_wp2_with fail
      go_ret
      exact ⟨by rw [HE.out]; rfl, hbe⟩
    · by_cases l0 : line = 0
      · have l1 : (line == 0) = true := by simpa using l0
        have d1 : decide (line < 1) = true := decide_eq_true (by omega)
        by_cases c0 : col = 0
        · have c1 : (col == 0) = true := by simpa using c0
          have n0 : ¬ n = 0 := fun e => h0 ⟨l0, c0, e⟩
          have n1 : ((n : Int) == 0) = false := by simpa using n0
          have HE : Hid (E = 2) := Lib.hid (by rw [HCS.out]; rw [if_neg h0, if_pos (.inl (by omega))])
          clear HCS h0 l0 c0
          go_enter Tryd.func34, Tryd.ntmps34
          go_upto_region 1 with fail
          obtain ⟨W, hW, hbW, hsW, hbox⟩ := box7_new w (.slice a n c) (.int .i64 line) (.int .i64 col) (.string s.status) (.bool s.typing) (.int .i64 s.rows) (.int .i64 s.cols) 26
          rw [hW]
          clear hW
          have x5 := hbox.c5
          have x6 := hbox.c6
          go_wp2_with fail
          (with_reducible refine (CN _).out.mono ?_); rintro e w1 ⟨⟨gv, rfl, hg⟩, hb1⟩
          obtain ⟨ga, gc, rfl, _⟩ := hg
          clear CN x5 x6
          have hbox1 := hbox.later hb1
          have y0 := fun o => (hbox1.later ((Below.refl _ _).alloc (Nat.le_refl _) o)).c0
          have y1 := fun o => (hbox1.later ((Below.refl _ _).alloc (Nat.le_refl _) o)).c1
          have y2 := fun o => (hbox1.later ((Below.refl _ _).alloc (Nat.le_refl _) o)).c2
          go_upto_region 5 with fail
          obtain ⟨W2, hW2, hb2, p0, p1⟩ := box_two w1 (.cells #[.int .i64 (newG s.rows s.cols).rows, .int .i64 (newG s.rows s.cols).cols, .slice ga (newG s.rows s.cols).cells.length gc, .int .i64 (newG s.rows s.cols).row, .int .i64 (newG s.rows s.cols).col] 37) (.int .i64 line) (.int .i64 col) 24
          first | rw [hW2] | (trace_state; fail "hW2")
          clear hW2 y0 y1 y2
          have z0 := (hbox1.later hb2).c0
          have hbe : Below w.heap.size w W2 := below_tr (below_tr hbW hb1) hb2
          go_upto_region 7 with fail
          go_quiet (fail)
          go_wp2_with fail
          go_ret
          exact ⟨by rw [HE.out]; rfl, below_drewN hbe _⟩
        · have c1 : (col == 0) = false := by simpa using c0
          have HE : Hid (E = 2) := Lib.hid (by rw [HCS.out]; rw [if_neg h0, if_pos (.inl (by omega))])
          clear HCS h0 l0
          go_enter Tryd.func34, Tryd.ntmps34
          go_upto_region 1 with fail
          obtain ⟨W, hW, hbW, hsW, hbox⟩ := box7_new w (.slice a n c) (.int .i64 line) (.int .i64 col) (.string s.status) (.bool s.typing) (.int .i64 s.rows) (.int .i64 s.cols) 26
          rw [hW]
          clear hW
          have x5 := hbox.c5
          have x6 := hbox.c6
          go_wp2_with fail
          (with_reducible refine (CN _).out.mono ?_); rintro e w1 ⟨⟨gv, rfl, hg⟩, hb1⟩
          obtain ⟨ga, gc, rfl, _⟩ := hg
          clear CN x5 x6
          have hbox1 := hbox.later hb1
          have y0 := fun o => (hbox1.later ((Below.refl _ _).alloc (Nat.le_refl _) o)).c0
          have y1 := fun o => (hbox1.later ((Below.refl _ _).alloc (Nat.le_refl _) o)).c1
          have y2 := fun o => (hbox1.later ((Below.refl _ _).alloc (Nat.le_refl _) o)).c2
          go_upto_region 5 with fail
          obtain ⟨W2, hW2, hb2, p0, p1⟩ := box_two w1 (.cells #[.int .i64 (newG s.rows s.cols).rows, .int .i64 (newG s.rows s.cols).cols, .slice ga (newG s.rows s.cols).cells.length gc, .int .i64 (newG s.rows s.cols).row, .int .i64 (newG s.rows s.cols).col] 37) (.int .i64 line) (.int .i64 col) 24
          first | rw [hW2] | (trace_state; fail "hW2")
          clear hW2 y0 y1 y2
          have z0 := (hbox1.later hb2).c0
          have hbe : Below w.heap.size w W2 := below_tr (below_tr hbW hb1) hb2
          go_upto_region 7 with fail
          go_quiet (fail)
          go_wp2_with fail
          go_ret
          exact ⟨by rw [HE.out]; rfl, below_drewN hbe _⟩
      · have l1 : (line == 0) = false := by simpa using l0
        by_cases h1 : line < 1
        · have d1 : decide (line < 1) = true := decide_eq_true h1
          have HE : Hid (E = 2) := Lib.hid (by rw [HCS.out]; rw [if_neg h0, if_pos (.inl h1)])
          clear HCS h0 l0
          go_enter Tryd.func34, Tryd.ntmps34
          go_upto_region 1 with fail
          obtain ⟨W, hW, hbW, hsW, hbox⟩ := box7_new w (.slice a n c) (.int .i64 line) (.int .i64 col) (.string s.status) (.bool s.typing) (.int .i64 s.rows) (.int .i64 s.cols) 26
          rw [hW]
          clear hW
          have x5 := hbox.c5
          have x6 := hbox.c6
          go_wp2_with fail
          (with_reducible refine (CN _).out.mono ?_); rintro e w1 ⟨⟨gv, rfl, hg⟩, hb1⟩
          obtain ⟨ga, gc, rfl, _⟩ := hg
          clear CN x5 x6
          have hbox1 := hbox.later hb1
          have y0 := fun o => (hbox1.later ((Below.refl _ _).alloc (Nat.le_refl _) o)).c0
          have y1 := fun o => (hbox1.later ((Below.refl _ _).alloc (Nat.le_refl _) o)).c1
          have y2 := fun o => (hbox1.later ((Below.refl _ _).alloc (Nat.le_refl _) o)).c2
          go_upto_region 5 with fail
          obtain ⟨W2, hW2, hb2, p0, p1⟩ := box_two w1 (.cells #[.int .i64 (newG s.rows s.cols).rows, .int .i64 (newG s.rows s.cols).cols, .slice ga (newG s.rows s.cols).cells.length gc, .int .i64 (newG s.rows s.cols).row, .int .i64 (newG s.rows s.cols).col] 37) (.int .i64 line) (.int .i64 col) 24
          first | rw [hW2] | (trace_state; fail "hW2")
          clear hW2 y0 y1 y2
          have z0 := (hbox1.later hb2).c0
          have hbe : Below w.heap.size w W2 := below_tr (below_tr hbW hb1) hb2
          go_upto_region 7 with fail
          go_quiet (fail)
          go_wp2_with fail
          go_ret
          exact ⟨by rw [HE.out]; rfl, below_drewN hbe _⟩
        · have d1 : decide (line < 1) = false := decide_eq_false h1
          by_cases h2 : (n : Int) < line
          · have d2 : decide ((n : Int) < line) = true := decide_eq_true h2
            have HE : Hid (E = 2) := Lib.hid (by rw [HCS.out]; rw [if_neg h0, if_pos (.inr (.inl h2))])
            clear HCS h0 l0
            go_enter Tryd.func34, Tryd.ntmps34
            go_upto_region 1 with fail
            obtain ⟨W, hW, hbW, hsW, hbox⟩ := box7_new w (.slice a n c) (.int .i64 line) (.int .i64 col) (.string s.status) (.bool s.typing) (.int .i64 s.rows) (.int .i64 s.cols) 26
            rw [hW]
            clear hW
            have x5 := hbox.c5
            have x6 := hbox.c6
            go_wp2_with fail
            (with_reducible refine (CN _).out.mono ?_); rintro e w1 ⟨⟨gv, rfl, hg⟩, hb1⟩
            obtain ⟨ga, gc, rfl, _⟩ := hg
            clear CN x5 x6
            have hbox1 := hbox.later hb1
            have y0 := fun o => (hbox1.later ((Below.refl _ _).alloc (Nat.le_refl _) o)).c0
            have y1 := fun o => (hbox1.later ((Below.refl _ _).alloc (Nat.le_refl _) o)).c1
            have y2 := fun o => (hbox1.later ((Below.refl _ _).alloc (Nat.le_refl _) o)).c2
            go_upto_region 5 with fail
            obtain ⟨W2, hW2, hb2, p0, p1⟩ := box_two w1 (.cells #[.int .i64 (newG s.rows s.cols).rows, .int .i64 (newG s.rows s.cols).cols, .slice ga (newG s.rows s.cols).cells.length gc, .int .i64 (newG s.rows s.cols).row, .int .i64 (newG s.rows s.cols).col] 37) (.int .i64 line) (.int .i64 col) 24
            first | rw [hW2] | (trace_state; fail "hW2")
            clear hW2 y0 y1 y2
            have z0 := (hbox1.later hb2).c0
            have hbe : Below w.heap.size w W2 := below_tr (below_tr hbW hb1) hb2
            go_upto_region 7 with fail
            go_quiet (fail)
            go_wp2_with fail
            go_ret
            exact ⟨by rw [HE.out]; rfl, below_drewN hbe _⟩
          · have d2 : decide ((n : Int) < line) = false := decide_eq_false h2
            by_cases h3 : col < 0
            · have d3 : decide (col < 0) = true := decide_eq_true h3
              have HE : Hid (E = 2) := Lib.hid (by rw [HCS.out]; rw [if_neg h0, if_pos (.inr (.inr (.inl h3)))])
              clear HCS h0 l0
              go_enter Tryd.func34, Tryd.ntmps34
              go_upto_region 1 with fail
              obtain ⟨W, hW, hbW, hsW, hbox⟩ := box7_new w (.slice a n c) (.int .i64 line) (.int .i64 col) (.string s.status) (.bool s.typing) (.int .i64 s.rows) (.int .i64 s.cols) 26
              rw [hW]
              clear hW
              have x5 := hbox.c5
              have x6 := hbox.c6
              go_wp2_with fail
              (with_reducible refine (CN _).out.mono ?_); rintro e w1 ⟨⟨gv, rfl, hg⟩, hb1⟩
              obtain ⟨ga, gc, rfl, _⟩ := hg
              clear CN x5 x6
              have hbox1 := hbox.later hb1
              have y0 := fun o => (hbox1.later ((Below.refl _ _).alloc (Nat.le_refl _) o)).c0
              have y1 := fun o => (hbox1.later ((Below.refl _ _).alloc (Nat.le_refl _) o)).c1
              have y2 := fun o => (hbox1.later ((Below.refl _ _).alloc (Nat.le_refl _) o)).c2
              go_upto_region 5 with fail
              obtain ⟨W2, hW2, hb2, p0, p1⟩ := box_two w1 (.cells #[.int .i64 (newG s.rows s.cols).rows, .int .i64 (newG s.rows s.cols).cols, .slice ga (newG s.rows s.cols).cells.length gc, .int .i64 (newG s.rows s.cols).row, .int .i64 (newG s.rows s.cols).col] 37) (.int .i64 line) (.int .i64 col) 24
              first | rw [hW2] | (trace_state; fail "hW2")
              clear hW2 y0 y1 y2
              have z0 := (hbox1.later hb2).c0
              have hbe : Below w.heap.size w W2 := below_tr (below_tr hbW hb1) hb2
              go_upto_region 7 with fail
              go_quiet (fail)
              go_wp2_with fail
              go_ret
              exact ⟨by rw [HE.out]; rfl, below_drewN hbe _⟩
            · have d3 : decide (col < 0) = false := decide_eq_false h3
              obtain ⟨k, rfl⟩ : ∃ k : Nat, line = (k : Int) + 1 := ⟨(line - 1).toNat, by omega⟩
              have hkn : (k : Int) < (n : Int) := by omega
              have hkt : ((k : Int) + 1).toNat = k + 1 := by omega
              have HTX : Hid (s.lines[k]?.getD ByteArray.empty = s.text (k + 1)) := Lib.hid (by unfold SH.text; rw [Nat.add_sub_cancel])
              have htz := HLT.out (k + 1)
              rw [hkt] at HCS
              generalize s.text (k + 1) = tx at *
              clear hkt
              have hsub : IntKind.i64.wrap ((k : Int) + 1 - 1) = (k : Int) := by rw [show (k : Int) + 1 - 1 = (k : Int) by omega]; exact IntWalk.i64_in _ ⟨by omega, by omega⟩
              by_cases h4 : (tx.size : Int) < col
              · have d4 : decide ((tx.size : Int) < col) = true := decide_eq_true h4
                have HE : Hid (E = 2) := Lib.hid (by rw [HCS.out]; rw [if_neg h0, if_pos (.inr (.inr (.inr h4)))])
                clear HCS h0 l0
                go_enter Tryd.func34, Tryd.ntmps34
                go_upto_region 1 with fail
                obtain ⟨W, hW, hbW, hsW, hbox⟩ := box7_new w (.slice a n c) (.int .i64 ((k : Int) + 1)) (.int .i64 col) (.string s.status) (.bool s.typing) (.int .i64 s.rows) (.int .i64 s.cols) 26
                rw [hW]
                clear hW
                have x5 := hbox.c5
                have x6 := hbox.c6
                go_wp2_with fail
                (with_reducible refine (CN _).out.mono ?_); rintro e w1 ⟨⟨gv, rfl, hg⟩, hb1⟩
                obtain ⟨ga, gc, rfl, _⟩ := hg
                clear CN x5 x6
                have hbox1 := hbox.later hb1
                have y0 := fun o => (hbox1.later ((Below.refl _ _).alloc (Nat.le_refl _) o)).c0
                have y1 := fun o => (hbox1.later ((Below.refl _ _).alloc (Nat.le_refl _) o)).c1
                have y2 := fun o => (hbox1.later ((Below.refl _ _).alloc (Nat.le_refl _) o)).c2
                go_upto_region 5 with fail
                obtain ⟨W2, hW2, hb2, p0, p1⟩ := box_two w1 (.cells #[.int .i64 (newG s.rows s.cols).rows, .int .i64 (newG s.rows s.cols).cols, .slice ga (newG s.rows s.cols).cells.length gc, .int .i64 (newG s.rows s.cols).row, .int .i64 (newG s.rows s.cols).col] 37) (.int .i64 ((k : Int) + 1)) (.int .i64 col) 24
                first | rw [hW2] | (trace_state; fail "hW2")
                clear hW2 y0 y1 y2
                have z0 := (hbox1.later hb2).c0
                have hbe : Below w.heap.size w W2 := below_tr (below_tr hbW hb1) hb2
                obtain ⟨tb, tq, rfl, htb, q1⟩ := (HT.out.later hbe).get (k := k) (by rw [← HN.out]; omega)
                rw [HTX.out] at q1
                go_upto_region 7 with fail
                go_quiet (fail)
                go_wp2_with fail
                go_ret
                exact ⟨by rw [HE.out]; rfl, below_drewN hbe _⟩
              · have d4 : decide ((tx.size : Int) < col) = false := decide_eq_false h4
                have HE : Hid (E = 0) := Lib.hid (by rw [HCS.out]; rw [if_neg h0, if_neg (by rintro (h | h | h | h); exact h1 h; exact h2 h; exact h3 h; exact h4 h)])
                clear HCS h0 l0
                go_enter Tryd.func34, Tryd.ntmps34
                go_upto_region 1 with fail
                obtain ⟨W, hW, hbW, hsW, hbox⟩ := box7_new w (.slice a n c) (.int .i64 ((k : Int) + 1)) (.int .i64 col) (.string s.status) (.bool s.typing) (.int .i64 s.rows) (.int .i64 s.cols) 26
                rw [hW]
                clear hW
                have x5 := hbox.c5
                have x6 := hbox.c6
                go_wp2_with fail
                (with_reducible refine (CN _).out.mono ?_); rintro e w1 ⟨⟨gv, rfl, hg⟩, hb1⟩
                obtain ⟨ga, gc, rfl, _⟩ := hg
                clear CN x5 x6
                have hbox1 := hbox.later hb1
                have y0 := fun o => (hbox1.later ((Below.refl _ _).alloc (Nat.le_refl _) o)).c0
                have y1 := fun o => (hbox1.later ((Below.refl _ _).alloc (Nat.le_refl _) o)).c1
                have y2 := fun o => (hbox1.later ((Below.refl _ _).alloc (Nat.le_refl _) o)).c2
                go_upto_region 5 with fail
                obtain ⟨W2, hW2, hb2, p0, p1⟩ := box_two w1 (.cells #[.int .i64 (newG s.rows s.cols).rows, .int .i64 (newG s.rows s.cols).cols, .slice ga (newG s.rows s.cols).cells.length gc, .int .i64 (newG s.rows s.cols).row, .int .i64 (newG s.rows s.cols).col] 37) (.int .i64 ((k : Int) + 1)) (.int .i64 col) 24
                first | rw [hW2] | (trace_state; fail "hW2")
                clear hW2 y0 y1 y2
                have z0 := (hbox1.later hb2).c0
                have hbe : Below w.heap.size w W2 := below_tr (below_tr hbW hb1) hb2
                obtain ⟨tb, tq, rfl, htb, q1⟩ := (HT.out.later hbe).get (k := k) (by rw [← HN.out]; omega)
                rw [HTX.out] at q1
                go_upto_region 7 with fail
                go_quiet (fail)
                go_wp2_with fail
                go_ret
                exact ⟨by rw [HE.out]; rfl, below_drewN hbe _⟩
  · have hs2 : sizedB s.rows s.cols = false := by cases e : sizedB s.rows s.cols; rfl; exact absurd e hs
    simp only [hs2, Bool.false_eq_true, if_false] at CN HCS
    have HE : Hid (E = 2) := HCS
    clear hs hs2 HCS
    go_enter Tryd.func34, Tryd.ntmps34
    go_upto_region 1 with fail
    obtain ⟨W, hW, hbW, hsW, hbox⟩ := box7_new w (.slice a n c) (.int .i64 line) (.int .i64 col) (.string s.status) (.bool s.typing) (.int .i64 s.rows) (.int .i64 s.cols) 26
    rw [hW]
    clear hW
    have x5 := hbox.c5
    have x6 := hbox.c6
    go_wp2_with fail
    (with_reducible refine (CN _).out.mono ?_); rintro e w1 ⟨⟨gv, rfl, hg⟩, hb1⟩
    obtain ⟨ga, gc, rfl, _⟩ := hg
    clear CN x5 x6
    go_wp2_with fail
    go_ret
    exact ⟨by rw [HE.out]; rfl, below_tr hbW (below_tr hb1 ((Below.refl _ _).alloc (Nat.le_refl _) _))⟩
end Go.Proofs.YtnpdpfkoghhioaaDoor
