/- ScreenDraws: what is more than is looked at; the document's form of what is shown. -/
import Derived.Test.YtnpdpfkoghhioaaDoorXR
namespace Go.Proofs.YtnpdpfkoghhioaaDoor
open Go.RowKit

def longB (L : List ByteArray) : Bool := L.any fun t => decide (300 < t.size)
def beyondL (L : List ByteArray) : Bool := decide (12 < L.length) || longB L
def beyondS (s : SH) : Bool := beyondL s.lines || decide (300 < s.status.size)
theorem beyond_lim {s : SH} (h : beyondS s = false) : Lim s ∧ s.lines.length ≤ 12 := by
  unfold beyondS beyondL longB at h
  simp only [Bool.or_eq_false_iff, decide_eq_false_iff_not, List.any_eq_false, decide_eq_true_eq] at h
  obtain ⟨⟨h1, h2⟩, h3⟩ := h
  exact ⟨⟨by omega, fun x hx => by have := h2 x hx; omega, by omega⟩, by omega⟩
set_option maxRecDepth 100000 in
theorem lines_any (v : Value) (L : List ByteArray) (w : World) (h : TextsAt w v L) (hb : L.length ≤ 9223372036854775807) :
    Calls Tryd.prog 32 #[v, .int .i64 12] w fun e w' => e = .returned (.bool (beyondL L)) ∧ w = w' := by
  obtain ⟨a, c, rfl, hc⟩ := h
  have Hc := Lib.hid hc
  clear hc
  obtain ⟨n, hn⟩ : ∃ n, n = L.length := ⟨_, rfl⟩
  have H := Lib.hid hn
  have HB : Hid (beyondL L = (decide (12 < n) || longB L)) := Lib.hid (by rw [hn]; rfl)
  obtain ⟨b, hbb⟩ : ∃ b, b = beyondL L := ⟨_, rfl⟩
  rw [← hbb] at HB ⊢
  rw [← hn] at hb ⊢
  clear hn hbb
  go_enter Tryd.func32, Tryd.ntmps32
  by_cases h12 : 12 < n
  · have h13 : (12 : Int) < (n : Int) := by omega
    have HB2 : Hid (b = true) := Lib.hid (by rw [HB.out, decide_eq_true h12]; rfl)
    go_wp2_with fail
    go_ret
    exact ⟨by rw [HB2.out]; rfl, rfl⟩
  · have h13 : ¬ (12 : Int) < (n : Int) := by omega
    have HB2 : Hid (b = longB L) := Lib.hid (by rw [HB.out, decide_eq_false h12]; rfl)
    clear HB
    go_wp2_with fail
    go_loop [5] (fun i => ∃ k : Nat, k ≤ n ∧ i = .int .i64 k ∧ Hid (longB (L.take k) = false)) (fun i => n - (intOf i).toNat)
    case atStart => exact ⟨0, Nat.zero_le _, rfl, Lib.hid rfl⟩
    case round =>
      obtain ⟨k, hk, rfl, he⟩ := hrel
      by_cases h : k < n
      · have hl : k < L.length := by rw [← H.out]; exact h
        obtain ⟨b2, o, rfl, _, hr⟩ := Hc.out (by intro e; rw [e] at hl; simp at hl)
        have m := hr k hl
        have hst : longB (L.take (k + 1)) = decide (300 < L[k].size) := by
          unfold longB
          rw [List.take_add_one, List.any_append, show (L.take k).any (fun t => decide (300 < t.size)) = false from he.out, List.getElem?_eq_getElem hl]; simp
        have hat : longB L = false → decide (300 < L[k].size) = false := fun h0 => by
          unfold longB at h0
          rw [List.any_eq_false] at h0
          simpa using h0 _ (List.getElem_mem hl)
        have HAT := Lib.hid hat
        have HST := Lib.hid hst
        clear hr hst hat
        generalize L[k] = tx at *
        by_cases hp : 300 < tx.size
        · have hp2 : (300 : Int) < (tx.size : Int) := by omega
          have HL : Hid (longB L = true) := Lib.hid (by
            cases e : longB L with
            | true => rfl
            | false => have := HAT.out e; simp at this; omega)
          go_wp2_with fail
          go_ret
          exact ⟨by rw [HB2.out, HL.out]; rfl, rfl⟩
        · have hp2 : ¬ (300 : Int) < (tx.size : Int) := by omega
          have HN : Hid (longB (L.take (k + 1)) = false) := Lib.hid (by rw [HST.out]; exact decide_eq_false hp)
          go_wp2_with fail
          go_round
          case rel => exact ⟨k + 1, by omega, by go_num, HN⟩
          case measure => simp [intOf]; omega
      · have hx := he.out
        rw [List.take_of_length_le (by rw [← H.out]; omega)] at hx
        have Hx := Lib.hid hx
        clear hx
        go_wp2_with fail
        go_ret
        exact ⟨by rw [HB2.out, Hx.out]; rfl, rfl⟩
set_option maxRecDepth 100000 in
set_option maxHeartbeats 4000000 in
theorem beyond_any (s : SH) (v : Value) (w : World) (h : ShowAt w v s) (hn : s.lines.length ≤ 9223372036854775807) :
    Calls Tryd.prog 12 #[v] w fun e w' => e = .returned (.bool (beyondS s)) ∧ Below w.heap.size w w' := by
  obtain ⟨a, c, rfl, ht⟩ := h
  have HT := Lib.hid ht
  have C1 : ∀ wx, Below w.heap.size w wx → Hid (Calls Tryd.prog 32 #[.slice a s.lines.length c, .int .i64 12] wx fun e w' => e = .returned (.bool (beyondL s.lines)) ∧ wx = w') := fun wx hb => Lib.hid (lines_any _ s.lines wx (HT.out.later hb) hn)
  obtain ⟨b, hb⟩ : ∃ b, b = beyondL s.lines := ⟨_, rfl⟩
  have HS : Hid (beyondS s = (b || decide (300 < s.status.size))) := Lib.hid (by rw [hb]; rfl)
  obtain ⟨r, hr⟩ : ∃ r, r = beyondS s := ⟨_, rfl⟩
  rw [← hr] at HS ⊢
  rw [← hb] at C1
  clear ht hb hr
  generalize s.status = S at *
  go_enter Tryd.func12, Tryd.ntmps12
  go_upto_region 1 with fail
  obtain ⟨W, hW, hbW, hsW, hbox⟩ := box7_new w (.slice a s.lines.length c) (.int .i64 s.line) (.int .i64 s.col) (.string S) (.bool s.typing) (.int .i64 s.rows) (.int .i64 s.cols) 26
  rw [hW]
  clear hW
  have x0 := hbox.c0
  have x3 := hbox.c3
  have C2 := C1 W hbW
  clear C1 hbox hsW
  go_wp2_with fail
  (with_reducible refine C2.out.mono ?_); rintro e w1 ⟨rfl, rfl⟩
  cases b with
  | true =>
    go_wp2_with fail
    go_ret
    exact ⟨by rw [HS.out]; rfl, hbW⟩
  | false =>
    by_cases hs : 300 < S.size
    · have hs2 : (300 : Int) < (S.size : Int) := by omega
      have HR : Hid (r = true) := Lib.hid (by rw [HS.out, decide_eq_true hs]; rfl)
      go_wp2_with fail
      go_ret
      exact ⟨by rw [HR.out]; rfl, hbW⟩
    · have hs2 : decide ((300 : Int) < (S.size : Int)) = false := decide_eq_false (by omega)
      have hs3 : decide (300 < S.size) = false := decide_eq_false hs
      have HR : Hid (r = false) := Lib.hid (by rw [HS.out, decide_eq_false hs]; rfl)
      go_wp2_with fail
      go_ret
      exact ⟨by rw [HR.out]; rfl, hbW⟩
set_option maxRecDepth 100000 in
set_option maxHeartbeats 4000000 in
theorem of29_any (s : SH) (v : Value) (w : World) (h : ShowAt w v s) :
    Calls Tryd.prog 16 #[v] w fun e w' => e = .returned v ∧ Below w.heap.size w w' := by
  obtain ⟨a, c, rfl, ht⟩ := h
  clear ht
  go_enter Tryd.func16, Tryd.ntmps16
  go_wp2_with fail
  generalize hW : World.alloc (World.alloc w _) _ = W
  have hbox : Box7 W (w.heap.size + 1) 33 (.slice a s.lines.length c) (.int .i64 s.line) (.int .i64 s.col) (.string s.status) (.bool s.typing) (.int .i64 s.rows) (.int .i64 s.cols) := by
    rw [← hW]; unfold Box7; rw [heap_alloc, if_pos (by rw [alloc_size])]
  have hb : Below w.heap.size w W := by rw [← hW]; exact ((Below.refl _ _).alloc (Nat.le_refl _) _).alloc (by rw [alloc_size]; omega) _
  clear hW
  have a0 := hbox.c0
  have a1 := hbox.c1
  have a2 := hbox.c2
  have a3 := hbox.c3
  have a4 := hbox.c4
  have a5 := hbox.c5
  have a6 := hbox.c6
  (try simp only [Exit.inBlock, Exit.then])
  refine bodyPost_ret (by simp [results, Tryd.results16, go_sem, a0, a1, a2, a3, a4, a5, a6]; try rfl) rfl ?_
  exact ⟨rfl, hb⟩
end Go.Proofs.YtnpdpfkoghhioaaDoor
