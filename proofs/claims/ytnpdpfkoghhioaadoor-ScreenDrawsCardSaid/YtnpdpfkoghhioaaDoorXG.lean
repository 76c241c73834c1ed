/- Whether two rows, two screens, are the same: bytes.Equal, slices.EqualFunc, grids.Same, the chapter's Same. -/
import Derived.Test.YtnpdpfkoghhioaaDoorGE
import Derived.Laws.BytesArg
namespace Go.Proofs.YtnpdpfkoghhioaaDoor
open Go.RowKit

set_option maxRecDepth 100000 in
theorem conv_row {P : Program} {B : Nat} {w : World} {v : Value} {l : List UInt8} (h : RowAt B w v l) (src e dst : TypeId) (hs : P.underlying src = some (.slice e)) (he : P.underlying e = some (.int .u8)) (hd : P.underlying dst = some .string) :
    (convert src dst v).run P w = .ok (.string ⟨l.toArray⟩) w := by
  obtain ⟨a, c, rfl, hc⟩ := h
  by_cases hl : l = []
  · subst hl
    cases a with
    | none => exact run_convert_bytes_nil w src e hs he _ _ dst hd
    | some a =>
      rw [run_convert_bytes_string w src dst e _ _ c hs he hd]
      rw [show ([] : List UInt8).length = 0 from rfl, run_bytesToString (P := P) w a 0 c [] (by simp [loadCells, loadCellsFrom])]
      rfl
  · obtain ⟨b, o, rfl, _, hcell⟩ := hc hl
    rw [run_convert_bytes_arg w src e hs he b o l.length c (l.map fun x => (x.toNat : Int)) (by simp) (fun i hi => by rw [hcell i hi]; simp [List.getD, hi]) dst hd]
    congr 2
    simp [strOfNums, Function.comp_def]
set_option maxRecDepth 100000 in
theorem equal_any (v1 v2 : Value) (l1 l2 : List UInt8) (w : World) (h1 : RowAt w.heap.size w v1 l1) (h2 : RowAt w.heap.size w v2 l2) :
    Calls Tryd.prog 43 #[v1, v2] w fun e w' => e = .returned (.bool (decide (l1 = l2))) ∧ w = w' := by
  have e1 := conv_row (P := Tryd.prog) h1 44 5 9 rfl rfl rfl
  have e2 := conv_row (P := Tryd.prog) h2 44 5 9 rfl rfl rfl
  go_enter Tryd.func43, Tryd.ntmps43
  go_wp2
  go_ret
  exact ⟨by by_cases h : l1 = l2 <;> simp [h], rfl⟩

set_option maxRecDepth 100000 in
theorem take_step {α : Type} [DecidableEq α] (L1 L2 : List α) (k : Nat) (h1 : k < L1.length) (h2 : k < L2.length) (he : L1.take k = L2.take k) : (L1.take (k + 1) = L2.take (k + 1)) ↔ L1[k]? = L2[k]? := by
  rw [List.take_add_one, List.take_add_one, he]
  constructor
  · intro h
    have := List.append_cancel_left h
    rw [List.getElem?_eq_getElem h1, List.getElem?_eq_getElem h2] at this ⊢
    simpa using this
  · intro h; rw [h]

set_option maxRecDepth 100000 in
set_option maxHeartbeats 2000000 in
theorem equalf_any (v1 v2 : Value) (L1 L2 : List (List UInt8)) (w : World) (h1 : CellsAt w.heap.size w v1 L1) (h2 : CellsAt w.heap.size w v2 L2) (hb : L1.length ≤ 1000000) (hb2 : L2.length ≤ 1000000) :
    Calls Tryd.prog 42 #[v1, v2, .func (.func 43) #[] #[]] w fun e w' => e = .returned (.bool (decide (L1 = L2))) ∧ w = w' := by
  obtain ⟨a1, k1, rfl, hc1⟩ := h1
  obtain ⟨a2, k2, rfl, hc2⟩ := h2
  have Hc1 := Lib.hid hc1
  have Hc2 := Lib.hid hc2
  clear hc1 hc2
  obtain ⟨n1, hn1⟩ : ∃ n, n = L1.length := ⟨_, rfl⟩
  obtain ⟨n2, hn2⟩ : ∃ n, n = L2.length := ⟨_, rfl⟩
  have H1 := Lib.hid hn1
  have H2 := Lib.hid hn2
  rw [← hn1] at hb ⊢
  rw [← hn2] at hb2 ⊢
  clear hn1 hn2
  go_enter Tryd.func42, Tryd.ntmps42
  by_cases hn : n1 = n2
  · subst hn
    go_wp2_with fail
    go_loop [17] (fun i => ∃ k : Nat, k ≤ n1 ∧ i = .int .i64 k ∧ Hid (L1.take k = L2.take k)) (fun i => n1 - (intOf i).toNat)
    case atStart => exact ⟨0, Nat.zero_le _, rfl, Lib.hid rfl⟩
    case round =>
      obtain ⟨k, hk, rfl, he⟩ := hrel
      by_cases h : k < n1
      · obtain ⟨b1, o1, rfl, _, hr1⟩ := Hc1.out (by intro e; rw [H1.out, e] at h; simp at h)
        obtain ⟨b2, o2, rfl, _, hr2⟩ := Hc2.out (by intro e; rw [H2.out, e] at h; simp at h)
        obtain ⟨r1, q1, t1⟩ := hr1 k (by rw [← H1.out]; exact h)
        obtain ⟨r2, q2, t2⟩ := hr2 k (by rw [← H2.out]; omega)
        have C := Lib.hid (equal_any r1 r2 _ _ w t1 t2)
        clear hr1 hr2 t1 t2
        go_wp2_with fail
        (with_reducible refine C.out.mono ?_); rintro e w' ⟨rfl, rfl⟩
        have l1 : k < L1.length := by rw [← H1.out]; exact h
        have l2 : k < L2.length := by rw [← H2.out]; exact h
        have hst := take_step L1 L2 k l1 l2 he.out
        rw [List.getElem?_eq_getElem l1, List.getElem?_eq_getElem l2] at hst ⊢
        by_cases hd : L1[k] = L2[k]
        · have hnext := Lib.hid (hst.2 (by rw [hd]))
          clear hst
          go_wp2_with fail
          go_round
          case rel => exact ⟨k + 1, by omega, by go_num, hnext⟩
          case measure => simp [intOf]; omega
        · have hne : L1 ≠ L2 := fun e => hd (by subst e; rfl)
          clear hst
          go_wp2_with fail
          go_ret
          exact ⟨by simp [hne], rfl⟩
      · have hL : L1 = L2 := by
          have hx := he.out
          rwa [List.take_of_length_le (by rw [← H1.out]; omega), List.take_of_length_le (by rw [← H2.out]; omega)] at hx
        have HL := Lib.hid hL
        clear hL
        go_wp2_with fail
        go_ret
        exact ⟨by rw [HL.out]; simp, rfl⟩
  · go_wp2_with fail
    go_ret
    exact ⟨by have : L1 ≠ L2 := fun e => hn (by rw [H1.out, H2.out, e])
              simp [this], rfl⟩

def sameB (g h : G) : Bool := decide (g.rows = h.rows) && decide (g.cols = h.cols) && decide (g.row = h.row) && decide (g.col = h.col) && decide (g.cells = h.cells)

set_option maxRecDepth 100000 in
set_option maxHeartbeats 2000000 in
theorem same_any (v1 v2 : Value) (g1 g2 : G) (w : World) (h1 : GridAt w.heap.size w v1 g1) (h2 : GridAt w.heap.size w v2 g2) (hb1 : g1.cells.length ≤ 1000000) (hb2 : g2.cells.length ≤ 1000000) :
    Calls Tryd.prog 19 #[v1, v2] w fun e w' => e = .returned (.bool (sameB g1 g2)) ∧ Below w.heap.size w w' := by
  obtain ⟨r1, d1, L1, x1, y1⟩ := g1
  obtain ⟨r2, d2, L2, x2, y2⟩ := g2
  obtain ⟨c1, rfl, hc1⟩ := h1
  obtain ⟨c2, rfl, hc2⟩ := h2
  have C : ∀ o1 o2, Hid (Calls Tryd.prog 42 #[c1, c2, .func (.func 43) #[] #[]] ((w.alloc o1).alloc o2) fun e w' => e = .returned (.bool (decide (L1 = L2))) ∧ (w.alloc o1).alloc o2 = w') := fun o1 o2 =>
    Lib.hid (equalf_any c1 c2 L1 L2 _ (hc1.later (by go_grown)) (hc2.later (by go_grown)) hb1 hb2)
  clear hc1 hc2 hb1 hb2
  simp only [sameB]
  go_enter Tryd.func19, Tryd.ntmps19
  by_cases t1 : r1 = r2
  · by_cases t2 : d1 = d2
    · by_cases t3 : x1 = x2
      · by_cases t4 : y1 = y2
        · subst t1 t2 t3 t4
          go_wp2_with fail
          (with_reducible refine (C _ _).out.mono ?_); rintro e w' ⟨rfl, rfl⟩
          go_wp2_with fail
          go_ret
          exact ⟨by simp, by go_grown⟩
        · go_wp2_with fail
          go_ret
          exact ⟨by simp [t4], by go_grown⟩
      · go_wp2_with fail
        go_ret
        exact ⟨by simp [t3], by go_grown⟩
    · go_wp2_with fail
      go_ret
      exact ⟨by simp [t2], by go_grown⟩
  · go_wp2_with fail
    go_ret
    exact ⟨by simp [t1], by go_grown⟩
end Go.Proofs.YtnpdpfkoghhioaaDoor
