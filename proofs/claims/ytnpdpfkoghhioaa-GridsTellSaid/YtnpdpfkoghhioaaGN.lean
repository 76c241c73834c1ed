/- The law's bound on a grid's size. -/
import Derived.Test.YtnpdpfkoghhioaaGM
namespace Go.Proofs.Ytnpdpfkoghhioaa
open Go.RowKit

def muchN (L : List (List UInt8)) (k : Nat) : Nat := ((L.take k).map fun r => min r.length 50000).sum
def muchB (g : G) : Bool := decide (200 < g.cells.length) || decide (20000 < muchN g.cells 200)
theorem muchN_succ (L : List (List UInt8)) (k : Nat) (h : k < L.length) : muchN L (k + 1) = muchN L k + min L[k].length 50000 := by
  unfold muchN
  rw [List.take_add_one, List.map_append, List.sum_append, List.getElem?_eq_getElem h]; simp
theorem muchN_all (L : List (List UInt8)) (k : Nat) (h : L.length ≤ k) : muchN L k = muchN L L.length := by
  unfold muchN
  rw [List.take_of_length_le h, List.take_of_length_le (Nat.le_refl _)]
theorem muchN_le (L : List (List UInt8)) (k : Nat) : muchN L k ≤ k * 50000 := by
  induction k with
  | zero => simp [muchN]
  | succ k ih =>
    by_cases h : k < L.length
    · rw [muchN_succ L k h, Nat.succ_mul]; exact Nat.add_le_add ih (Nat.min_le_right _ _)
    · rw [muchN_all L (k + 1) (by omega), ← muchN_all L k (by omega)]; exact Nat.le_trans ih (Nat.mul_le_mul_right _ (Nat.le_succ k))
theorem sum_mem (L : List Nat) (x : Nat) (h : x ∈ L) : x ≤ L.sum := by
  induction L with
  | nil => cases h
  | cons y L ih =>
    rw [List.sum_cons]
    rcases List.mem_cons.1 h with rfl | h
    · omega
    · have := ih h; omega
theorem small_of_much (g : G) (h : muchB g = false) : g.cells.length ≤ 200 ∧ ∀ r ∈ g.cells, r.length ≤ 20000 := by
  unfold muchB at h
  simp only [Bool.or_eq_false_iff, decide_eq_false_iff_not] at h
  obtain ⟨h1, h2⟩ := h
  refine ⟨by omega, fun r hr => ?_⟩
  have h3 : min r.length 50000 ≤ muchN g.cells 200 := by
    unfold muchN
    refine sum_mem _ _ (List.mem_map.2 ⟨r, ?_, rfl⟩)
    rw [List.take_of_length_le (by omega)]; exact hr
  omega
theorem Small_of_much {g : G} (h : muchB g = false) : Small g := by
  obtain ⟨h1, h2⟩ := small_of_much g h
  exact ⟨by omega, fun r hr => by have := h2 r hr; omega⟩

set_option maxRecDepth 100000 in
set_option maxHeartbeats 2000000 in
theorem much_any (v : Value) (g : G) (w : World) (h : GridAt w.heap.size w v g) (hb1 : g.cells.length ≤ 9223372036854775807) (hb2 : ∀ r ∈ g.cells, r.length ≤ 9223372036854775807) :
    Calls Try.prog 13 #[v] w fun e w' => e = .returned (.bool (muchB g)) ∧ Below w.heap.size w w' := by
  obtain ⟨r, c, L, x, y⟩ := g
  obtain ⟨cv, rfl, hc⟩ := h
  simp only at hb1 hb2 hc
  obtain ⟨a, k0, rfl, hx⟩ := hc
  have hbox : Box5 (w.alloc (.cells #[.int .i64 r, .int .i64 c, .slice a L.length k0, .int .i64 x, .int .i64 y] 24)) w.heap.size 24 (.int .i64 r) (.int .i64 c) (.slice a L.length k0) (.int .i64 x) (.int .i64 y) := by
    unfold Box5; rw [heap_alloc, if_pos rfl]
  have Hbox := Lib.hid hbox
  have Hb2 := Lib.hid hb2
  have Hx := Lib.hid hx
  clear hbox hb2 hx
  obtain ⟨n, hn⟩ : ∃ n, n = L.length := ⟨_, rfl⟩
  have H := Lib.hid hn
  rw [← hn] at hb1 Hbox ⊢
  clear hn
  obtain ⟨q, hq⟩ : ∃ q, q = muchB ⟨r, c, L, x, y⟩ := ⟨_, rfl⟩
  rw [← hq]
  have Hq := Lib.hid hq
  clear hq
  go_enter Try.func13, Try.ntmps13
  go_wp2_with fail
  go_loopw [3, 4] (fun s i wr => ∃ k m : Nat, k ≤ n ∧ k ≤ 200 ∧ m ≤ k * 50000 ∧ i = .int .i64 k ∧ s = .int .i64 m ∧ Hid (m = muchN L k) ∧ Hid (Box5 wr w.heap.size 24 (.int .i64 r) (.int .i64 c) (.slice a n k0) (.int .i64 x) (.int .i64 y)) ∧ Below w.heap.size w wr) (fun _ i _ => n - (intOf i).toNat)
  case atStart => exact ⟨0, 0, Nat.zero_le _, Nat.zero_le _, Nat.le_refl _, rfl, rfl, Lib.hid rfl, Hbox, by go_grown⟩
  case round =>
    obtain ⟨k, m, hk, hk2, hm, rfl, rfl, he, hbx, hbel⟩ := hrel
    have b2 := hbx.out.c2
    by_cases h : k < n
    · by_cases h2 : k < 200
      · obtain ⟨b, o, rfl, s1, hr⟩ := Hx.out (by intro e; rw [H.out, e] at h; simp at h)
        have hl : k < L.length := by rw [← H.out]; exact h
        obtain ⟨rv, q1, hrow⟩ := hr k hl
        rw [List.getElem?_eq_getElem hl, Option.getD_some] at hrow
        have hq1 := (hbel.cell (p := ⟨b, o + k, none⟩) s1).trans q1
        obtain ⟨ra, rc, rfl, hrc⟩ := hrow
        have hsm := Hb2.out _ (List.getElem_mem hl)
        have hs := muchN_succ L k hl
        obtain ⟨z, hz⟩ : ∃ z, z = L[k].length := ⟨_, rfl⟩
        rw [← hz] at hq1 hsm hs
        rw [← he.out] at hs
        have HS := Lib.hid hs
        clear hr q1 hrc hz hs
        go_wp2_with fail
        go_roundw
        case rel => exact ⟨k + 1, m + min z 50000, by omega, by omega, by omega, by go_num, by congr 1; omega, Lib.hid HS.out.symm, hbx, hbel⟩
        case measure => simp [intOf]; omega
      · have hq := Hq.out
        unfold muchB at hq
        simp only [← H.out] at hq
        have hk200 : k = 200 := by omega
        rw [← hk200, ← he.out] at hq
        have Hfin : Hid (q = true) := Lib.hid (by rw [hq]; simp [h])
        clear hq
        go_wp2_with fail
        go_ret
        exact ⟨by rw [Hfin.out]; rfl, hbel⟩
    · obtain rfl : k = n := by omega
      have hq := Hq.out
      unfold muchB at hq
      simp only [← H.out] at hq
      rw [muchN_all L 200 (by rw [← H.out]; omega), ← H.out, ← he.out] at hq
      by_cases h3 : 20000 < m
      · have Hfin : Hid (q = true) := Lib.hid (by rw [hq]; simp [h3])
        clear hq
        go_wp2_with fail
        go_ret
        exact ⟨by rw [Hfin.out]; first | rfl | (simp; done) | (simp; omega), hbel⟩
      · have Hfin : Hid (q = false) := Lib.hid (by rw [hq]; simp [h3]; omega)
        clear hq
        go_wp2_with fail
        go_ret
        exact ⟨by rw [Hfin.out]; first | rfl | (simp; done) | (simp; omega), hbel⟩
end Go.Proofs.Ytnpdpfkoghhioaa
