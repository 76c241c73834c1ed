/- The rows of a grid as texts: grids.Text and the chapter's Text. -/
import Derived.Test.YtnpdpfkoghhioaaDoorXD
namespace Go.Proofs.YtnpdpfkoghhioaaDoor
open Go.RowKit

def texts (L : List (List UInt8)) : List ByteArray := L.map fun l => ⟨l.toArray⟩
theorem texts_own {B : Nat} {e : TypeId} {w : World} {v : Value} {T : List ByteArray} (h : w.ownsRow B e 1 v T.length (T.map .string)) : TextsAt w v T := by
  rcases h.2 with ⟨rfl, h0⟩ | ⟨g, cap, cu, rfl, hBg, hgg, _, _, _, ht⟩
  · exact ⟨none, 0, by rw [h0], fun hne => absurd (List.eq_nil_of_length_eq_zero h0) hne⟩
  · refine ⟨_, _, rfl, fun _ => ⟨g, 0, rfl, (Array.getElem?_eq_some_iff.1 hgg).1, fun j hj => ?_⟩⟩
    rw [Nat.zero_add]
    refine row_cell (cur := cu.toList) (t := e) (by rw [Array.toArray_toList]; exact hgg) ?_
    have h2 : (cu.toList.take (T.length * 1))[j]? = some (.string T[j]) := by rw [ht]; simp [hj]
    rw [List.getElem?_take] at h2
    split at h2
    · exact h2
    · cases h2
theorem texts_succ (L : List (List UInt8)) (k : Nat) (h : k < L.length) : (texts (L.take (k + 1))) = texts (L.take k) ++ [⟨(L[k]?.getD []).toArray⟩] := by
  unfold texts
  rw [List.take_add_one, List.map_append, List.getElem?_eq_getElem h]; rfl

set_option maxRecDepth 100000 in
set_option maxHeartbeats 4000000 in
theorem text_any (v : Value) (g : G) (w : World) (h : GridAt w.heap.size w v g) (hb : Small g) :
    Calls Tryd.prog 31 #[v] w fun e w' => (∃ v', e = .returned v' ∧ TextsAt w' v' (texts g.cells)) ∧ Below w.heap.size w w' := by
  obtain ⟨r, c, L, x, y⟩ := g
  obtain ⟨cv, rfl, hc⟩ := h
  obtain ⟨hb1, hb2⟩ := hb
  simp only at hb1 hb2 hc
  obtain ⟨a, k0, rfl, hx⟩ := hc
  have Hx := Lib.hid hx
  clear hx hb2
  obtain ⟨n, hn⟩ : ∃ n, n = L.length := ⟨_, rfl⟩
  have H := Lib.hid hn
  rw [← hn] at hb1 ⊢
  clear hn
  obtain ⟨ti, hti, htz⟩ := Option.map_eq_some_iff.1 (show (Tryd.prog.info? 9).map (fun i => (i.zero, i.size, i.bytes)) = some (some (.string ByteArray.empty), 1, 16) by kernel_rfl)
  simp only [Prod.mk.injEq] at htz
  obtain ⟨tz1, tz2, tz3⟩ := htz
  have em : ∀ w, (Instr.makeSlice 22 (.int .i64 0) (.int .i64 (n : Int))).run Tryd.prog w = .ok (.slice (some ⟨w.heap.size, 0, none⟩) 0 n) (w.alloc (.cells (madeCells #[.string ByteArray.empty] n) 9)) := by
    intro w
    have := run_make (P := Tryd.prog) w 22 9 ti (.string ByteArray.empty) rfl hti tz1 .i64 .i64 0 (n : Int) (by omega) (by omega) (by rw [tz3]; omega) (by omega)
    rw [tz2, Nat.mul_one, Int.toNat_natCast] at this
    exact this
  clear tz1 tz2 tz3 hti ti
  go_enter Tryd.func31, Tryd.ntmps31
  go_wp2_with fail
  clear em
  have how : ((w.alloc (.cells #[.int .i64 r, .int .i64 c, .slice a n k0, .int .i64 x, .int .i64 y] 37)).alloc (.cells (madeCells #[.string ByteArray.empty] n) 9)).ownsRow (w.heap.size + 1) 9 1 (.slice (some ⟨w.heap.size + 1, 0, none⟩) 0 n) 0 [] := by
    have hx := World.ownsRow_made (e := 9) (size := 1) (base := w.heap.size + 1) (w.alloc (.cells #[.int .i64 r, .int .i64 c, .slice a n k0, .int .i64 x, .int .i64 y] 37)) (madeCells #[.string ByteArray.empty] n) n (by rw [size_alloc]; omega) (by unfold maxLen; omega) (by rw [size_madeCells]; simp)
    rw [size_alloc] at hx
    exact hx
  generalize hW0 : World.alloc _ _ = W0 at how ⊢
  have How := Lib.hid how
  clear how
  have hB0 : Below w.heap.size w W0 := by subst hW0; go_grown
  have hsz : W0.heap.size = w.heap.size + 2 := by rw [← hW0, size_alloc, size_alloc]
  clear hW0
  go_loopw [3, 13] (fun lv i wr => ∃ k : Nat, k ≤ n ∧ i = .int .i64 k ∧ Hid (wr.ownsRow (w.heap.size + 1) 9 1 lv k ((texts (L.take k)).map .string)) ∧ Below (w.heap.size + 1) W0 wr) (fun _ i _ => n - (intOf i).toNat)
  case atStart => exact ⟨0, Nat.zero_le _, rfl, How, Below.refl _ _⟩
  case round =>
    obtain ⟨k, hk, rfl, hbu, hbel⟩ := hrel
    by_cases h : k < n
    · obtain ⟨b, o, rfl, s1, hr⟩ := Hx.out (by intro e; rw [H.out, e] at h; simp at h)
      have hl : k < L.length := by rw [← H.out]; exact h
      obtain ⟨rv, q, hrow⟩ := hr k hl
      have hbel' : Below w.heap.size w wr := hB0.trans (hbel.mono (by omega))
      have hq := (hbel'.cell (p := ⟨b, o + k, none⟩) s1).trans q
      obtain ⟨l, hll⟩ : ∃ l, l = L[k]?.getD [] := ⟨_, rfl⟩
      have hts := texts_succ L k hl
      rw [← hll] at hrow hts
      have Hts := Lib.hid hts
      clear hr hll q hts
      have hconv := conv_row (P := Tryd.prog) (hrow.below hbel') 44 5 9 rfl rfl rfl
      clear hrow
      have hs8 := hbel.size
      have hB2 : w.heap.size + 1 ≤ (wr.alloc (.cells #[.string ⟨l.toArray⟩] 9)).heap.size := by rw [size_alloc]; omega
      go_wp2_with (at_builtin; refine wpList_append_one rfl (.tmp 17) (.tmp 20) 22 rfl 9 (.string ByteArray.empty) 16 (by kernel_rfl) (by kernel_rfl) rfl (w.heap.size + 1) u3 k _ (by simp [Act.eval]) (hbu.out.alloc _) wr.heap.size 1 (by simp [Act.eval]) (.string ⟨l.toArray⟩) (new_one _ _ _) rfl (by omega) (by decide) hB2 ?_; intro g7 c7 w7 hown7 hgr7 hb7)
      go_roundw
      case rel =>
        exact ⟨k + 1, by omega, by go_num, Lib.hid (by rw [Hts.out, List.map_append]; exact hown7.out), (hbel.alloc (by omega) _).trans hb7⟩
      case measure => simp [intOf]; omega
    · obtain rfl : k = n := by omega
      have hbel' : Below w.heap.size w wr := hB0.trans (hbel.mono (by omega))
      go_wp2_with fail
      go_ret
      refine ⟨⟨_, rfl, ?_⟩, hbel'⟩
      refine texts_own (B := w.heap.size + 1) (e := 9) ?_
      have hx := hbu.out
      rw [List.take_of_length_le (by rw [← H.out]; omega)] at hx
      rw [show (texts L).length = k by rw [texts, List.length_map, ← H.out]]
      exact hx
end Go.Proofs.YtnpdpfkoghhioaaDoor
