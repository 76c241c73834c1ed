/- grids.Clone: a grid of the call's own memory; the chapter's Check. -/
import Derived.Test.YtnpdpfkoghhioaaGJ
import Derived.Deep.OwnRows
namespace Go.Proofs.Ytnpdpfkoghhioaa
open Go.RowKit

theorem rcheck_any (v : Value) (g : G) (w : World) (h : GridAt w.heap.size w v g) (hb : Small g) :
    Calls Try.prog 18 #[v] w fun e w' => e = .returned (.int .i64 (if mayB g = true then 0 else 2)) ∧ Below w.heap.size w w' := by
  obtain ⟨cv, rfl, hc⟩ := h
  have C : ∀ o, Hid (Calls Try.prog 33 #[.agg #[.int .i64 g.rows, .int .i64 g.cols, cv, .int .i64 g.row, .int .i64 g.col]] (w.alloc o) fun e w' => e = .returned (.bool (mayB g)) ∧ Below (w.alloc o).heap.size (w.alloc o) w') := fun o =>
    Lib.hid (rmay_any _ g _ ⟨cv, rfl, hc.later (by go_grown)⟩ hb)
  clear hc
  obtain ⟨p, hp⟩ : ∃ p, p = mayB g := ⟨_, rfl⟩
  simp only [← hp] at C ⊢
  obtain ⟨z, hz⟩ : ∃ z : Int, z = if p = true then 0 else 2 := ⟨_, rfl⟩
  rw [← hz]
  clear hp
  go_enter Try.func18, Try.ntmps18
  go_wp2_with fail
  (with_reducible refine (C _).out.mono ?_); rintro e w' ⟨rfl, hb⟩
  cases p with
  | false =>
    obtain rfl : z = 2 := hz
    go_wp2_with fail
    go_ret; exact ⟨rfl, below_tr (by go_grown) hb⟩
  | true =>
    obtain rfl : z = 0 := hz
    go_wp2_with fail
    go_ret; exact ⟨rfl, below_tr (by go_grown) hb⟩

def bv (l : List UInt8) : List Value := l.map fun c => .int .u8 (c.toNat : Int)

theorem set_row {w : World} {b : Nat} {cur : List Value} {t : TypeId} (h : w.heap[b]? = some (.cells cur.toArray t (0, 0))) (k : Nat) (v : Value) : (w.setCell ⟨b, k, none⟩ v).heap[b]? = some (.cells (cur.set k v).toArray t (0, 0)) := by
  show (w.heap.modify b _)[b]? = _
  rw [Array.getElem?_modify, if_pos rfl, h]
  simp
theorem bv_get (l : List UInt8) (j : Nat) (v : Value) (h : (bv l)[j]? = some v) : j < l.length ∧ v = .int .u8 ((l[j]?.getD 0).toNat : Int) := by
  unfold bv at h
  rw [List.getElem?_map] at h
  cases hj : l[j]? with
  | none => rw [hj] at h; cases h
  | some c =>
    rw [hj] at h
    injection h with h
    have := (List.getElem?_eq_some_iff.1 hj).1
    exact ⟨this, by rw [← h]; rfl⟩
theorem bv_one (l : List UInt8) : ∀ v ∈ bv l, v.oneCell' = true := by
  intro v hv
  obtain ⟨c, _, rfl⟩ := List.mem_map.1 hv
  rfl
theorem splice_all (L cs : List Value) (h : cs.length = L.length) : splice L 0 cs = cs := by
  unfold splice; rw [List.take_zero, List.drop_of_length_le (by omega)]; simp

/-- The rows that Clone has made. -/
theorem own_made (W : World) (B : Nat) (b3 : Nat) (rb : Nat → Nat) (L : List (List UInt8)) (cur : List Value) (t1 t2 : TypeId) (hB : B ≤ b3) (hh : W.heap[b3]? = some (.cells cur.toArray t2 (0, 0)))
    (hcur : ∀ j, j < L.length → cur[j]? = some (.slice (some ⟨rb j, 0, none⟩) (L[j]?.getD []).length (L[j]?.getD []).length)) (hr : ∀ j, j < L.length → W.heap[rb j]? = some (.cells (bv (L[j]?.getD [])).toArray t1 (0, 0)))
    (hlow : ∀ j, j < L.length → b3 < rb j) (hinj : ∀ i j, i < L.length → j < L.length → i ≠ j → rb i ≠ rb j) :
    OwnRows B W b3 rb (fun _ => 0) (fun j => (L[j]?.getD []).length) L where
  head j hj := row_cell hh (hcur j hj)
  base := hB
  low j hj := by have := hlow j hj; omega
  lt j hj := (Array.getElem?_eq_some_iff.1 (hr j hj)).1
  off j hj := by have := hlow j hj; omega
  cell j hj k hk := by
    rw [Nat.zero_add]
    refine row_cell (hr j hj) ?_
    simp [bv, hk]
  free j hj k hk := by simp [World.frozen?, hr j hj]
  apart i j hi hj hne he := absurd he (hinj i j hi hj hne)

set_option maxRecDepth 100000 in
set_option maxHeartbeats 4000000 in
theorem clone_any (v : Value) (g : G) (w : World) (h : GridAt w.heap.size w v g) (hb : Small g) :
    Calls Try.prog 15 #[v] w fun e w' => (∃ v', e = .returned v' ∧ OwnGrid w.heap.size w' v' g) ∧ Below w.heap.size w w' := by
  obtain ⟨r, c, L, x, y⟩ := g
  obtain ⟨cv, rfl, hc⟩ := h
  obtain ⟨hb1, hb2⟩ := hb
  simp only at hb1 hb2 hc
  obtain ⟨a, k0, rfl, hx⟩ := hc
  have Hx := Lib.hid hx
  have Hb2 := Lib.hid hb2
  clear hx hb2
  obtain ⟨n, hn⟩ : ∃ n, n = L.length := ⟨_, rfl⟩
  have H := Lib.hid hn
  rw [← hn] at hb1 ⊢
  clear hn
  have em : ∀ w, (Instr.makeSlice 22 (.int .i64 (n : Int)) (.int .i64 (n : Int))).run Try.prog w = .ok (.slice (some ⟨w.heap.size, 0, none⟩) n n) (w.alloc (.cells (madeCells #[.slice none 0 0] n) 32)) :=
    fun w => run_make_row' 22 32 (.slice none 0 0) 24 rfl (by kernel_rfl) rfl .i64 .i64 n (by omega) (by omega) w
  go_enter Try.func15, Try.ntmps15
  go_wp2_with fail
  generalize hW0 : World.alloc (World.alloc (World.alloc _ _) _) _ = W0
  obtain ⟨hsz, hb1', hb2', hh⟩ : W0.heap.size = w.heap.size + 3 ∧ Box5 W0 w.heap.size 24 (.int .i64 r) (.int .i64 c) (.slice a n k0) (.int .i64 x) (.int .i64 y) ∧
      Box5 W0 (w.heap.size + 1) 24 (.int .i64 0) (.int .i64 0) (.slice none 0 0) (.int .i64 0) (.int .i64 0) ∧ W0.heap[w.heap.size + 1 + 1]? = some (.cells (madeCells #[.slice none 0 0] n) 32 (0, 0)) := by
    rw [← hW0]; exact heap3 _ _ _ _
  have hB0 : Below w.heap.size w W0 := by subst hW0; go_grown
  have K1 := Lib.hid hb1'
  have K2 := Lib.hid hb2'
  have Kh := Lib.hid hh
  have Ksz := Lib.hid hsz
  clear hb1' hb2' hh hsz hW0
  generalize he3 : w.heap.size + 1 + 1 = b3 at Kh ⊢
  have K3 : Hid (b3 < W0.heap.size) := Lib.hid (by rw [Ksz.out]; omega)
  go_loopw [13] (fun i wr => ∃ k : Nat, ∃ cur : List Value, ∃ rb : Nat → Nat, k ≤ n ∧ i = .int .i64 k ∧ Hid (b3 < wr.heap.size) ∧ Hid (Box5 wr w.heap.size 24 (.int .i64 r) (.int .i64 c) (.slice a n k0) (.int .i64 x) (.int .i64 y)) ∧
      Hid (Box5 wr (w.heap.size + 1) 24 (.int .i64 0) (.int .i64 0) (.slice none 0 0) (.int .i64 0) (.int .i64 0)) ∧ Hid (wr.heap[b3]? = some (.cells cur.toArray 32 (0, 0))) ∧ Hid (cur.length = n) ∧
      Hid (∀ j, j < k → cur[j]? = some (.slice (some ⟨rb j, 0, none⟩) (L[j]?.getD []).length (L[j]?.getD []).length)) ∧ Hid (∀ j, j < k → wr.heap[rb j]? = some (.cells (bv (L[j]?.getD [])).toArray 5 (0, 0))) ∧
      Hid (∀ j, j < k → b3 < rb j) ∧ Hid (∀ i j, i < k → j < k → i ≠ j → rb i ≠ rb j) ∧ Below w.heap.size w wr) (fun i _ => n - (intOf i).toNat)
  case atStart =>
    exact ⟨0, (madeCells #[.slice none 0 0] n).toList, fun _ => 0, Nat.zero_le _, rfl, K3, K1, K2, Lib.hid (by rw [Array.toArray_toList]; exact Kh.out), Lib.hid (by rw [Array.length_toList, size_madeCells]), Lib.hid (fun j hj => absurd hj (Nat.not_lt_zero _)), Lib.hid (fun j hj => absurd hj (Nat.not_lt_zero _)),
      Lib.hid (fun j hj => absurd hj (Nat.not_lt_zero _)), Lib.hid (fun i j hi => absurd hi (Nat.not_lt_zero _)), hB0⟩
  case round =>
    obtain ⟨k, cur, rb, hk, rfl, hsz, q1, q2, hh, hcl, hcur, hrows, hlow, hinj, hbel⟩ := hrel
    by_cases h : k < n
    · obtain ⟨b, o, rfl, s1, hr⟩ := Hx.out (by intro e; rw [H.out, e] at h; simp at h)
      have hl : k < L.length := by rw [← H.out]; exact h
      obtain ⟨rv, q, hrow⟩ := hr k hl
      have hq := (hbel.cell (p := ⟨b, o + k, none⟩) s1).trans q
      obtain ⟨l, hll⟩ : ∃ l, l = L[k]?.getD [] := ⟨_, rfl⟩
      have Hll := Lib.hid hll
      rw [← hll] at hrow
      have hsmall : l.length ≤ 1000000 := Hb2.out _ (by rw [hll, List.getElem?_eq_getElem hl, Option.getD_some]; exact List.getElem_mem hl)
      clear hr hll q
      obtain ⟨ra, rc, rfl, hrc⟩ := hrow
      have Hrc := Lib.hid hrc
      clear hrc
      obtain ⟨z, hz⟩ : ∃ z, z = l.length := ⟨_, rfl⟩
      have Hz := Lib.hid hz
      rw [← hz] at hq hsmall
      clear hz
      have em2 : (Instr.makeSlice 32 (.int .i64 (z : Int)) (.int .i64 (z : Int))).run Try.prog wr = .ok (.slice (some ⟨wr.heap.size, 0, none⟩) z z) (wr.alloc (.cells (madeCells #[.int .u8 0] z) 5)) :=
        run_make_row' 32 5 (.int .u8 0) 1 rfl (by kernel_rfl) rfl .i64 .i64 z (by omega) (by omega) wr
      have hlt : b3 < wr.heap.size := hsz.out
      have hh2 : (wr.alloc (.cells (madeCells #[.int .u8 0] z) 5)).heap[b3]? = some (.cells cur.toArray 32 (0, 0)) := alloc_other hh.out
      obtain ⟨old, hold⟩ : ∃ old, cur[k]? = some old := ⟨cur[k]'(by rw [hcl.out]; exact h), List.getElem?_eq_getElem _⟩
      have hc1 := row_cell hh2 hold
      have hf1 : (wr.alloc (.cells (madeCells #[.int .u8 0] z) 5)).frozen? ⟨b3, k, none⟩ = false := by simp [World.frozen?, hh2]
      have hen : (k : Int) < (n : Int) := by omega
      have Hold := Lib.hid hold
      have Hh2 := Lib.hid hh2
      clear hold hh2
      have h5 : ((wr.setCell ⟨b3, k, none⟩ (.slice (some ⟨wr.heap.size, 0, none⟩) z z)).alloc (.cells (madeCells #[.int .u8 0] z) 5)).heap[b3]? = some (.cells (cur.set k (.slice (some ⟨wr.heap.size, 0, none⟩) z z)).toArray 32 (0, 0)) := alloc_other (set_row hh.out k _)
      have hck : (cur.set k (.slice (some ⟨wr.heap.size, 0, none⟩) z z))[k]? = some (.slice (some ⟨wr.heap.size, 0, none⟩) z z) := by simp [hcl.out, h]
      have h6 := row_cell h5 hck
      have H5 := Lib.hid h5
      clear h5 hck
      have hnew : ((wr.setCell ⟨b3, k, none⟩ (.slice (some ⟨wr.heap.size, 0, none⟩) z z)).alloc (.cells (madeCells #[.int .u8 0] z) 5)).heap[wr.heap.size]? = some (.cells (madeCells #[.int .u8 0] z).toList.toArray 5 (0, 0)) := by
        rw [heap_alloc, if_pos (by simp [World.setCell])]
      have hW5b : Below w.heap.size w ((wr.setCell ⟨b3, k, none⟩ (.slice (some ⟨wr.heap.size, 0, none⟩) z z)).alloc (.cells (madeCells #[.int .u8 0] z) 5)) := by
        exact (Below_setCell hbel _ _ _ (by omega)).alloc (by have := hbel.size; simpa [World.setCell] using this) _
      have hold5 : ∀ c, c ≠ b3 → c < wr.heap.size → ((wr.setCell ⟨b3, k, none⟩ (.slice (some ⟨wr.heap.size, 0, none⟩) z z)).alloc (.cells (madeCells #[.int .u8 0] z) 5)).heap[c]? = wr.heap[c]? := by
        intro c h1 h2
        rw [heap_alloc, if_neg (by simp [World.setCell]; omega), setCell_heap_other _ _ _ _ _ h1]
      have hsz5 : wr.heap.size ≤ ((wr.setCell ⟨b3, k, none⟩ (.slice (some ⟨wr.heap.size, 0, none⟩) z z)).alloc (.cells (madeCells #[.int .u8 0] z) 5)).heap.size := by rw [size_alloc]; simp [World.setCell]
      have hbl : (bv l).length = Nat.min z z := by rw [show Nat.min z z = z from Nat.min_self z, Hz.out]; simp [bv]
      have hbl2 : (bv l).length = z := by rw [Hz.out]; simp [bv]
      have hpos : 0 < (bv l).length → (some ⟨wr.heap.size, 0, none⟩ : Option Addr) = some ⟨wr.heap.size, 0, none⟩ ∧ ∃ ad, ra = some ad ∧ ∀ j v, (bv l)[j]? = some v → ((wr.setCell ⟨b3, k, none⟩ (.slice (some ⟨wr.heap.size, 0, none⟩) z z)).alloc (.cells (madeCells #[.int .u8 0] z) 5)).cell? (ad.add j) = some v := by
        intro hp
        obtain ⟨b', o', rfl, s2, hr2⟩ := Hrc.out (by intro e; rw [e] at hp; simp [bv] at hp)
        refine ⟨rfl, _, rfl, fun j v hj => ?_⟩
        obtain ⟨u1, rfl⟩ := bv_get l j v hj
        rw [add_plain]
        exact (hW5b.cell (p := ⟨b', o' + j, none⟩) s2).trans (hr2 j u1)
      have hfit : 0 + (bv l).length ≤ (madeCells #[.int .u8 0] z).toList.length := by rw [hbl2, Array.length_toList, size_madeCells]; omega
      have Hnew := Lib.hid hnew
      have Hbl := Lib.hid hbl
      have Hpos := Lib.hid hpos
      have Hfit := Lib.hid hfit
      have Hold5 := Lib.hid hold5
      have Hb12 := Lib.hid hbl2
      clear hnew hbl hpos hfit hold5 hbl2
      have hbs : w.heap.size ≤ wr.heap.size := hbel.size
      go_wp2_with (with_reducible refine wpList_copy_splice rfl (.tmp 27) (.tmp 28) 32 32 rfl 5 (by kernel_rfl) Try.size5 (some ⟨wr.heap.size, 0, none⟩) ra z z z rc ?_ ?_ wr.heap.size 0 (madeCells #[.int .u8 0] z).toList 5 Hnew.out (bv l) Hbl.out Hpos.out Hfit.out (bv_one l) wr.heap.size _ (Below.refl _ _) (Nat.le_refl _) ?_)
      all_goals try rfl
      · intro w6 hg6 hb6
        rw [splice_all _ _ (by rw [Hb12.out, Array.length_toList, size_madeCells])] at hg6
        have ex : ∀ c, c ≠ b3 → c < wr.heap.size → w6.heap[c]? = wr.heap[c]? := fun c h1 h2 => (hb6.block c h2).trans (Hold5.out c h1 h2)
        have z1 : Hid (b3 < w6.heap.size) := Lib.hid (Nat.lt_of_lt_of_le hlt (Nat.le_trans hsz5 hb6.size))
        have z2 := Lib.hid ((show Box5 w6 _ _ _ _ _ _ _ from (ex _ (by omega) (by omega)).trans q1.out))
        have z3 := Lib.hid ((show Box5 w6 _ _ _ _ _ _ _ from (ex _ (by omega) (by omega)).trans q2.out))
        have z4 := Lib.hid ((hb6.block b3 hlt).trans H5.out)
        have z5 : Below w.heap.size w w6 := hW5b.trans (hb6.mono (by have := hbel.size; omega))
        have Hex := Lib.hid ex
        clear ex h6 hc1 hf1
        go_wp2_with fail
        go_roundw
        case rel =>
          refine ⟨k + 1, _, fun j => if j = k then wr.heap.size else rb j, by omega, by go_num, z1, z2, z3, z4, Lib.hid (by rw [List.length_set]; exact hcl.out), Lib.hid ?_, Lib.hid ?_, Lib.hid ?_, Lib.hid ?_, z5⟩
          · intro j hj
            dsimp only
            by_cases hjk : j = k
            · subst hjk
              rw [if_pos rfl, ← Hll.out, ← Hz.out]; simp [hcl.out, h]
            · rw [if_neg hjk, List.getElem?_set_ne (by omega)]; exact hcur.out j (by omega)
          · intro j hj
            dsimp only
            by_cases hjk : j = k
            · subst hjk
              rw [if_pos rfl, ← Hll.out]; exact hg6
            · rw [if_neg hjk]
              have h1 := hlow.out j (by omega)
              have h2 := hrows.out j (by omega)
              rw [Hex.out _ (by omega) ((Array.getElem?_eq_some_iff.1 h2).1)]; exact h2
          · intro j hj
            dsimp only
            by_cases hjk : j = k
            · rw [if_pos hjk]; exact hlt
            · rw [if_neg hjk]; exact hlow.out j (by omega)
          · intro i j hi hj hne
            dsimp only
            have hr : ∀ j, j < k → rb j < wr.heap.size := fun j hj => (Array.getElem?_eq_some_iff.1 (hrows.out j hj)).1
            by_cases hik : i = k
            · by_cases hjk : j = k
              · omega
              · have := hr j (by omega)
                rw [if_pos hik, if_neg hjk]; omega
            · by_cases hjk : j = k
              · have := hr i (by omega)
                rw [if_neg hik, if_pos hjk]; omega
              · rw [if_neg hik, if_neg hjk]; exact hinj.out i j (by omega) (by omega) hne
        case measure => simp [intOf]; omega
    · obtain rfl : k = n := by omega
      have a0 := q1.out.c0
      have a1 := q1.out.c1
      have a2 := q1.out.c2
      have a3 := q1.out.c3
      have a4 := q1.out.c4
      have d2 := q1.out.free 2
      have b0 := q2.out.c0
      have b1 := q2.out.c1
      have b2 := q2.out.c2
      have b3' := q2.out.c3
      have b4 := q2.out.c4
      have f0 := q2.out.free 0
      have f1 := q2.out.free 1
      have f2 := q2.out.free 2
      have f3 := q2.out.free 3
      have f4 := q2.out.free 4
      go_wp2_with fail
      generalize hW' : World.setCell (World.setCell (World.setCell (World.setCell (World.setCell _ _ _) _ _) _ _) _ _) _ _ = W'
      have hbox : Box5 W' (w.heap.size + 1) 24 (.int .i64 r) (.int .i64 c) (.slice (some ⟨b3, 0, none⟩) k k) (.int .i64 x) (.int .i64 y) := by rw [← hW']; exact (q2.out.other _ _ _ (by omega)).sets _ _ _ _ _
      have hoth : ∀ c, c ≠ w.heap.size + 1 → c ≠ w.heap.size → W'.heap[c]? = wr.heap[c]? := fun c hc hc2 => by rw [← hW', sets_other _ _ _ _ _ _ _ _ hc, setCell_heap_other _ _ _ _ _ hc2]
      have hbelW : Below w.heap.size w W' := by rw [← hW']; exact Below_sets (Below_setCell hbel _ _ _ (Nat.le_refl _)) _ (by omega) _ _ _ _ _
      clear hW' f0 f1 f2 f3 f4 b0 b1 b2 b3' b4 a0 a1 a2 a3 a4 d2
      have a0 := hbox.c0
      have a1 := hbox.c1
      have a2 := hbox.c2
      have a3 := hbox.c3
      have a4 := hbox.c4
      have Hoth := Lib.hid hoth
      clear hoth
      (try simp only [Exit.inBlock, Exit.then])
      refine bodyPost_ret (by simp [results, Try.results15, go_sem, a0, a1, a2, a3, a4]; try rfl) rfl ?_
      refine ⟨⟨_, rfl, ?_⟩, hbelW⟩
      refine ⟨some ⟨b3, 0, none⟩, k, by simp [← H.out], fun _ => ⟨b3, _, _, _, rfl, own_made W' w.heap.size b3 rb L cur 5 32 (by omega) ?_ (fun j hj => hcur.out j (by rw [H.out]; exact hj)) (fun j hj => ?_) (fun j hj => hlow.out j (by rw [H.out]; exact hj)) (fun i j hi hj => hinj.out i j (by rw [H.out]; exact hi) (by rw [H.out]; exact hj))⟩⟩
      · rw [Hoth.out _ (by omega) (by omega)]; exact hh.out
      · have := hlow.out j (by rw [H.out]; exact hj)
        rw [Hoth.out _ (by omega) (by omega)]; exact hrows.out j (by rw [H.out]; exact hj)
end Go.Proofs.Ytnpdpfkoghhioaa
