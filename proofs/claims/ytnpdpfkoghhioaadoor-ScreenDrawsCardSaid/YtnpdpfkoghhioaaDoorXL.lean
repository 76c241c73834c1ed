/- screen: put, status. -/
import Derived.Test.YtnpdpfkoghhioaaDoorXJ
namespace Go.Proofs.YtnpdpfkoghhioaaDoor
open Go.RowKit

/-- Of what was there, only blocks of M turn. -/
structure Out (M : Nat → Prop) (w w' : World) : Prop where
  os : w'.os = w.os
  tape : w'.tape = w.tape
  output : w'.output = w.output
  size : w.heap.size ≤ w'.heap.size
  block : ∀ k, k < w.heap.size → ¬ M k → w'.heap[k]? = w.heap[k]?
theorem Out.refl (M : Nat → Prop) (w : World) : Out M w w := ⟨rfl, rfl, rfl, Nat.le_refl _, fun _ _ _ => rfl⟩
theorem Out.trans {M : Nat → Prop} {w a b : World} (h1 : Out M w a) (h2 : Out M a b) : Out M w b :=
  ⟨h2.os.trans h1.os, h2.tape.trans h1.tape, h2.output.trans h1.output, Nat.le_trans h1.size h2.size, fun k hk hn => (h2.block k (Nat.lt_of_lt_of_le hk h1.size) hn).trans (h1.block k hk hn)⟩
theorem Out.of_below {M : Nat → Prop} {w a : World} (h : Below w.heap.size w a) : Out M w a := ⟨h.os, h.tape, h.output, h.size, fun k hk _ => h.block k hk⟩
theorem Out.drew {M : Nat → Prop} {w a : World} (h : Out M w a) : Out M w a.drew := ⟨h.os, h.tape, h.output, h.size, h.block⟩
theorem Out.mono {M M' : Nat → Prop} {w a : World} (h : Out M w a) (hM : ∀ k, M k → M' k) : Out M' w a := ⟨h.os, h.tape, h.output, h.size, fun k hk hn => h.block k hk fun hm => hn (hM k hm)⟩
theorem set_size (w : World) (a : Addr) (v : Value) : (w.setCell a v).heap.size = w.heap.size := by simp [World.setCell]
theorem Out.set {M : Nat → Prop} {w a : World} (h : Out M w a) {b : Nat} (hb : M b ∨ w.heap.size ≤ b) (k : Nat) (v : Value) : Out M w (a.setCell ⟨b, k, none⟩ v) :=
  ⟨h.os, h.tape, h.output, by rw [set_size]; exact h.size, fun c hc hn => (setCell_heap_other a b k v c (fun e => by subst e; exact hb.elim hn fun h => by omega)).trans (h.block c hc hn)⟩
theorem Out.cell {M : Nat → Prop} {w a : World} (h : Out M w a) {b : Nat} (hb : b < w.heap.size) (hn : ¬ M b) (k : Nat) : a.cell? ⟨b, k, none⟩ = w.cell? ⟨b, k, none⟩ := World.cell?_of_block (a := ⟨b, k, none⟩) (h.block b hb hn)
theorem Out.below {M : Nat → Prop} {w a : World} (h : Out M w a) {B : Nat} (hB : B ≤ w.heap.size) (hM : ∀ k, M k → B ≤ k) : Below B w a :=
  ⟨h.os, h.tape, h.output, h.size, fun k hk => h.block k (by omega) fun hm => by have := hM k hm; omega⟩
theorem OwnRows.eq {B : Nat} {w w' : World} {hb : Nat} {rb ro rc : Nat → Nat} {L : List (List UInt8)} (h : OwnRows B w hb rb ro rc L) (hs : w.heap.size ≤ w'.heap.size) (h0 : w'.heap[hb]? = w.heap[hb]?) (he : ∀ j, j < L.length → w'.heap[rb j]? = w.heap[rb j]?) : OwnRows B w' hb rb ro rc L where
  head j hj := (World.cell?_of_block (a := ⟨hb, j, none⟩) h0).trans (h.head j hj)
  base := h.base
  low := h.low
  lt j hj := Nat.lt_of_lt_of_le (h.lt j hj) hs
  off := h.off
  cell j hj k hk := (World.cell?_of_block (a := ⟨rb j, ro j + k, none⟩) (he j hj)).trans (h.cell j hj k hk)
  free j hj k hk := (World.frozen?_of_block (a := ⟨rb j, ro j + k, none⟩) (he j hj)).trans (h.free j hj k hk)
  apart := h.apart
/-- A row of blanks, the first i cells of which are a text's. -/
def part (cols : Nat) (t : List UInt8) (i : Nat) : List UInt8 := t.take i ++ List.replicate (cols - i) 32
theorem part_zero (cols : Nat) (t : List UInt8) : part cols t 0 = List.replicate cols 32 := by simp [part]
theorem part_len (cols : Nat) (t : List UInt8) (i : Nat) (h : i ≤ t.length) (h2 : i ≤ cols) : (part cols t i).length = cols := by simp [part]; omega
theorem part_succ (cols : Nat) (t : List UInt8) (i : Nat) (h : i < t.length) (h2 : i < cols) : (part cols t i).set i (t[i]?.getD 0) = part cols t (i + 1) := by
  unfold part
  have hl : (t.take i).length = i := by rw [List.length_take]; omega
  rw [List.set_append, if_neg (by omega), hl, Nat.sub_self]
  obtain ⟨m, hm⟩ : ∃ m, cols - i = m + 1 := ⟨cols - i - 1, by omega⟩
  rw [hm, List.replicate_succ, List.set_cons_zero, List.take_add_one, List.getElem?_eq_getElem h, List.append_assoc, show cols - (i + 1) = m by omega]
  rfl
theorem part_all (cols : Nat) (t : List UInt8) (i : Nat) (h : i = min t.length cols) : part cols t i = ovl cols t := by
  subst h
  unfold part ovl
  rcases Nat.le_total t.length cols with h | h
  · rw [Nat.min_eq_left h, List.take_of_length_le (Nat.le_refl _), List.take_of_length_le h]
  · rw [Nat.min_eq_right h, show cols - cols = 0 by omega, show cols - t.length = 0 by omega]
theorem putL_set (L : List (List UInt8)) (j i : Nat) (c : UInt8) (r : List UInt8) (hj : j < L.length) : putL (L.set j r) j i c = L.set j (r.set i c) := by
  unfold putL
  apply List.ext_getElem?
  intro k
  rw [List.getElem?_modify]
  by_cases h : j = k
  · subst h
    rw [List.getElem?_set_self hj, List.getElem?_set_self hj]
    simp
  · rw [List.getElem?_set_ne h, List.getElem?_set_ne h]
    simp [h]
theorem byte_get (S : ByteArray) (t : List UInt8) (h : S = ⟨t.toArray⟩) (k : Nat) (hk : k < S.size) : t[k]? = some (S[k]'hk) := by
  subst h
  exact List.getElem?_eq_getElem hk
theorem set_at (L : List (List UInt8)) (j : Nat) (r : List UInt8) (hj : j < L.length) : (L.set j r)[j]?.getD [] = r := by rw [List.getElem?_set_self hj]; rfl
set_option maxRecDepth 100000 in
set_option maxHeartbeats 16000000 in
theorem sput_any (B : Nat) (w : World) (hb : Nat) (rb ro rc : Nat → Nat) (L : List (List UInt8)) (h : OwnRows B w hb rb ro rc L) (hc : Nat) (rows x y : Int) (cols : Nat) (hcol : cols ≤ 1000) (j : Nat) (hj : j < L.length) (hlen : L[j]? = some (List.replicate cols 32)) (_hL : L.length ≤ 1000) (S : ByteArray) (t : List UInt8) (hS : S = ⟨t.toArray⟩) (_ht : t.length ≤ 100000) :
    Calls Tryd.prog 39 #[.agg #[.int .i64 rows, .int .i64 (cols : Nat), .slice (some ⟨hb, 0, none⟩) L.length hc, .int .i64 x, .int .i64 y], .int .i64 (j : Nat), .string S] w fun e w' => e = .returned (.tuple #[]) ∧ OwnRows B w' hb rb ro rc (L.set j (ovl cols t)) ∧ Out (fun k => k = rb j) w w' := by
  have hne : L ≠ [] := by intro e; rw [e] at hj; simp at hj
  have hhl := h.head_lt hne
  have hrl := h.lt j hj
  have hof := h.off j hj
  have hL0 : OwnRows B w hb rb ro rc (L.set j (part cols t 0)) := by
    rw [part_zero]
    have e : L.set j (List.replicate cols 32) = L := by
      apply List.ext_getElem?
      intro k
      by_cases hk : j = k
      · subst hk; rw [List.getElem?_set_self hj, hlen]
      · rw [List.getElem?_set_ne hk]
    rw [e]; exact h
  have HO := Lib.hid hL0
  obtain ⟨m, hm⟩ : ∃ m, m = L.length := ⟨_, rfl⟩
  have HM := Lib.hid hm
  have hsz : S.size = t.length := by rw [hS]; rfl
  have HS := Lib.hid hS
  rw [← hm] at hj ⊢
  obtain ⟨q, hq⟩ : ∃ q, q = t.length := ⟨_, rfl⟩
  have HQ := Lib.hid hq
  rw [← hq] at hsz
  obtain ⟨z, hz⟩ : ∃ z : Nat, min ((S.size : Nat) : Int) ((cols : Nat) : Int) = (z : Int) := ⟨min S.size cols, by omega⟩
  have HZ : Hid (z = min q cols) := Lib.hid (by omega)
  have hzq : z ≤ q := by omega
  have hzc : z ≤ cols := by omega
  have hsq : q ≤ S.size := by omega
  clear hL0 h hlen hm hS hq hsz
  go_enter Tryd.func39, Tryd.ntmps39
  go_upto_region 1 with fail
  generalize hW : World.alloc w _ = W
  have hbW : Below w.heap.size w W := by rw [← hW]; exact (Below.refl _ _).alloc (Nat.le_refl _) _
  have hbox : Box5 W w.heap.size 37 (.int .i64 rows) (.int .i64 (cols : Nat)) (.slice (some ⟨hb, 0, none⟩) m hc) (.int .i64 x) (.int .i64 y) := by
    rw [← hW]; unfold Box5; rw [heap_alloc, if_pos rfl]
  have hsW : W.heap.size = w.heap.size + 1 := by rw [← hW]; exact alloc_size _ _
  have HSW := Lib.hid hsW
  clear hW hsW
  have HB := Lib.hid hbox
  have HOW : Hid (OwnRows B W hb rb ro rc (L.set j (part cols t 0))) := Lib.hid (HO.out.eq hbW.size (hbW.block hb hhl) (fun i hi => hbW.block _ (HO.out.lt i hi)))
  have c1 := hbox.c1
  have c2 := hbox.c2
  clear hbox
  go_wp2_with fail
  clear hz
  go_loopw [12, 6] (fun i _ wr => ∃ k : Nat, k ≤ z ∧ i = .int .i64 (k : Nat) ∧ Hid (OwnRows B wr hb rb ro rc (L.set j (part cols t k))) ∧ Hid (Out (fun k => k = rb j) W wr)) (fun i _ _ => z - (intOf i).toNat)
  case atStart => exact ⟨0, Nat.zero_le _, rfl, HOW, Lib.hid (Out.refl _ _)⟩
  case round =>
    obtain ⟨k, hk, rfl, HR, HT⟩ := hrel
    have y2 := (HT.out.cell (b := w.heap.size) (by have := HSW.out; omega) (by omega) 2).trans c2
    by_cases hlt : k < z
    · have hjl : j < (L.set j (part cols t k)).length := by rw [List.length_set, ← HM.out]; exact hj
      have hrow : (L.set j (part cols t k))[j]?.getD [] = part cols t k := set_at L j _ (by rw [← HM.out]; exact hj)
      have hpl : (part cols t k).length = cols := part_len cols t k (by rw [← HQ.out]; omega) (by omega)
      have r0 := HR.out.head j hjl
      rw [hrow, hpl] at r0
      have rk := HR.out.cell j hjl k (by rw [hrow, hpl]; omega)
      have fk := HR.out.free j hjl k (by rw [hrow, hpl]; omega)
      have hk1 : k < S.size := by omega
      have hch := byte_get S t HS.out k hk1
      have hkz : (k : Int) < ((S.size : Nat) : Int) := by omega
      have hkc : (k : Int) < (cols : Int) := by omega
      have hjm : (j : Int) < (m : Int) := by omega
      have HNX : Hid (OwnRows B (wr.setCell ⟨rb j, ro j + k, none⟩ (.int .u8 (((S[k]'hk1).toNat : Nat) : Int))) hb rb ro rc (L.set j (part cols t (k + 1)))) := Lib.hid (by
        have h0 := HR.out.set j k hjl (by rw [hrow, hpl]; omega) (S[k]'hk1)
        have e := part_succ cols t k (by rw [← HQ.out]; omega) (by omega)
        rw [hch] at e
        rw [putL_set L j k _ _ (by rw [← HM.out]; exact hj)] at h0
        rw [← e]
        exact h0)
      clear hrow hpl hch hjl
      go_upto_region 4 with fail
      go_region
      go_wp2_with fail
      exact ⟨⟨k + 1, by omega, by go_num, Lib.hid (HNX.out.eq (Nat.le_refl _) rfl fun _ _ => rfl), Lib.hid ((HT.out.set (.inl rfl) _ _).drew)⟩, by simp [intOf]; omega⟩
    · obtain rfl : k = z := by omega
      go_wp2_with fail
      refine bodyPost_end (results_none rfl _ _ _) rfl ?_
      have e := part_all cols t k (by rw [HZ.out, HQ.out])
      refine ⟨rfl, by rw [← e]; exact HR.out, (Out.of_below hbW).trans ⟨HT.out.os, HT.out.tape, HT.out.output, HT.out.size, HT.out.block⟩⟩
theorem stat_cut (S : ByteArray) (l : List UInt8) (h : S = ⟨l.toArray⟩) (a : Nat) : S.extract a l.length = ⟨(l.drop a).toArray⟩ := by
  rw [bytes_cut S l h, List.take_of_length_le (by rw [List.length_drop]; omega)]
set_option maxRecDepth 100000 in
set_option maxHeartbeats 8000000 in
theorem sstatus_any (s : SH) (v : Value) (w : World) (hT : TabOK w) (h : ShowAt w v s) (hl : Fit s) :
    Calls Tryd.prog 40 #[v] w fun e w' => e = .returned (.string ⟨(statT s).toArray⟩) ∧ Below w.heap.size w w' := by
  obtain ⟨a, c, rfl, _⟩ := h
  have hst := hl.lim.st
  have hc8 := hl.c8
  have hc1 := hl.c132
  have hlen : (lcells s.status).length ≤ 8000 := by
    have h2 := (cellsTo_len s.status.data.toList s.status.size (Nat.le_refl _)).2
    have h4 : (lcells s.status).length = (cellsTo s.status.data.toList s.status.size).length := rfl
    omega
  have CC : ∀ wx, TabOK wx → Hid (Calls Tryd.prog 21 #[.string s.status] wx fun e w' => (∃ v, e = .returned (.tuple #[.string ⟨(lcells s.status).toArray⟩, v])) ∧ Below wx.heap.size wx w') := fun wx hx => by
    refine Lib.hid ((cells_any s.status wx hx (by omega)).mono ?_)
    rintro e w' ⟨⟨v, he, _⟩, hb⟩
    exact ⟨⟨v, he⟩, hb⟩
  have HTB := Lib.hid hT
  obtain ⟨X, hX⟩ : ∃ X, X = statT s := ⟨_, rfl⟩
  have hX2 : X = if s.typing = true ∧ s.cols ≤ ((lcells s.status).length : Int) then (lcells s.status).drop ((lcells s.status).length - s.cols.toNat + 1) else lcells s.status := hX
  rw [← hX]
  obtain ⟨l, hl0⟩ : ∃ l, l = lcells s.status := ⟨_, rfl⟩
  rw [← hl0] at CC hlen hX2
  obtain ⟨S, hS⟩ : ∃ S : ByteArray, S = ⟨l.toArray⟩ := ⟨_, rfl⟩
  have HS := Lib.hid hS
  rw [← hS] at CC
  have hsz : S.size = l.length := by rw [hS]; rfl
  obtain ⟨q, hq⟩ : ∃ q, q = S.size := ⟨_, rfl⟩
  have HQ : Hid (S.size = q) := Lib.hid hq.symm
  rw [← hsz, ← hq] at hlen hX2
  have HL : Hid (l.length = q) := Lib.hid (by omega)
  obtain ⟨C, hC⟩ : ∃ C : Nat, s.cols = (C : Int) := ⟨s.cols.toNat, by omega⟩
  rw [hC] at hX2 hc8 hc1 ⊢
  rw [Int.toNat_natCast] at hX2
  have HX := Lib.hid hX2
  clear hX hX2 hl0 hS hsz hq hC hT hl
  go_enter Tryd.func40, Tryd.ntmps40
  go_upto_region 1 with fail
  obtain ⟨W, hW, hbW, hsW, hbox⟩ := box7_new w (.slice a s.lines.length c) (.int .i64 s.line) (.int .i64 s.col) (.string s.status) (.bool s.typing) (.int .i64 s.rows) (.int .i64 (C : Int)) 26
  rw [hW]
  clear hW
  have HB := Lib.hid hbox
  have x3 := hbox.c3
  have C1 := CC W (HTB.out.later hbW)
  clear CC hbox
  go_wp2_with fail
  (with_reducible refine C1.out.mono ?_); rintro e w1 ⟨⟨v, rfl⟩, hb1⟩
  have hbe : Below w.heap.size w w1 := below_tr hbW hb1
  have HB1 := Lib.hid (HB.out.later hb1)
  have y4 := HB1.out.c4
  have y6 := HB1.out.c6
  clear C1 x3 hb1
  cases hty : s.typing with
  | false =>
    have HF : Hid (X = l) := Lib.hid (by rw [HX.out, hty]; simp)
    rw [hty] at y4
    clear hty
    go_wp2_with fail
    go_ret
    exact ⟨by rw [HF.out, ← HS.out]; rfl, hbe⟩
  | true =>
    rw [hty] at y4
    by_cases hle : C ≤ q
    · have HF : Hid (X = l.drop (q - C + 1)) := Lib.hid (by rw [HX.out, hty, if_pos ⟨rfl, by omega⟩])
      have hsq : ((S.size : Nat) : Int) = (q : Int) := by rw [HQ.out]
      have hd : decide ((C : Int) ≤ ((S.size : Nat) : Int)) = true := decide_eq_true (by omega)
      have hd2 : (C : Int) ≤ ((S.size : Nat) : Int) := by omega
      have hw1 : IntKind.i64.wrap (((S.size : Nat) : Int) - (C : Int)) = ((q - C : Nat) : Int) := by rw [show ((S.size : Nat) : Int) - (C : Int) = ((q - C : Nat) : Int) by omega]; exact IntWalk.i64_in _ ⟨by omega, by omega⟩
      clear hty
      go_wp2_with fail
      go_ret
      have e : S.extract (q - C + 1) S.size = ⟨(l.drop (q - C + 1)).toArray⟩ := by
        rw [show S.size = l.length by rw [HQ.out, HL.out]]
        exact stat_cut S l HS.out _
      exact ⟨by rw [HF.out, ← e]; rfl, hbe⟩
    · have HF : Hid (X = l) := Lib.hid (by rw [HX.out, if_neg (by intro h; omega)])
      have hsq : ((S.size : Nat) : Int) = (q : Int) := by rw [HQ.out]
      have hd : decide ((C : Int) ≤ ((S.size : Nat) : Int)) = false := decide_eq_false (by omega)
      have hd2 : ¬ (C : Int) ≤ ((S.size : Nat) : Int) := by omega
      clear hty
      go_wp2_with fail
      go_ret
      exact ⟨by rw [HF.out, ← HS.out]; rfl, hbe⟩
end Go.Proofs.YtnpdpfkoghhioaaDoor
