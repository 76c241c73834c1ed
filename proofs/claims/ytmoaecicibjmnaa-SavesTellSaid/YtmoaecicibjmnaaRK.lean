/- The document's without. The document's Remove. The document's Rename. The document's Append. By: what the document tells. One: a file system has what the document's has. -/
import Derived.Test.YtmoaecicibjmnaaRA
import Derived.Test.YtmoaecicibjmnaaHQ
import Derived.Test.YtmoaecicibjmnaaKT
namespace Go.Proofs.Ytmoaecicibjmnaa
open Go.RowKit

/-- append of a run of files to a row of the call's own. -/
theorem wpList_append_files {w : World} {ops : Array Oper} {rest : List Oper} {o : Oper} {a : Act} {Q : Exit → Act → World → Prop} (hg : o.guard = none) (s x : Operand)
    (hop : o.op = Op.call { callee := Callee.builtin Builtin.append, args := #[s, x], argTypes := #[101, 101] })
    (B : Nat) (v : Value) (n : Nat) (xs : List Value) (hs : a.eval s = v) (hown : w.ownsRow B 115 3 v n xs)
    (A : Addr) (m c : Nat) (hx : a.eval x = .slice (some A) m c) (L : List PF) (hm : L.length = m) (hu : ∀ j u, (rc L)[j]? = some u → w.cell? (A.add j) = some u)
    (hn : n + m ≤ 1000000) (hB : B ≤ w.heap.size)
    (hK : ∀ v' w', Hid (w'.ownsRow B 115 3 v' (n + m) (xs ++ rc L)) → Below B w w' → wpList Try.prog ops Q rest (a.put o.dst v') w') :
    wpList Try.prog ops Q (o :: rest) a w := by
  obtain ⟨i, hi, hzz⟩ := Option.map_eq_some_iff.1 (show (Try.prog.info? 115).map (fun i => (i.zero, i.size, i.bytes)) = some (some (.agg #[.string ByteArray.empty, .string ByteArray.empty, .int .i64 0]), 3, 40) by kernel_rfl)
  simp only [Prod.mk.injEq] at hzz
  obtain ⟨hz1, hs1, hb1⟩ := hzz
  refine wpList_append_own w hg s x 101 hop B 115 i _ 3 40 (by kernel_rfl) hi hz1 hs1 hb1 rfl (by decide) v n xs hs hown A m c (rc L) hx (by rw [rc_len, hm])
    hu (rc_one L) (by unfold maxLen; omega) (by omega) hB ?_
  intro v' w' r1 r2 _
  exact hK v' w' r1 ((Below.refl B w).grown r2 hB fun k hk => (hown.lt k hk).1)
set_option maxRecDepth 100000 in
set_option maxHeartbeats 8000000 in
theorem rwithout_any {M : Nat → Prop} {b : Nat} {F : FR} (w : World) (h : RAt M w b F) (hc : F.files.length ≤ 100) (i : Nat) (hi : i < F.files.length) :
    Calls Try.prog 101 #[.pointer (some ⟨b, 0, none⟩), .int .i64 (i : Nat)] w fun e w' => e = .returned (.tuple #[]) ∧ RTurned M w w' b { F with files := F.files.eraseIdx i } := by
  obtain ⟨fv, kv, L, h, hlf⟩ := h
  have H := Lib.hid h
  have HLF := Lib.hid hlf
  have c4 := h.box.c4
  have hbl := h.box.lt
  obtain ⟨g, cap, cur, rfl, hg, h1, h2, h3, h4⟩ : ∃ g cap cur, fv = .slice (some ⟨g, 0, none⟩) F.files.length cap ∧ w.heap[g]? = some (.cells cur 115 (0, 0)) ∧ F.files.length ≤ cap ∧ cap ≤ maxLen ∧ cur.size = cap * 3 ∧ cur.toList.take (F.files.length * 3) = rc F.files := by
    rcases h.own.2 with ⟨_, h0⟩ | ⟨g, cap, cur, hv, _, hg, h1, h2, h3, h4⟩
    · omega
    · exact ⟨g, cap, cur, hv, hg, h1, h2, h3, h4⟩
  obtain ⟨q, hq⟩ : ∃ q, q = F.files.length := ⟨_, rfl⟩
  have HQ := Lib.hid hq
  have hgl : g < w.heap.size := (Array.getElem?_eq_some_iff.1 hg).1
  have hcells : Hid (∀ j u, (rc F.files)[j]? = some u → w.cell? ⟨g, j, none⟩ = some u) := fun j u hj => by
    have hj3 := (List.getElem?_eq_some_iff.1 hj).1
    rw [rc_len] at hj3
    rw [cell_at hg j, ← Array.getElem?_toList, ← hj, ← h4, List.getElem?_take, if_pos hj3]
  rw [← hq] at c4 hc hi h1
  unfold maxLen at h2
  clear h hlf hq hg h3 h4
  have hn1 : Hid (∀ t u, (rc (F.files.take i))[t]? = some u → w.cell? ⟨g, t, none⟩ = some u) := fun t u hu => by
    rw [rc_take, List.getElem?_take] at hu
    split at hu
    · exact hcells.out t u hu
    · cases hu
  have hn2 : Hid (∀ t u, (rc (F.files.drop (i + 1)))[t]? = some u → w.cell? ⟨g, (i + 1) * 3 + t, none⟩ = some u) := fun t u hu => by
    rw [rc_drop, List.getElem?_drop] at hu
    exact hcells.out _ u hu
  obtain ⟨A, hA, hsrc⟩ : ∃ A : Addr, (if cap = i + 1 then (some ⟨g, 0, none⟩ : Option Addr) else some ⟨g, (i + 1) * 3, none⟩) = some A ∧ Hid (∀ wx : World, (∀ j, wx.cell? ⟨g, j, none⟩ = w.cell? ⟨g, j, none⟩) → ∀ t u, (rc (F.files.drop (i + 1)))[t]? = some u → wx.cell? (A.add t) = some u) := by
    by_cases h : cap = i + 1
    · refine ⟨_, by rw [if_pos h], fun wx _ t u hu => ?_⟩
      have h0 : (rc (F.files.drop (i + 1))).length = 0 := by rw [rc_len, List.length_drop, ← HQ.out]; omega
      rw [List.length_eq_zero_iff.1 h0] at hu
      simp at hu
    · refine ⟨_, by rw [if_neg h], fun wx hx t u hu => ?_⟩
      rw [add_plain, hx]
      exact hn2.out t u hu
  have HC : Hid (∀ wx, Below w.heap.size w wx → wx.cell? ⟨b, 4, none⟩ = some (.slice (some ⟨g, 0, none⟩) q cap) ∧ ∀ j, wx.cell? ⟨g, j, none⟩ = w.cell? ⟨g, j, none⟩) := fun wx hb =>
    ⟨(hb.cell (p := ⟨b, 4, none⟩) hbl).trans c4, fun j => hb.cell (p := ⟨g, j, none⟩) hgl⟩
  have hmade := World.ownsRow_made (e := 115) (size := 3) (base := w.heap.size) w #[] 0 (Nat.le_refl _) (Nat.zero_le _) rfl
  have HM := Lib.hid hmade
  have hbA : Below w.heap.size w (w.alloc (.cells #[] 115)) := (Below.refl _ _).alloc (Nat.le_refl _) _
  obtain ⟨a4, ag⟩ := HC.out _ hbA
  have HAG := Lib.hid ag
  have ic : i ≤ cap := by omega
  have jc : i + 1 ≤ cap := by omega
  have iq : (i : Int) + 1 ≤ (q : Int) := by omega
  clear hcells hmade ag c4
  go_enter Try.func101, Try.ntmps101
  go_wp2_with (at_builtin; first
    | (refine wpList_append_files rfl (.tmp 5) (.tmp 11) rfl w.heap.size _ 0 _ (by simp [Act.eval]) HM.out ⟨g, 0, none⟩ i cap (by simp [Act.eval]) (F.files.take i) (by rw [List.length_take, ← HQ.out]; omega) (fun t u hu => by rw [add_plain, Nat.zero_add, HAG.out]; exact hn1.out t u hu) (by omega) hbA.size ?_; intro v5 w5 hown0 hb5; have hown5 : Hid (w5.ownsRow w.heap.size 115 3 v5 i ([] ++ rc (F.files.take i))) := Lib.hid (by have h0 := hown0.out; rw [Nat.zero_add] at h0; exact h0); clear hown0; have hbB := hbA.trans hb5; obtain ⟨b4, bg⟩ := HC.out _ hbB; have HBG := Lib.hid bg; clear a4 bg hb5)
    | (refine wpList_append_files rfl (.tmp 14) (.tmp 21) rfl w.heap.size v5 i _ (by simp [Act.eval]) hown5.out A (q - (i + 1)) (cap - (i + 1)) (by simp [Act.eval]) (F.files.drop (i + 1)) (by rw [List.length_drop, ← HQ.out]) (hsrc.out w5 HBG.out) (by omega) hbB.size ?_; intro v6 w6 hown6 hb6; obtain ⟨va, vc, rfl⟩ : ∃ a c, v6 = .slice a (i + (q - (i + 1))) c := own_slice hown6.out; have hf6 : w6.frozen? ⟨b, 4, none⟩ = false := (World.frozen?_of_block (a := ⟨b, 4, none⟩) ((hbB.trans hb6).block b hbl)).trans (H.out.box.free 4); have b6 := (HC.out _ (hbB.trans hb6)).1))
  refine bodyPost_end (results_none rfl _ _ _) rfl ?_
  have hbe : Below w.heap.size w w6 := hbB.trans hb6
  have hsz := hbe.size
  refine ⟨rfl, fun k => M k ∨ (w.heap.size ≤ k ∧ k < w6.heap.size), ⟨(.slice va (i + (q - (i + 1))) vc), kv, L, ?_, HLF.out⟩, fun k hk => hk.elim .inl fun h => .inr h.1, ?_⟩
  · have hbb := H.out.box.eq (hbe.block b hbl)
    have hb4 := hbb.s4 (.slice va (i + (q - (i + 1))) vc)
    have hoc : ∀ k, (Value.slice va (i + (q - (i + 1))) vc).ownBlock = some k → w.heap.size ≤ k ∧ k < w6.heap.size := fun k hk => own_at hown6.out k hk
    have e1 : (F.files.eraseIdx i).length = i + (q - (i + 1)) := by rw [List.length_eraseIdx, if_pos (by rw [← HQ.out]; exact hi), ← HQ.out]; omega
    have e2 : rc (F.files.eraseIdx i) = [] ++ rc (F.files.take i) ++ rc (F.files.drop (i + 1)) := by rw [List.eraseIdx_eq_take_drop_succ, rc_append]; rfl
    refine ⟨hb4, ?_, ?_, .inl H.out.mb, fun k hk => ⟨.inr (hoc k hk), fun e => by have := hoc k hk; omega⟩, fun k hk => ?_⟩
    · show World.ownsRow _ 0 _ 3 _ (F.files.eraseIdx i).length (rc (F.files.eraseIdx i))
      rw [e1, e2]
      exact own_mono (own_eq hown6.out fun c hc => by rw [setCell_heap_other _ _ _ _ _ (fun e => by have := hoc c hc; omega)]) (Nat.zero_le _)
    · refine H.out.ints.eq (by rw [size_set]; exact hsz) fun k hk hP => ⟨?_, .inl hP.1, hP.2.1, fun e => by have := hoc k e; omega⟩
      rw [setCell_heap_other _ _ _ _ _ hP.2.1]
      exact hbe.block k hk
    · rw [size_set]
      rcases hk with h | h
      · exact Nat.lt_of_lt_of_le (H.out.lt k h) hsz
      · exact h.2
  · exact (Out.of_below hbe).set (.inl H.out.mb) _ _
end Go.Proofs.Ytmoaecicibjmnaa

namespace Go.Proofs.Ytmoaecicibjmnaa
open Go.RowKit

theorem on_files {F : FR} (hz : F.left ≠ 0) (L : List PF) : doneF F { F with files := L } = { doneA F with files := L } := by
  unfold doneA doneF
  rw [if_neg hz, if_neg hz]
  split <;> rfl
theorem removeF_on {F : FR} {n : ByteArray} (hz : hasE F n = 0) (hl : F.left ≠ 0) : removeF F n = { doneA F with files := (doneA F).files.eraseIdx (place F.files n) } := by
  unfold removeF
  rw [if_pos hz]
  show doneF F { F with files := dropL F.files n } = _
  rw [on_files hl, (doneA_on hl).1, dropL, if_pos (hasE_ok hz).2]
theorem doneF_zero {F : FR} (hz : F.left = 0) (X : FR) : doneF F X = doneA F := by unfold doneF doneA; rw [if_pos hz, if_pos hz]
set_option maxRecDepth 100000 in
set_option maxHeartbeats 8000000 in
theorem rremove_any {M : Nat → Prop} {b : Nat} {F : FR} (w : World) (h : RAt M w b F) (hG : Sound F) (hkl : F.keep.length ≤ 1000000) (n : ByteArray) :
    Calls Try.prog 66 #[.pointer (some ⟨b, 0, none⟩), .string n] w fun e w' => e = .returned (.int .i64 (strokeE F n)) ∧ RTurned M w w' b (removeF F n) := by
  have C1 := there_any h hG n
  by_cases hz : hasE F n = 0
  · obtain ⟨ho, hi⟩ := hasE_ok hz
    have ep : placeI F n = ((place F.files n : Nat) : Int) := by unfold placeI; rw [if_pos hi]
    rw [hz, if_pos rfl, ep] at C1
    have C2 := Lib.hid C1
    have CF : ∀ w2, Below w.heap.size w w2 → Hid (Calls Try.prog 100 #[.pointer (some ⟨b, 0, none⟩)] w2 fun e w' => e = .returned (.bool (decide (F.left = 0))) ∧ RTurned M w2 w' b (doneA F)) := fun w2 hb => Lib.hid (fails_any w2 (h.below hb) hG ho hkl)
    have H := Lib.hid h
    have hE : strokeE F n = if F.left = 0 then 51 else 0 := by unfold strokeE; rw [if_pos hz]
    have hp := isAt_lt hi
    have hcnt := hG.cnt
    by_cases hl : F.left = 0
    · have e2 : removeF F n = doneA F := by unfold removeF; rw [if_pos hz, doneF_zero hl]
      rw [hE, if_pos hl, e2]
      rw [decide_eq_true hl] at CF
      clear hz hi ep C1 h hE hp hcnt e2 hl ho hG
      go_enter Try.func66, Try.ntmps66
      go_wp2_with fail
      (with_reducible refine C2.out.mono ?_); rintro e w2 ⟨rfl, hb2⟩
      have C3 := CF w2 hb2
      clear CF
      go_wp2_with fail
      (with_reducible refine C3.out.mono ?_); rintro e w3 ⟨rfl, ht⟩
      have HT := Lib.hid ht
      clear ht
      go_wp2_with fail
      go_ret
      exact ⟨rfl, RTurned.trans (fun k hk => .inl hk) (Out.of_below hb2) HT.out⟩
    · rw [hE, if_neg hl, removeF_on hz hl]
      rw [decide_eq_false hl] at CF
      have hfl := (doneA_on hl).1
      generalize place F.files n = k at *
      generalize doneA F = D at *
      have HFL := Lib.hid hfl
      rw [← hfl] at hp hcnt
      have CW : ∀ (M3 : Nat → Prop) (w3 : World), RAt M3 w3 b D → Hid (Calls Try.prog 101 #[.pointer (some ⟨b, 0, none⟩), .int .i64 (k : Nat)] w3 fun e w' => e = .returned (.tuple #[]) ∧ RTurned M3 w3 w' b { D with files := D.files.eraseIdx (k) }) := fun M3 w3 h3 => Lib.hid (rwithout_any w3 h3 (by omega) _ hp)
      generalize { D with files := D.files.eraseIdx (k) } = R at *
      clear hz hi ep C1 h hE hl ho hG hfl hp hcnt
      go_enter Try.func66, Try.ntmps66
      go_wp2_with fail
      (with_reducible refine C2.out.mono ?_); rintro e w2 ⟨rfl, hb2⟩
      have C3 := CF w2 hb2
      clear CF
      go_wp2_with fail
      (with_reducible refine C3.out.mono ?_); rintro e w3 ⟨rfl, M3, h3, hM3, ho3⟩
      have C4 := CW M3 w3 h3
      have HM3 := Lib.hid hM3
      have HO3 := Lib.hid (Out.trans (Out.of_below (M := M) hb2) ho3 (fun k hk => .inl hk))
      have HB2 := Lib.hid hb2
      clear h3 hM3 ho3 CW C2 C3
      go_wp2_with fail
      (with_reducible refine C4.out.mono ?_); rintro e w4 ⟨rfl, ht⟩
      have HT := Lib.hid ht
      clear ht
      go_wp2_with fail
      go_ret
      exact ⟨rfl, RTurned.trans (fun y hy => (HM3.out y hy).elim .inl fun h => .inr (Nat.le_trans HB2.out.size h)) HO3.out HT.out⟩
  · have hE : strokeE F n = hasE F n := by unfold strokeE; rw [if_neg hz]
    have hS : removeF F n = F := by unfold removeF; rw [if_neg hz]
    rw [if_neg hz] at C1
    rw [hE, hS]
    have C2 := Lib.hid C1
    have H := Lib.hid h
    have hz' : (hasE F n == 0) = false := by simpa using hz
    generalize hasE F n = z at *
    clear hz hG hE hS C1 h
    go_enter Try.func66, Try.ntmps66
    go_wp2_with fail
    (with_reducible refine C2.out.mono ?_); rintro e w2 ⟨rfl, hb2⟩
    go_wp2_with fail
    go_ret
    exact ⟨rfl, RTurned.below H.out hb2⟩
end Go.Proofs.Ytmoaecicibjmnaa

namespace Go.Proofs.Ytmoaecicibjmnaa
open Go.RowKit

theorem renameF_on {F : FR} (hG : Sound F) {a c : ByteArray} {x : PF} (hz : hasE F a = 0) (hc : namedB c = true) (hl : F.left ≠ 0) (hx : F.files[place F.files a]? = some x) :
    renameF F a c = { { doneA F with files := (doneA F).files.eraseIdx (place F.files a) } with files := (((doneA F).files.eraseIdx (place F.files a)).filter fun y => ltN y.name (renX x c).name) ++ renX x c :: (((doneA F).files.eraseIdx (place F.files a)).filter fun y => ltN (renX x c).name y.name) } := by
  have hfx : fileX F a = x := by unfold fileX; rw [hx]; rfl
  unfold renameF
  rw [if_pos ⟨hz, hc⟩, hfx, (doneA_on hl).1]
  have he : F.files.eraseIdx (place F.files a) = dropL F.files a := by rw [dropL, if_pos (hasE_ok hz).2]
  rw [he, with_list (rising_drop hG.asc a) (renX x c)]
  show doneF F { F with files := insL (dropL (dropL F.files a) c) (place (dropL (dropL F.files a) c) c) (renX x c) } = _
  rw [on_files hl]
  rfl
set_option maxRecDepth 100000 in
set_option maxHeartbeats 8000000 in
theorem rrename_any {M : Nat → Prop} {b : Nat} {F : FR} (w : World) (h : RAt M w b F) (hG : Sound F) (hkl : F.keep.length ≤ 1000000) (a c : ByteArray) (hcs : c.size ≤ 9223372036854775807) :
    Calls Try.prog 65 #[.pointer (some ⟨b, 0, none⟩), .string a, .string c] w fun e w' => e = .returned (.int .i64 (renE F a c)) ∧ RTurned M w w' b (renameF F a c) := by
  have C1 := there_any h hG a
  by_cases hz : hasE F a = 0
  · obtain ⟨ho, hi⟩ := hasE_ok hz
    obtain ⟨x, hx, hxn⟩ := isAt_get hi
    have ep : placeI F a = ((place F.files a : Nat) : Int) := by unfold placeI; rw [if_pos hi]
    rw [hz, if_pos rfl, ep] at C1
    have C2 := Lib.hid C1
    have CN := fun w2 => Lib.hid (rname_any c w2 hcs)
    have CF : ∀ w2, Below w.heap.size w w2 → Hid (Calls Try.prog 100 #[.pointer (some ⟨b, 0, none⟩)] w2 fun e w' => e = .returned (.bool (decide (F.left = 0))) ∧ RTurned M w2 w' b (doneA F)) := fun w2 hb => Lib.hid (fails_any w2 (h.below hb) hG ho hkl)
    have H := Lib.hid h
    have hp := isAt_lt hi
    have hcnt := hG.cnt
    by_cases hnm : namedB c = true
    · rw [hnm] at CN
      by_cases hl : F.left = 0
      · have e1 : renE F a c = 51 := by unfold renE; rw [if_pos hz, if_pos hnm, if_pos hl]
        have e2 : renameF F a c = doneA F := by unfold renameF; rw [if_pos ⟨hz, hnm⟩, doneF_zero hl]
        rw [e1, e2]
        rw [decide_eq_true hl] at CF
        clear hz hi ep C1 h hp hcnt e1 e2 hl ho hG hnm hx hxn
        go_enter Try.func65, Try.ntmps65
        go_wp2_with fail
        (with_reducible refine C2.out.mono ?_); rintro e w2 ⟨rfl, hb2⟩
        go_wp2_with fail
        (with_reducible refine (CN w2).out.mono ?_); rintro e w2' ⟨rfl, rfl⟩
        have C3 := CF w2' hb2
        clear CF CN
        go_wp2_with fail
        (with_reducible refine C3.out.mono ?_); rintro e w3 ⟨rfl, ht⟩
        have HT := Lib.hid ht
        clear ht
        go_wp2_with fail
        go_ret
        exact ⟨rfl, RTurned.trans (fun k hk => .inl hk) (Out.of_below hb2) HT.out⟩
      · have e1 : renE F a c = 0 := by unfold renE; rw [if_pos hz, if_pos hnm, if_neg hl]
        rw [e1, renameF_on hG hz hnm hl hx]
        rw [decide_eq_false hl] at CF
        have hfl := (doneA_on hl).1
        generalize place F.files a = k at *
        generalize doneA F = D at *
        have HX := Lib.hid (show D.files[k]? = some x by rw [hfl]; exact hx)
        rw [← hfl] at hp hcnt
        have CW : ∀ (M3 : Nat → Prop) (w3 : World), RAt M3 w3 b D → Hid (Calls Try.prog 101 #[.pointer (some ⟨b, 0, none⟩), .int .i64 (k : Nat)] w3 fun e w' => e = .returned (.tuple #[]) ∧ RTurned M3 w3 w' b { D with files := D.files.eraseIdx k }) := fun M3 w3 h3 => Lib.hid (rwithout_any w3 h3 (by omega) _ hp)
        have hlE : (D.files.eraseIdx k).length ≤ 32 := by rw [List.length_eraseIdx, if_pos hp]; omega
        have CI : ∀ (M4 : Nat → Prop) (w4 : World), RAt M4 w4 b { D with files := D.files.eraseIdx k } → Hid (Calls Try.prog 102 #[.pointer (some ⟨b, 0, none⟩), .agg #[.string c, .string x.bytes, .int .i64 ((x.pl.size : Nat) : Int)]] w4 fun e w' => e = .returned (.tuple #[]) ∧ RTurned M4 w4 w' b { { D with files := D.files.eraseIdx k } with files := ((D.files.eraseIdx k).filter fun y => ltN y.name (renX x c).name) ++ renX x c :: ((D.files.eraseIdx k).filter fun y => ltN (renX x c).name y.name) }) := fun M4 w4 h4 => Lib.hid (rwith_any w4 h4 hlE (renX x c))
        generalize { { D with files := D.files.eraseIdx k } with files := ((D.files.eraseIdx k).filter fun (y : PF) => ltN y.name (renX x c).name) ++ renX x c :: ((D.files.eraseIdx k).filter fun (y : PF) => ltN (renX x c).name y.name) } = R at *
        generalize { D with files := D.files.eraseIdx k } = D2 at *
        obtain ⟨q, hq⟩ : ∃ q, q = D.files.length := ⟨_, rfl⟩
        have HQ := Lib.hid hq
        rw [← hq] at hp hcnt
        clear hz hi ep C1 h e1 hl ho hG hfl hx hxn hlE hq hnm
        go_enter Try.func65, Try.ntmps65
        go_wp2_with fail
        (with_reducible refine C2.out.mono ?_); rintro e w2 ⟨rfl, hb2⟩
        go_wp2_with fail
        (with_reducible refine (CN w2).out.mono ?_); rintro e w2' ⟨rfl, rfl⟩
        have C3 := CF w2' hb2
        clear CF CN
        go_wp2_with fail
        (with_reducible refine C3.out.mono ?_); rintro e w3 ⟨rfl, M3, h3, hM3, ho3⟩
        have C4 := fun w4 hb => CW M3 w4 (h3.below hb)
        have HM3 := Lib.hid hM3
        have HO3 := Lib.hid (Out.trans (Out.of_below (M := M) hb2) ho3 (fun k hk => .inl hk))
        have HB2 := Lib.hid hb2
        have H3 := Lib.hid h3
        have hlt3 := Lib.hid h3.lt
        obtain ⟨fv, kv, L, hr3, _⟩ := h3
        have c4 := hr3.box.c4
        obtain ⟨g, cap, hfv, h1, h2, hg, hc, hfr⟩ := own_rfiles hr3.own (by intro e; have := HX.out; rw [e] at this; simp at this)
        rw [← HQ.out] at hfv
        subst hfv
        obtain ⟨d0, d1, d2⟩ := hc k x HX.out
        have hbl := hr3.box.lt
        clear hr3 hM3 ho3 CW C2 C3 hc hfr h1 h2
        go_upto_region 9 with fail
        obtain ⟨W, hW, hbW, hsW, x0, x1, x2⟩ := box_three w3 (.string x.name) (.string x.bytes) (.int .i64 ((x.pl.size : Nat) : Int)) 115
        rw [hW]
        have hWh : W.heap[w3.heap.size]? = some (.cells #[.string x.name, .string x.bytes, .int .i64 ((x.pl.size : Nat) : Int)] 115 (0, 0)) := by rw [← hW, heap_alloc, if_pos rfl]
        have hfz := free_at hWh 0
        clear hW d0 d1 d2 c4
        go_wp2_with fail
        have hb1 : Below w3.heap.size w3 (W.setCell ⟨w3.heap.size, 0, none⟩ (.string c)) := hbW.setCell (p := ⟨w3.heap.size, 0, none⟩) (Nat.le_refl _) _
        have hh1 := setCell_heap_same W w3.heap.size 0 (.string c) _ _ hWh
        generalize W.setCell ⟨w3.heap.size, 0, none⟩ (.string c) = W1 at *
        have C5 := C4 W1 hb1
        have hn3 : w3.heap.size < W1.heap.size := (Array.getElem?_eq_some_iff.1 hh1).1
        have hnm3 : ¬ M3 w3.heap.size := fun h => by have := hlt3.out _ h; omega
        clear C4 x0 x1 x2 hbW hWh hfz hsW
        (with_reducible refine C5.out.mono ?_); rintro e w4 ⟨rfl, M4, h4, hM4, ho4⟩
        have z0 : w4.cell? ⟨w3.heap.size, 0, none⟩ = some (.string c) := (ho4.cell hn3 hnm3 0).trans (cell_at hh1 0)
        have z1 : w4.cell? ⟨w3.heap.size, 1, none⟩ = some (.string x.bytes) := (ho4.cell hn3 hnm3 1).trans (cell_at hh1 1)
        have z2 : w4.cell? ⟨w3.heap.size, 2, none⟩ = some (.int .i64 ((x.pl.size : Nat) : Int)) := (ho4.cell hn3 hnm3 2).trans (cell_at hh1 2)
        have HO4 := Lib.hid ((HO3.out.trans (Out.of_below (M := M) hb1) (fun k hk => .inl hk)).trans ho4 (fun k hk => (HM3.out k hk).elim .inl fun h => .inr (Nat.le_trans HB2.out.size h)))
        have HM4 : Hid (∀ k, M4 k → M k ∨ w.heap.size ≤ k) := Lib.hid (fun k hk => (hM4 k hk).elim (fun h => (HM3.out k h).elim .inl fun h => .inr (Nat.le_trans HB2.out.size h)) fun h => .inr (by have := HO3.out.size; have := hb1.size; omega))
        have C6 := CI M4 w4 h4
        clear CI C5 h4 hM4 ho4 hh1 hn3 hnm3 hb1 hb2 H3
        go_wp2_with fail
        (with_reducible refine C6.out.mono ?_); rintro e w5 ⟨rfl, ht⟩
        have HT := Lib.hid ht
        clear ht
        go_wp2_with fail
        go_ret
        exact ⟨rfl, RTurned.trans HM4.out HO4.out HT.out⟩
    · have hnf : namedB c = false := by cases e : namedB c; rfl; exact absurd e hnm
      have e1 : renE F a c = 2 := by unfold renE; rw [if_pos hz, if_neg hnm]
      have e2 : renameF F a c = F := by unfold renameF; rw [if_neg (fun h => hnm h.2)]
      rw [e1, e2]
      rw [hnf] at CN
      clear hz hi ep C1 h hp hcnt e1 e2 ho hG hnm hnf hx hxn CF
      generalize place F.files a = k at *
      go_enter Try.func65, Try.ntmps65
      go_wp2_with fail
      (with_reducible refine C2.out.mono ?_); rintro e w2 ⟨rfl, hb2⟩
      go_wp2_with fail
      (with_reducible refine (CN w2).out.mono ?_); rintro e w2' ⟨rfl, rfl⟩
      go_wp2_with fail
      go_ret
      exact ⟨rfl, RTurned.below H.out hb2⟩
  · have hE : renE F a c = hasE F a := by unfold renE; rw [if_neg hz]
    have hS : renameF F a c = F := by unfold renameF; rw [if_neg (fun h => hz h.1)]
    rw [if_neg hz] at C1
    rw [hE, hS]
    have C2 := Lib.hid C1
    have H := Lib.hid h
    have hz' : (hasE F a == 0) = false := by simpa using hz
    generalize hasE F a = z at *
    clear hz hG hE hS C1 h
    go_enter Try.func65, Try.ntmps65
    go_wp2_with fail
    (with_reducible refine C2.out.mono ?_); rintro e w2 ⟨rfl, hb2⟩
    go_wp2_with fail
    go_ret
    exact ⟨rfl, RTurned.below H.out hb2⟩
end Go.Proofs.Ytmoaecicibjmnaa

namespace Go.Proofs.Ytmoaecicibjmnaa
open Go.RowKit

/-- A store into a file's bytes alone. -/
theorem rown_bytes {w : World} {g n cap : Nat} {L : List PF} (h : w.ownsRow 0 115 3 (.slice (some ⟨g, 0, none⟩) n cap) L.length (rc L)) (i : Nat) (x : PF) (hx : L[i]? = some x) (y : PF) (hn : y.name = x.name) (hp : y.pl = x.pl) :
    (w.setCell ⟨g, i * 3 + 1, none⟩ (.string y.bytes)).ownsRow 0 115 3 (.slice (some ⟨g, 0, none⟩) n cap) (L.set i y).length (rc (L.set i y)) := by
  have hi := (List.getElem?_eq_some_iff.1 hx).1
  obtain rfl := own_n h
  have h1 := (h.stored (i * 3 + 1) (.string y.bytes)).1
  rw [List.length_set, rc_set L i hi, hn, hp]
  have keep : ∀ (l : List Value) (j : Nat) (v : Value), l[j]? = some v → l.set j v = l := fun l j v hv => by
    apply List.ext_getElem?
    intro k
    by_cases hk : k = j
    · subst hk
      rw [List.getElem?_set_self (List.getElem?_eq_some_iff.1 hv).1, hv]
    · rw [List.getElem?_set_ne (Ne.symm hk)]
  have h0 := rc_get L i x hx 0 (by omega)
  rw [Nat.add_zero] at h0
  rw [keep (rc L) (i * 3) (.string x.name) h0]
  rw [keep ((rc L).set (i * 3 + 1) (.string y.bytes)) (i * 3 + 2) (.int .i64 ((x.pl.size : Nat) : Int)) (by rw [List.getElem?_set_ne (by omega)]; exact rc_get L i x hx 2 (by omega))]
  exact h1
theorem addX_bytes (x : PF) (s : ByteArray) : (addX x s).bytes = x.bytes ++ s := (ByteArray.append_assoc).symm
/-- The bytes of a file grown. -/
theorem RIn.grow {M : Nat → Prop} {w : World} {b g n cap : Nat} {F : FR} {kv : Value} {L : Int} (h : RIn M w b F (.slice (some ⟨g, 0, none⟩) n cap) kv L) {i : Nat} {x : PF} (hx : F.files[i]? = some x) (s : ByteArray) :
    RIn M (w.setCell ⟨g, i * 3 + 1, none⟩ (.string (x.bytes ++ s))) b (putF F i (addX x s)) (.slice (some ⟨g, 0, none⟩) n cap) kv L := by
  have hgb : g ≠ b := (h.mf g rfl).2
  have hst := rown_bytes h.own i x hx (addX x s) rfl rfl
  rw [addX_bytes] at hst
  exact h.turn (putF F i (addX x s)) rfl (h.box.eq (setCell_heap_other _ _ _ _ _ (Ne.symm hgb))) hst (by rw [size_set]; exact Nat.le_refl _) (fun c _ _ hc => setCell_heap_other _ _ _ _ _ (fun e => hc (by rw [e]; rfl)))
theorem ins_with {L : List PF} (hL : Rising L) (n : ByteArray) (hi : isAt L n = false) : (L.filter fun y => ltN y.name (noX n).name) ++ noX n :: (L.filter fun y => ltN (noX n).name y.name) = insL L (place L n) (noX n) := by
  have e : dropL L n = L := by unfold dropL; rw [if_neg (by rw [hi]; decide)]
  have h := with_list hL (noX n)
  rw [show (noX n).name = n from rfl] at h ⊢
  rw [e] at h
  exact h
set_option maxRecDepth 100000 in
set_option maxHeartbeats 8000000 in
theorem rappend_any {M : Nat → Prop} {b : Nat} {F : FR} (w : World) (h : RAt M w b F) (hG : Sound F) (hkl : F.keep.length ≤ 1000000) (n s : ByteArray) (hn : n.size ≤ 1000000) (hs : s.size ≤ 1000000) :
    Calls Try.prog 70 #[.pointer (some ⟨b, 0, none⟩), .string n, .string s] w fun e w' => e = .returned (.int .i64 (appE F n s)) ∧ RTurned M w w' b (appF F n s) := by
  have CN := fun w2 => Lib.hid (rname_any n w2 (by omega))
  have H := Lib.hid h
  have HG := Lib.hid hG
  obtain ⟨R, hR⟩ : ∃ R, R = appF F n s := ⟨_, rfl⟩
  obtain ⟨E, hE⟩ : ∃ E, E = appE F n s := ⟨_, rfl⟩
  have HR := Lib.hid hR
  have HE := Lib.hid hE
  rw [← hR, ← hE]
  have C3 := rplace_any h hG n
  have CS : ∀ w1, Below w.heap.size w w1 → Hid (Calls Try.prog 74 #[.pointer (some ⟨b, 0, none⟩)] w1 fun e w' => e = .returned (.int .i64 (total F.files : Nat)) ∧ Below w1.heap.size w1 w') := fun w1 hb => Lib.hid (rsize_any (h.below hb) hG)
  obtain ⟨fv, kv, L, hr, hlf⟩ := h
  have c2 := hr.box.c2
  have hbl := hr.box.lt
  have hcnt := hG.cnt
  have hT20 := hG.sum
  have hL20 := hG.lim2
  obtain ⟨fa, fc, rfl⟩ : ∃ fa fc, fv = .slice fa F.files.length fc := own_slice hr.own
  have hC : ∀ w1, Below w.heap.size w w1 → w1.cell? ⟨b, 0, none⟩ = some (.int .i64 F.limit) ∧ w1.cell? ⟨b, 4, none⟩ = some (.slice fa F.files.length fc) ∧ b < w1.heap.size := fun w1 hb => ⟨(hb.cell (p := ⟨b, 0, none⟩) hbl).trans hr.box.c0, (hb.cell (p := ⟨b, 4, none⟩) hbl).trans hr.box.c4, Nat.lt_of_lt_of_le hbl hb.size⟩
  obtain ⟨q, hq⟩ : ∃ q, q = F.files.length := ⟨_, rfl⟩
  obtain ⟨T, hT⟩ : ∃ T, T = total F.files := ⟨_, rfl⟩
  obtain ⟨lm, hlm⟩ : ∃ l, l = F.limit := ⟨_, rfl⟩
  have hfull : fullB F n s = ((!isAt F.files n && decide (q = 32)) || decide (lm - (T : Int) < (s.size : Int))) := by rw [fullB, ← hq, ← hT, ← hlm]
  simp only [← hT] at CS hT20
  simp only [← hlm] at hC hT20 hL20
  simp only [← hq] at hC hcnt
  have HC := Lib.hid hC
  have HQ := Lib.hid hq
  have HTT := Lib.hid hT
  have HLM := Lib.hid hlm
  clear hr hlf hR hE hC hT hlm hq hbl hG
  by_cases ho : F.off = true
  · have HE2 : Hid (E = 51) := Lib.hid (by rw [HE.out, appE, if_pos ho])
    have HR2 : Hid (R = F) := Lib.hid (by rw [HR.out, appF, if_pos (.inl ho)])
    rw [ho] at c2
    clear ho C3 CS CN hfull
    go_enter Try.func70, Try.ntmps70
    go_wp2_with fail
    go_ret
    exact ⟨by rw [HE2.out]; rfl, by rw [HR2.out]; exact RTurned.below H.out (Below.refl _ _)⟩
  · have ho' : F.off = false := by cases e : F.off; rfl; exact absurd e ho
    rw [ho'] at c2
    by_cases hnm : namedB n = true
    · rw [hnm] at CN
      by_cases hfu : fullB F n s = true
      · have HE2 : Hid (E = 50) := Lib.hid (by rw [HE.out, appE, if_neg ho, if_neg (by rw [hnm]; decide), if_pos hfu])
        have HR2 : Hid (R = F) := Lib.hid (by rw [HR.out, appF, if_pos (.inr (.inr hfu))])
        rw [hfull] at hfu
        by_cases hia : isAt F.files n = true
        · rw [hia] at hfu
          have hd : decide (lm < (T : Int) + (s.size : Int)) = true := by
            simp at hfu
            exact decide_eq_true (by omega)
          have ep : placeI F n = ((place F.files n : Nat) : Int) := by unfold placeI; rw [if_pos hia]
          rw [ep] at C3
          have hk : place F.files n < 33 := by have := place_le F.files n; have := HQ.out; omega
          generalize place F.files n = k at *
          have hk0 : decide (((k : Nat) : Int) < 0) = false := decide_eq_false (by omega)
          have C3 := Lib.hid C3
          clear hfu hfull ep hia hnm ho ho'
          go_enter Try.func70, Try.ntmps70
          go_wp2_with fail
          (with_reducible refine (CN w).out.mono ?_); rintro e w1 ⟨rfl, rfl⟩
          clear CN
          go_wp2_with fail
          (with_reducible refine C3.out.mono ?_); rintro e w3 ⟨rfl, hb3⟩
          obtain ⟨c0, c4, hbl3⟩ := HC.out w3 hb3
          have C5 : ∀ w1, Below w3.heap.size w3 w1 → Hid (Calls Try.prog 74 #[.pointer (some ⟨b, 0, none⟩)] w1 fun e w' => e = .returned (.int .i64 (T : Nat)) ∧ Below w1.heap.size w1 w') := fun w1 hb => Lib.hid (CS w1 (below_tr hb3 hb)).out
          have hp4 := fun (p : Ext w3) (o : Nat) => p.cell b o hbl3
          clear C3 c2 HC CS
          go_upto_region 6 with fail
          refine wp_region_class (by kernel_rfl) (by kernel_rfl) ?_
          repeat (go_big_quiet_step (first | (go_at_call 74; with_reducible exact Calls.ext (C5 _ (Subtype.property _)).out)))
          refine wpQuiet_nil ?_
          intro _ hw'
          obtain ⟨p, hw''⟩ := hw'
          subst hw''
          go_wp2_with fail
          go_ret
          exact ⟨by rw [HE2.out]; rfl, by rw [HR2.out]; exact RTurned.below H.out (below_tr hb3 p.2)⟩
        · have hia' : isAt F.files n = false := by cases e : isAt F.files n; rfl; exact absurd e hia
          rw [hia'] at hfu
          have ep : placeI F n = -1 := by unfold placeI; rw [if_neg hia]
          rw [ep] at C3
          have C3 := Lib.hid C3
          by_cases hq32 : q = 32
          · have hd : decide (32 ≤ (q : Int)) = true := decide_eq_true (by omega)
            clear hfu hfull ep hia hnm ho ho' hia'
            clear hq32
            go_enter Try.func70, Try.ntmps70
            go_wp2_with fail
            (with_reducible refine (CN w).out.mono ?_); rintro e w1 ⟨rfl, rfl⟩
            clear CN
            go_wp2_with fail
            (with_reducible refine C3.out.mono ?_); rintro e w3 ⟨rfl, hb3⟩
            obtain ⟨c0, c4, hbl3⟩ := HC.out w3 hb3
            have C5 : ∀ w1, Below w3.heap.size w3 w1 → Hid (Calls Try.prog 74 #[.pointer (some ⟨b, 0, none⟩)] w1 fun e w' => e = .returned (.int .i64 (T : Nat)) ∧ Below w1.heap.size w1 w') := fun w1 hb => Lib.hid (CS w1 (below_tr hb3 hb)).out
            have hp4 := fun (p : Ext w3) (o : Nat) => p.cell b o hbl3
            clear C3 c2 HC CS
            go_upto_region 6 with fail
            refine wp_region_class (by kernel_rfl) (by kernel_rfl) ?_
            repeat (go_big_quiet_step (first | (go_at_call 74; with_reducible exact Calls.ext (C5 _ (Subtype.property _)).out)))
            refine wpQuiet_nil ?_
            intro _ hw'
            obtain ⟨p, hw''⟩ := hw'
            subst hw''
            go_wp2_with fail
            go_ret
            exact ⟨by rw [HE2.out]; rfl, by rw [HR2.out]; exact RTurned.below H.out (below_tr hb3 p.2)⟩
          · have hd2 : decide (32 ≤ (q : Int)) = false := decide_eq_false (by omega)
            have hd : decide (lm < (T : Int) + (s.size : Int)) = true := by
              simp [hq32] at hfu
              exact decide_eq_true (by omega)
            clear hfu hfull ep hia hnm ho ho' hia' hq32
            go_enter Try.func70, Try.ntmps70
            go_wp2_with fail
            (with_reducible refine (CN w).out.mono ?_); rintro e w1 ⟨rfl, rfl⟩
            clear CN
            go_wp2_with fail
            (with_reducible refine C3.out.mono ?_); rintro e w3 ⟨rfl, hb3⟩
            obtain ⟨c0, c4, hbl3⟩ := HC.out w3 hb3
            have C5 : ∀ w1, Below w3.heap.size w3 w1 → Hid (Calls Try.prog 74 #[.pointer (some ⟨b, 0, none⟩)] w1 fun e w' => e = .returned (.int .i64 (T : Nat)) ∧ Below w1.heap.size w1 w') := fun w1 hb => Lib.hid (CS w1 (below_tr hb3 hb)).out
            have hp4 := fun (p : Ext w3) (o : Nat) => p.cell b o hbl3
            clear C3 c2 HC CS
            go_upto_region 6 with fail
            refine wp_region_class (by kernel_rfl) (by kernel_rfl) ?_
            repeat (go_big_quiet_step (first | (go_at_call 74; with_reducible exact Calls.ext (C5 _ (Subtype.property _)).out)))
            refine wpQuiet_nil ?_
            intro _ hw'
            obtain ⟨p, hw''⟩ := hw'
            subst hw''
            go_wp2_with fail
            go_ret
            exact ⟨by rw [HE2.out]; rfl, by rw [HR2.out]; exact RTurned.below H.out (below_tr hb3 p.2)⟩
      · have HE0 : E = if F.left = 0 then 51 else 0 := by rw [HE.out, appE, if_neg ho, if_neg (by rw [hnm]; decide), if_neg hfu]
        have HR0 : R = doneA (appX F n s) := by
          rw [HR.out, appF, if_neg]
          rintro (h | h | h)
          · exact ho h
          · rw [hnm] at h; cases h
          · exact hfu h
        have hfu' : fullB F n s = false := by cases e : fullB F n s; rfl; exact absurd e hfu
        rw [hfull] at hfu'
        have hsm : (T : Int) + (s.size : Int) ≤ lm ∧ (isAt F.files n = false → q ≠ 32) := by
          cases e : isAt F.files n <;> rw [e] at hfu' <;> simp at hfu' <;> refine ⟨by omega, fun h => ?_⟩
          · exact hfu'.1
          · cases h
        have hd : decide (lm < (T : Int) + (s.size : Int)) = false := decide_eq_false (by omega)
        have hXS : Sound (appX F n s) := HG.out.app n s hnm (by rw [← HQ.out]; exact hsm.2) (by have := hsm.1; rw [← HTT.out, ← HLM.out]; omega)
        obtain ⟨l1, l2, _, _, l5⟩ := appX_left F n s
        rw [← l1] at HE0
        have HXS0 : Hid (Sound (appX F n s) ∧ (appX F n s).off = false ∧ (appX F n s).left = F.left ∧ (appX F n s).keep.length ≤ 1000000) := Lib.hid ⟨hXS, l2.trans ho', l1, by rw [l5]; exact hkl⟩
        by_cases hia : isAt F.files n = true
        · obtain ⟨x, hx, hxn⟩ := isAt_get hia
          have eX : appX F n s = putF F (place F.files n) (addX x s) := by unfold appX setX; rw [if_pos hia, hx]
          obtain ⟨X, hX⟩ : ∃ X, X = appX F n s := ⟨_, rfl⟩
          rw [← hX] at HE0 HR0 HXS0
          rw [eX] at hX
          have HE2 := Lib.hid HE0
          have HR2 := Lib.hid HR0
          have HXS := HXS0
          have ep : placeI F n = ((place F.files n : Nat) : Int) := by unfold placeI; rw [if_pos hia]
          rw [ep] at C3
          have hk : place F.files n < q := by rw [HQ.out]; exact isAt_lt hia
          have hvb := HG.out.size (List.mem_of_getElem? hx)
          generalize place F.files n = k at *
          have hk0 : decide (((k : Nat) : Int) < 0) = false := decide_eq_false (by omega)
          have HXE := Lib.hid hX
          have HX0 := Lib.hid hx
          have HVB : Hid (x.bytes.size ≤ 1048576) := Lib.hid (by have e : x.bytes.size = x.pl.size + x.air.size := ByteArray.size_append; omega)
          have HMQ : Hid (F.files.length = q) := Lib.hid HQ.out.symm
          have C3 := Lib.hid C3
          clear hfu hfu' hfull ep hia hnm ho ho' HE0 HR0 hX hx hxn eX l1 l2 l5 hXS HXS0 hsm hvb hkl
          go_enter Try.func70, Try.ntmps70
          go_wp2_with fail
          (with_reducible refine (CN w).out.mono ?_); rintro e w1 ⟨rfl, rfl⟩
          clear CN
          go_wp2_with fail
          (with_reducible refine C3.out.mono ?_); rintro e w3 ⟨rfl, hb3⟩
          obtain ⟨c0, c4, hbl3⟩ := HC.out w3 hb3
          have C5 : ∀ wx, Below w3.heap.size w3 wx → Hid (Calls Try.prog 74 #[.pointer (some ⟨b, 0, none⟩)] wx fun e w' => e = .returned (.int .i64 (T : Nat)) ∧ Below wx.heap.size wx w') := fun wx hb => Lib.hid (CS wx (below_tr hb3 hb)).out
          have hp4 := fun (p : Ext w3) (o : Nat) => p.cell b o hbl3
          clear C3 c2 HC CS
          go_upto_region 6 with fail
          refine wp_region_class (by kernel_rfl) (by kernel_rfl) ?_
          repeat (go_big_quiet_step (first | (go_at_call 74; with_reducible exact Calls.ext (C5 _ (Subtype.property _)).out)))
          refine wpQuiet_nil ?_
          intro wz hw'
          obtain ⟨p, hw''⟩ := hw'
          obtain ⟨wzz, hbq⟩ := p
          dsimp only at hw''
          subst hw''
          have hbQ : Below w1.heap.size w1 wz := below_tr hb3 hbq
          clear hp4 C5 c0 c4 hb3 hbq hbl3
          obtain ⟨w9, hw9⟩ : ∃ w9, w9 = wz := ⟨_, rfl⟩
          subst hw9
          obtain ⟨M9, hM9⟩ : ∃ M9, M9 = M := ⟨_, rfl⟩
          subst hM9
          obtain ⟨fv, kv, L, h9, hlf9⟩ := H.out.below hbQ
          have HM9 : Hid (∀ y, M9 y → M9 y ∨ w1.heap.size ≤ y) := Lib.hid (fun y hy => .inl hy)
          have HO9 : Hid (Out M9 w1 w9) := Lib.hid (Out.of_below hbQ)
          have H9 := Lib.hid h9
          have HLF9 := Lib.hid hlf9
          have c4 := h9.box.c4
          obtain ⟨g, cap, hfv, h1, h2, hg, hc, hfr⟩ := own_rfiles h9.own (by intro e; have := HX0.out; rw [e] at this; simp at this)
          rw [HMQ.out] at hfv
          subst hfv
          obtain ⟨d0, d1, d2⟩ := hc k x HX0.out
          have hgb : ¬ (g = b) := (h9.mf g rfl).2
          have hgb2 : ¬ (b = g) := fun e => hgb e.symm
          have f1 := hfr (k * 3 + 1)
          obtain ⟨V, hV⟩ : ∃ V, V = x.bytes := ⟨_, rfl⟩
          have HV := Lib.hid hV
          have hVb : V.size ≤ 1048576 := by rw [hV]; exact HVB.out
          rw [← hV] at d1
          clear h9 hlf9 hc hfr hV d0 d2 h1 h2 hd
          go_upto_region 11 with fail
          go_region
          go_wp2_with fail
          have hRS : RAt M9 ((w9.setCell ⟨g, k * 3 + 1, none⟩ (.string (V ++ s))).drew) b X := by
            have h0 := H9.out.grow HX0.out s
            rw [← HXE.out, ← HV.out] at h0
            exact ⟨_, _, L, h0.eq (Nat.le_refl _) fun _ _ => rfl, by rw [HXS.out.2.2.1]; exact HLF9.out⟩
          have CF := Lib.hid (fails_any _ hRS HXS.out.1 HXS.out.2.1 HXS.out.2.2.2)
          have HO11 : Hid (Out M9 w1 ((w9.setCell ⟨g, k * 3 + 1, none⟩ (.string (V ++ s))).drew)) := Lib.hid ((HO9.out.set (HM9.out g (H9.out.mf g rfl).1) _ _).drew)
          (with_reducible refine CF.out.mono ?_); rintro e w12 ⟨rfl, ht⟩
          have HT12 := Lib.hid ht
          clear ht CF hRS
          have HZ : Hid (E = if decide (X.left = 0) = true then 51 else 0) := Lib.hid (by rw [HE2.out]; simp only [decide_eq_true_eq])
          generalize decide (X.left = 0) = z at *
          cases z with
          | true =>
            go_wp2_with fail
            go_ret
            exact ⟨by rw [HZ.out]; rfl, by rw [HR2.out]; exact RTurned.trans HM9.out HO11.out HT12.out⟩
          | false =>
            go_wp2_with fail
            go_ret
            exact ⟨by rw [HZ.out]; rfl, by rw [HR2.out]; exact RTurned.trans HM9.out HO11.out HT12.out⟩
        · have hia' : isAt F.files n = false := by cases e : isAt F.files n; rfl; exact absurd e hia
          have hq32 : q < 32 := by have := hsm.2 hia'; omega
          have hd2 : decide (32 ≤ (q : Int)) = false := decide_eq_false (by omega)
          have eX : appX F n s = putF (insF F (place F.files n) (noX n)) (place F.files n) (addX (noX n) s) := by unfold appX; rw [if_neg hia]
          obtain ⟨X, hX⟩ : ∃ X, X = appX F n s := ⟨_, rfl⟩
          rw [← hX] at HE0 HR0 HXS0
          rw [eX] at hX
          have hSI := HG.out.ins n hnm hia' (by rw [← HQ.out]; exact hq32)
          have hgi : (insF F (place F.files n) (noX n)).files[place F.files n]? = some (noX n) := insL_get F.files _ _ (place_le _ _)
          have ep : placeI F n = -1 := by unfold placeI; rw [if_neg hia]
          have ep2 : placeI (insF F (place F.files n) (noX n)) n = ((place F.files n : Nat) : Int) := by
            have e1 : place (insF F (place F.files n) (noX n)).files n = place F.files n := place_self hSI.asc hgi
            have e2 : isAt (insF F (place F.files n) (noX n)).files n = true := isAt_self hSI.asc hgi
            unfold placeI
            rw [if_pos e2]
            exact congrArg Nat.cast e1
          rw [ep] at C3
          have C3 := Lib.hid C3
          have hmq : (insF F (place F.files n) (noX n)).files.length = q + 1 := by
            show (F.files.take _ ++ noX n :: F.files.drop _).length = _
            rw [List.length_append, List.length_cons, List.length_take, List.length_drop, HQ.out]
            have := place_le F.files n
            omega
          have CW : ∀ w6, Below w.heap.size w w6 → Hid (Calls Try.prog 102 #[.pointer (some ⟨b, 0, none⟩), .agg #[.string n, .string ⟨#[]⟩, .int .i64 0]] w6 fun e w' => e = .returned (.tuple #[]) ∧ RTurned M w6 w' b (insF F (place F.files n) (noX n))) := fun w6 hb => by
            have h0 := rwith_any w6 (H.out.below hb) (by rw [← HQ.out]; omega) (noX n)
            rw [ins_with HG.out.asc n hia'] at h0
            exact Lib.hid h0
          have CP : ∀ (M7 : Nat → Prop) (w7 : World), RAt M7 w7 b (insF F (place F.files n) (noX n)) → Hid (Calls Try.prog 89 #[.pointer (some ⟨b, 0, none⟩), .string n] w7 fun e w' => e = .returned (.int .i64 ((place F.files n : Nat) : Int)) ∧ Below w7.heap.size w7 w') := fun M7 w7 h7 => by
            have h0 := rplace_any h7 hSI n
            rw [ep2] at h0
            exact Lib.hid h0
          have hk : place F.files n < q + 1 := by have := place_le F.files n; have := HQ.out; omega
          have HXS : Hid (Sound X ∧ X.off = false ∧ X.left = (insF F (place F.files n) (noX n)).left ∧ X.keep.length ≤ 1000000) := HXS0
          obtain ⟨G, hG⟩ : ∃ G, G = insF F (place F.files n) (noX n) := ⟨_, rfl⟩
          rw [← hG] at CP CW HXS hmq hgi hX
          have HE2 := Lib.hid HE0
          have HR2 := Lib.hid HR0
          generalize place F.files n = k at *
          have hk0 : decide (((k : Nat) : Int) < 0) = false := decide_eq_false (by omega)
          obtain ⟨x, hx⟩ : ∃ x, x = noX n := ⟨_, rfl⟩
          have HVB : Hid (x.bytes.size ≤ 1048576) := Lib.hid (by rw [hx]; exact Nat.zero_le _)
          rw [← hx] at hgi hX
          have HXE := Lib.hid hX
          have HX0 := Lib.hid hgi
          have HMQ := Lib.hid hmq
          clear hfu hfu' hfull ep ep2 hia hia' hnm ho ho' HE0 HR0 hX hx eX l1 l2 l5 hXS HXS0 hsm hSI hgi hmq hG hkl
          go_enter Try.func70, Try.ntmps70
          go_wp2_with fail
          (with_reducible refine (CN w).out.mono ?_); rintro e w1 ⟨rfl, rfl⟩
          clear CN
          go_wp2_with fail
          (with_reducible refine C3.out.mono ?_); rintro e w3 ⟨rfl, hb3⟩
          obtain ⟨c0, c4, hbl3⟩ := HC.out w3 hb3
          have C5 : ∀ wx, Below w3.heap.size w3 wx → Hid (Calls Try.prog 74 #[.pointer (some ⟨b, 0, none⟩)] wx fun e w' => e = .returned (.int .i64 (T : Nat)) ∧ Below wx.heap.size wx w') := fun wx hb => Lib.hid (CS wx (below_tr hb3 hb)).out
          have hp4 := fun (p : Ext w3) (o : Nat) => p.cell b o hbl3
          clear C3 c2 HC CS
          go_upto_region 6 with fail
          refine wp_region_class (by kernel_rfl) (by kernel_rfl) ?_
          repeat (go_big_quiet_step (first | (go_at_call 74; with_reducible exact Calls.ext (C5 _ (Subtype.property _)).out)))
          refine wpQuiet_nil ?_
          intro wz hw'
          obtain ⟨p, hw''⟩ := hw'
          obtain ⟨wzz, hbq⟩ := p
          dsimp only at hw''
          subst hw''
          have hbQ : Below w1.heap.size w1 wz := below_tr hb3 hbq
          clear hp4 C5 c0 c4 hb3 hbq hbl3
          have CW1 := CW wz hbQ
          clear CW
          go_wp2_with fail
          (with_reducible refine CW1.out.mono ?_); rintro e w10 ⟨rfl, M9, h10, hM10, ho10⟩
          have CP1 := CP M9 w10 h10
          have HM9 : Hid (∀ y, M9 y → M y ∨ w1.heap.size ≤ y) := Lib.hid (fun y hy => (hM10 y hy).elim .inl fun h => .inr (Nat.le_trans hbQ.size h))
          have HO10 : Hid (Out M w1 w10) := Lib.hid ((Out.of_below hbQ).trans ho10 fun y hy => .inl hy)
          have H10 := Lib.hid h10
          clear CP CW1 h10 hM10 ho10
          go_wp2_with fail
          (with_reducible refine CP1.out.mono ?_); rintro e w9 ⟨rfl, hb9⟩
          obtain ⟨fv, kv, L, h9, hlf9⟩ := H10.out.below hb9
          have HO9 : Hid (Out M w1 w9) := Lib.hid (HO10.out.trans (Out.of_below (M := M) hb9) fun y hy => .inl hy)
          clear CP1 hb9
          have H9 := Lib.hid h9
          have HLF9 := Lib.hid hlf9
          have c4 := h9.box.c4
          obtain ⟨g, cap, hfv, h1, h2, hg, hc, hfr⟩ := own_rfiles h9.own (by intro e; have := HX0.out; rw [e] at this; simp at this)
          rw [HMQ.out] at hfv
          subst hfv
          obtain ⟨d0, d1, d2⟩ := hc k x HX0.out
          have hgb : ¬ (g = b) := (h9.mf g rfl).2
          have hgb2 : ¬ (b = g) := fun e => hgb e.symm
          have f1 := hfr (k * 3 + 1)
          obtain ⟨V, hV⟩ : ∃ V, V = x.bytes := ⟨_, rfl⟩
          have HV := Lib.hid hV
          have hVb : V.size ≤ 1048576 := by rw [hV]; exact HVB.out
          rw [← hV] at d1
          clear h9 hlf9 hc hfr hV d0 d2 h1 h2 hd
          go_upto_region 11 with fail
          go_region
          go_wp2_with fail
          have hRS : RAt M9 ((w9.setCell ⟨g, k * 3 + 1, none⟩ (.string (V ++ s))).drew) b X := by
            have h0 := H9.out.grow HX0.out s
            rw [← HXE.out, ← HV.out] at h0
            exact ⟨_, _, L, h0.eq (Nat.le_refl _) fun _ _ => rfl, by rw [HXS.out.2.2.1]; exact HLF9.out⟩
          have CF := Lib.hid (fails_any _ hRS HXS.out.1 HXS.out.2.1 HXS.out.2.2.2)
          have HO11 : Hid (Out M w1 ((w9.setCell ⟨g, k * 3 + 1, none⟩ (.string (V ++ s))).drew)) := Lib.hid ((HO9.out.set (HM9.out g (H9.out.mf g rfl).1) _ _).drew)
          (with_reducible refine CF.out.mono ?_); rintro e w12 ⟨rfl, ht⟩
          have HT12 := Lib.hid ht
          clear ht CF hRS
          have HZ : Hid (E = if decide (X.left = 0) = true then 51 else 0) := Lib.hid (by rw [HE2.out]; simp only [decide_eq_true_eq])
          generalize decide (X.left = 0) = z at *
          cases z with
          | true =>
            go_wp2_with fail
            go_ret
            exact ⟨by rw [HZ.out]; rfl, by rw [HR2.out]; exact RTurned.trans HM9.out HO11.out HT12.out⟩
          | false =>
            go_wp2_with fail
            go_ret
            exact ⟨by rw [HZ.out]; rfl, by rw [HR2.out]; exact RTurned.trans HM9.out HO11.out HT12.out⟩
    · have hnf : namedB n = false := by cases e : namedB n; rfl; exact absurd e hnm
      have HE2 : Hid (E = 2) := Lib.hid (by rw [HE.out, appE, if_neg ho, if_pos hnf])
      have HR2 : Hid (R = F) := Lib.hid (by rw [HR.out, appF, if_pos (.inr (.inl hnf))])
      rw [hnf] at CN
      clear ho ho' C3 CS hfull hnm hnf
      go_enter Try.func70, Try.ntmps70
      go_wp2_with fail
      (with_reducible refine (CN w).out.mono ?_); rintro e w1 ⟨rfl, rfl⟩
      go_wp2_with fail
      go_ret
      exact ⟨by rw [HE2.out]; rfl, by rw [HR2.out]; exact RTurned.below H.out (Below.refl _ _)⟩
end Go.Proofs.Ytmoaecicibjmnaa

namespace Go.Proofs.Ytmoaecicibjmnaa
open Go.RowKit

set_option maxHeartbeats 8000000 in
set_option maxRecDepth 100000 in
theorem by_any {M : Nat → Prop} {b : Nat} {F : FR} (w : World) (h : RAt M w b F) (hG : Sound F) {v : Value} {d : DoR} (hd : DoAt (fun k => ¬ M k) w v d) (hw : d.what < 256) (hkl : F.keep.length ≤ 1000000) (hA : d.A.size ≤ 1000000) (hB : d.B.size ≤ 1000000) (hS : d.S.size ≤ 1000000) (hKl : d.K.length ≤ 1000000) :
    Calls Try.prog 30 #[.pointer (some ⟨b, 0, none⟩), v] w fun e w' => e = .returned (.int .i64 (withE F d)) ∧ RTurned M w w' b (withF F d) := by
  obtain ⟨kv, rfl, hk⟩ := hd
  obtain ⟨ka, kc, rfl⟩ := hk.val
  have H := Lib.hid h
  have HG := Lib.hid hG
  have HK := Lib.hid hk
  obtain ⟨R, hR⟩ : ∃ R, R = withF F d := ⟨_, rfl⟩
  obtain ⟨E, hE⟩ : ∃ E, E = withE F d := ⟨_, rfl⟩
  have HR := Lib.hid hR
  have HE := Lib.hid hE
  rw [← hR, ← hE]
  clear h hG hk hR hE
  go_enter Try.func30, Try.ntmps30
  go_upto_region 1 with fail
  obtain ⟨W, hW, hbW, c0, c1, c2, c3, c4, c5⟩ := six_new w (.int .u8 (d.what : Int)) (.string d.A) (.string d.B) (.string d.S) (.int .i64 d.N) (.slice ka d.K.length kc) 35
  rw [hW]
  clear hW
  have hkW : IntsIn (fun k => ¬ M k) W (.slice ka d.K.length kc) d.K := HK.out.eq hbW.size fun k hk hm => ⟨hbW.block k hk, hm⟩
  have hwi : (d.what : Int) % 12 = ((d.what % 12 : Nat) : Int) := by omega
  have h12 : d.what % 12 < 12 := Nat.mod_lt _ (by omega)
  obtain ⟨r, hr⟩ : ∃ r, r = d.what % 12 := ⟨_, rfl⟩
  rw [← hr] at hwi h12
  have HRR := Lib.hid hr
  clear hr
  have HKW := Lib.hid hkW
  clear hkW
  have hcase : r = 0 ∨ r = 1 ∨ r = 2 ∨ r = 3 ∨ r = 4 ∨ r = 5 ∨ r = 6 ∨ r = 7 ∨ r = 8 ∨ r = 9 ∨ r = 10 ∨ r = 11 := by omega
  rcases hcase with rfl | rfl | rfl | rfl | rfl | rfl | rfl | rfl | rfl | rfl | rfl | rfl
  · have C1 := rappend_any W (H.out.below hbW) HG.out hkl d.A d.S hA hS
    have e1 : E = appE F d.A d.S := by (rw [HE.out, withE, ← HRR.out]) <;> rfl
    have e2 : R = appF F d.A d.S := by (rw [HR.out, withF, ← HRR.out]) <;> rfl
    rw [← e1, ← e2] at C1
    have C2 := Lib.hid C1
    clear C1 e1 e2
    go_wp2_with fail
    (with_reducible refine C2.out.mono ?_); rintro e w3 ⟨rfl, ht3⟩
    have HT := Lib.hid ht3
    clear ht3
    go_wp2_with fail
    go_ret
    exact ⟨rfl, RTurned.trans (fun k hk => .inl hk) (Out.of_below hbW) HT.out⟩
  · have C1 := rappend_any W (H.out.below hbW) HG.out hkl d.A d.S hA hS
    have e1 : E = appE F d.A d.S := by (rw [HE.out, withE, ← HRR.out]) <;> rfl
    have e2 : R = appF F d.A d.S := by (rw [HR.out, withF, ← HRR.out]) <;> rfl
    rw [← e1, ← e2] at C1
    have C2 := Lib.hid C1
    clear C1 e1 e2
    go_wp2_with fail
    (with_reducible refine C2.out.mono ?_); rintro e w3 ⟨rfl, ht3⟩
    have HT := Lib.hid ht3
    clear ht3
    go_wp2_with fail
    go_ret
    exact ⟨rfl, RTurned.trans (fun k hk => .inl hk) (Out.of_below hbW) HT.out⟩
  · have C1 := rappend_any W (H.out.below hbW) HG.out hkl d.A d.S hA hS
    have e1 : E = appE F d.A d.S := by (rw [HE.out, withE, ← HRR.out]) <;> rfl
    have e2 : R = appF F d.A d.S := by (rw [HR.out, withF, ← HRR.out]) <;> rfl
    rw [← e1, ← e2] at C1
    have C2 := Lib.hid C1
    clear C1 e1 e2
    go_wp2_with fail
    (with_reducible refine C2.out.mono ?_); rintro e w3 ⟨rfl, ht3⟩
    have HT := Lib.hid ht3
    clear ht3
    go_wp2_with fail
    go_ret
    exact ⟨rfl, RTurned.trans (fun k hk => .inl hk) (Out.of_below hbW) HT.out⟩
  · have C1 := rsync_any W (H.out.below hbW) HG.out hkl d.A
    have e1 : E = strokeE F d.A := by (rw [HE.out, withE, ← HRR.out]) <;> rfl
    have e2 : R = syncF F d.A := by (rw [HR.out, withF, ← HRR.out]) <;> rfl
    rw [← e1, ← e2] at C1
    have C2 := Lib.hid C1
    clear C1 e1 e2
    go_wp2_with fail
    (with_reducible refine C2.out.mono ?_); rintro e w3 ⟨rfl, ht3⟩
    have HT := Lib.hid ht3
    clear ht3
    go_wp2_with fail
    go_ret
    exact ⟨rfl, RTurned.trans (fun k hk => .inl hk) (Out.of_below hbW) HT.out⟩
  · have C1 := rsync_any W (H.out.below hbW) HG.out hkl d.A
    have e1 : E = strokeE F d.A := by (rw [HE.out, withE, ← HRR.out]) <;> rfl
    have e2 : R = syncF F d.A := by (rw [HR.out, withF, ← HRR.out]) <;> rfl
    rw [← e1, ← e2] at C1
    have C2 := Lib.hid C1
    clear C1 e1 e2
    go_wp2_with fail
    (with_reducible refine C2.out.mono ?_); rintro e w3 ⟨rfl, ht3⟩
    have HT := Lib.hid ht3
    clear ht3
    go_wp2_with fail
    go_ret
    exact ⟨rfl, RTurned.trans (fun k hk => .inl hk) (Out.of_below hbW) HT.out⟩
  · have C1 := rtruncate_any W (H.out.below hbW) HG.out hkl d.A d.N
    have e1 : E = cutE F d.A d.N := by (rw [HE.out, withE, ← HRR.out]) <;> rfl
    have e2 : R = cutF F d.A d.N := by (rw [HR.out, withF, ← HRR.out]) <;> rfl
    rw [← e1, ← e2] at C1
    have C2 := Lib.hid C1
    clear C1 e1 e2
    go_wp2_with fail
    (with_reducible refine C2.out.mono ?_); rintro e w3 ⟨rfl, ht3⟩
    have HT := Lib.hid ht3
    clear ht3
    go_wp2_with fail
    go_ret
    exact ⟨rfl, RTurned.trans (fun k hk => .inl hk) (Out.of_below hbW) HT.out⟩
  · have C1 := rrename_any W (H.out.below hbW) HG.out hkl d.A d.B (by omega)
    have e1 : E = renE F d.A d.B := by (rw [HE.out, withE, ← HRR.out]) <;> rfl
    have e2 : R = renameF F d.A d.B := by (rw [HR.out, withF, ← HRR.out]) <;> rfl
    rw [← e1, ← e2] at C1
    have C2 := Lib.hid C1
    clear C1 e1 e2
    go_wp2_with fail
    (with_reducible refine C2.out.mono ?_); rintro e w3 ⟨rfl, ht3⟩
    have HT := Lib.hid ht3
    clear ht3
    go_wp2_with fail
    go_ret
    exact ⟨rfl, RTurned.trans (fun k hk => .inl hk) (Out.of_below hbW) HT.out⟩
  · have C1 := rremove_any W (H.out.below hbW) HG.out hkl d.A
    have e1 : E = strokeE F d.A := by (rw [HE.out, withE, ← HRR.out]) <;> rfl
    have e2 : R = removeF F d.A := by (rw [HR.out, withF, ← HRR.out]) <;> rfl
    rw [← e1, ← e2] at C1
    have C2 := Lib.hid C1
    clear C1 e1 e2
    go_wp2_with fail
    (with_reducible refine C2.out.mono ?_); rintro e w3 ⟨rfl, ht3⟩
    have HT := Lib.hid ht3
    clear ht3
    go_wp2_with fail
    go_ret
    exact ⟨rfl, RTurned.trans (fun k hk => .inl hk) (Out.of_below hbW) HT.out⟩
  · have C1 := rcrash_any W (H.out.below hbW) HG.out HKW.out hKl
    have e1 : E = crashE F := by (rw [HE.out, withE, ← HRR.out]) <;> rfl
    have e2 : R = crashG F d.K := by (rw [HR.out, withF, ← HRR.out]) <;> rfl
    rw [← e1, ← e2] at C1
    have C2 := Lib.hid C1
    clear C1 e1 e2
    go_wp2_with fail
    (with_reducible refine C2.out.mono ?_); rintro e w3 ⟨rfl, ht3⟩
    have HT := Lib.hid ht3
    clear ht3
    go_wp2_with fail
    go_ret
    exact ⟨rfl, RTurned.trans (fun k hk => .inl hk) (Out.of_below hbW) HT.out⟩
  · have C1 := rstart_any W (H.out.below hbW)
    have e1 : E = startE F := by (rw [HE.out, withE, ← HRR.out]) <;> rfl
    have e2 : R = startF F := by (rw [HR.out, withF, ← HRR.out]) <;> rfl
    rw [← e1, ← e2] at C1
    have C2 := Lib.hid C1
    clear C1 e1 e2
    go_wp2_with fail
    (with_reducible refine C2.out.mono ?_); rintro e w3 ⟨rfl, ht3⟩
    have HT := Lib.hid ht3
    clear ht3
    go_wp2_with fail
    go_ret
    exact ⟨rfl, RTurned.trans (fun k hk => .inl hk) (Out.of_below hbW) HT.out⟩
  · have C1 := rstart_any W (H.out.below hbW)
    have e1 : E = startE F := by (rw [HE.out, withE, ← HRR.out]) <;> rfl
    have e2 : R = startF F := by (rw [HR.out, withF, ← HRR.out]) <;> rfl
    rw [← e1, ← e2] at C1
    have C2 := Lib.hid C1
    clear C1 e1 e2
    go_wp2_with fail
    (with_reducible refine C2.out.mono ?_); rintro e w3 ⟨rfl, ht3⟩
    have HT := Lib.hid ht3
    clear ht3
    go_wp2_with fail
    go_ret
    exact ⟨rfl, RTurned.trans (fun k hk => .inl hk) (Out.of_below hbW) HT.out⟩
  · have C1 := rfail_any W (H.out.below hbW) d.N HKW.out hKl
    have e1 : E = failE F d.N := by (rw [HE.out, withE, ← HRR.out]) <;> rfl
    have e2 : R = failF F d.N d.K := by (rw [HR.out, withF, ← HRR.out]) <;> rfl
    rw [← e1, ← e2] at C1
    have C2 := Lib.hid C1
    clear C1 e1 e2
    go_wp2_with fail
    (with_reducible refine C2.out.mono ?_); rintro e w3 ⟨rfl, ht3⟩
    have HT := Lib.hid ht3
    clear ht3
    go_wp2_with fail
    go_ret
    exact ⟨rfl, RTurned.trans (fun k hk => .inl hk) (Out.of_below hbW) HT.out⟩
end Go.Proofs.Ytmoaecicibjmnaa

namespace Go.Proofs.Ytmoaecicibjmnaa
open Go.RowKit

theorem airs_in {B : Nat} {e : TypeId} {w : World} {v : Value} {l : List PF} (h : w.ownsRow B e 1 v l.length (l.map fun x => Value.int .i64 ((x.air.size : Nat) : Int))) : IntsIn (fun k => B ≤ k) w v (l.map fun x => ((x.air.size : Nat) : Int)) := by
  refine ints_of_own (e := e) ?_
  unfold intVs
  rw [List.length_map, List.map_map]
  exact h
theorem IntsIn.any {P : Nat → Prop} {w w' : World} {v : Value} {l : List Int} (h : IntsIn P w v l) (hb : Below w.heap.size w w') : IntsIn (fun _ => True) w' v l := h.eq hb.size fun k hk _ => ⟨hb.block k hk, trivial⟩
set_option maxRecDepth 100000 in
set_option maxHeartbeats 16000000 in
theorem one_any {M N : Nat → Prop} {b r : Nat} {F : FR} (w : World) (hf : FSAt M w b F) (hr : RAt N w r F) (hG : Sound F) :
    Calls Try.prog 32 #[.pointer (some ⟨b, 0, none⟩), .pointer (some ⟨r, 0, none⟩)] w fun e w' => e = .returned (.bool true) ∧ Below w.heap.size w w' := by
  have HF := Lib.hid hf
  have HR := Lib.hid hr
  have HG := Lib.hid hG
  have CN := Lib.hid (names_any hf hG)
  have hcnt := hG.cnt
  obtain ⟨q, hq⟩ : ∃ q, q = F.files.length := ⟨_, rfl⟩
  have HQ := Lib.hid hq
  rw [← hq] at hcnt
  clear hf hr hG hq
  go_enter Try.func32, Try.ntmps32
  go_wp2_with fail
  (with_reducible refine CN.out.mono ?_); rintro e w2 ⟨⟨nv, rfl, hn⟩, hb2⟩
  have HT := Lib.hid (names_in hn)
  obtain ⟨na, nc, hnv, _⟩ := HT.out
  subst hnv
  have hl : (F.files.map PF.name).length = q := by rw [List.length_map]; exact HQ.out.symm
  rw [hl] at HT ⊢
  clear hn CN hl
  go_wp2_with fail
  go_loopw [6] (fun i wr => ∃ k : Nat, k ≤ q ∧ i = .int .i64 (k : Nat) ∧ Below w2.heap.size w2 wr) (fun i _ => q - (intOf i).toNat)
  case atStart => exact ⟨0, Nat.zero_le _, rfl, Below.refl _ _⟩
  case round =>
    obtain ⟨k, hkq, rfl, hbel⟩ := hrel
    by_cases hlt : k < q
    · obtain ⟨x, hx⟩ := get_of_lt F.files k (by rw [← HQ.out]; exact hlt)
      have hl : (F.files.map PF.name).length = q := by rw [List.length_map]; exact HQ.out.symm
      obtain ⟨a3, c3, hv3, hh⟩ := HT.out
      injection hv3 with e1 e2 e3
      clear e2 e3
      subst e1
      obtain ⟨ub, uo, e1, hub, _, hcc⟩ := hh (by intro e; rw [e] at hl; simp at hl; omega)
      subst e1
      have hx1 : (F.files.map PF.name)[k]? = some x.name := by rw [List.getElem?_map, hx]; rfl
      have HQ1 : Hid (∀ wx, Below w2.heap.size w2 wx → wx.cell? ⟨ub, uo + k, none⟩ = some (.string x.name)) := Lib.hid (fun wx hb => by
        rw [World.cell?_of_block (a := ⟨ub, uo + k, none⟩) (hb.block ub hub), hcc k (by omega)]
        rw [List.getElem?_eq_getElem (by omega)] at hx1
        injection hx1 with hx1
        rw [hx1])
      have q1 := HQ1.out wr hbel
      have CR0 := Lib.hid (read_any ((HF.out.below hb2).below hbel) HG.out x.name)
      have CR1 : ∀ wx, Below w2.heap.size w2 wx → Hid (Calls Try.prog 71 #[.pointer (some ⟨r, 0, none⟩), .string x.name] wx fun e w' => e = .returned (.tuple #[.string (readS F x.name), .int .i64 (hasE F x.name)]) ∧ Below wx.heap.size wx w') := fun wx hb => Lib.hid (rread_any ((HR.out.below hb2).below hb) HG.out x.name)
      generalize readS F x.name = tx at *
      generalize hasE F x.name = te at *
      clear hcc hx1 hx hh hl
      go_wp2_with fail
      (with_reducible refine CR0.out.mono ?_); rintro e w4 ⟨rfl, hb4⟩
      have hb5 : Below w2.heap.size w2 w4 := hbel.trans (hb4.mono hbel.size)
      have q2 := HQ1.out w4 hb5
      go_wp2_with fail
      (with_reducible refine (CR1 w4 hb5).out.mono ?_); rintro e w5 ⟨rfl, hb6⟩
      have hb7 : Below w2.heap.size w2 w5 := hb5.trans (hb6.mono hb5.size)
      clear CR0 CR1 q1 q2 hbel hb4 hb6 hb5
      go_wp2_with fail
      case roundEnd => exact ⟨⟨k + 1, by omega, by go_num, hb7⟩, by simp [intOf]; omega⟩
    · obtain rfl : k = q := by omega
      have HFk : Hid (∀ wx, Below w2.heap.size w2 wx → FSAt M wx b F) := Lib.hid (fun wx hb => HF.out.below (below_tr hb2 hb))
      have HRk : Hid (∀ wx, Below w2.heap.size w2 wx → RAt N wx r F) := Lib.hid (fun wx hb => HR.out.below (below_tr hb2 hb))
      obtain ⟨off, hoff⟩ : ∃ o, o = F.off := ⟨_, rfl⟩
      obtain ⟨st, hst⟩ : ∃ o, o = F.starts := ⟨_, rfl⟩
      obtain ⟨T, hT⟩ : ∃ o, o = total F.files := ⟨_, rfl⟩
      have HOFF := Lib.hid hoff
      have HST := Lib.hid hst
      have HTT := Lib.hid hT
      have HLM : Hid (F.limit ≠ 0) := Lib.hid (by have := HG.out.lim1; omega)
      have HC : Hid (∀ wx, Below w2.heap.size w2 wx → (wx.cell? ⟨r, 2, none⟩ = some (.bool off) ∧ wx.cell? ⟨r, 1, none⟩ = some (.int .i64 st)) ∧ Below w2.heap.size w2 wx) := Lib.hid (fun wx hb => by
        obtain ⟨fv, kv, L, h, _⟩ := HRk.out wx hb
        exact ⟨⟨by rw [hoff]; exact h.box.c2, by rw [hst]; exact h.box.c1⟩, hb⟩)
      have ett : (((T : Nat) : Int) == ((T : Nat) : Int)) = true := by simp
      have ess : (st == st) = true := by simp
      have eoo : ((!off) == (!off)) = true := by simp
      clear hoff hst hT
      go_upto_region 9 with fail
      refine wp_region_held_drew (S := fun w' => (w'.cell? ⟨r, 2, none⟩ = some (.bool off) ∧ w'.cell? ⟨r, 1, none⟩ = some (.int .i64 st)) ∧ Below w2.heap.size w2 w') (by kernel_rfl) (HC.out _ hbel.drew) (fun hH => ?_)
      (refine hTake (i := 0) (v := ?_) rfl (by kernel_rfl) (by kernel_rfl) (by kernel_rfl) (fun _ _ _ h => h) (by kernel_rfl) ?_ (by assumption) ?_; rotate_left; focus (intro w' hS'; (try dsimp only at hS'); go_split_ands; (try go_simp); (try (with_reducible rfl)); done); try simp only [Act.put, List.setIfInBounds_toArray, List.set_cons_zero, List.set_cons_succ]); (refine hTake (i := 1) (v := ?_) rfl (by kernel_rfl) (by kernel_rfl) (by kernel_rfl) (fun _ _ _ h => h) (by kernel_rfl) ?_ (by assumption) ?_; rotate_left; focus (intro w' hS'; (try dsimp only at hS'); go_split_ands; (try go_simp); (try (with_reducible rfl)); done); try simp only [Act.put, List.setIfInBounds_toArray, List.set_cons_zero, List.set_cons_succ])
      refine hOne (i := 2) rfl (by kernel_rfl) (fun K hK => ?_)
      go_simp
      refine (rnames_any (HRk.out _ hH.2) HG.out).mono ?_
      rintro e w3 ⟨⟨v3, rfl, ho3⟩, hb3⟩
      have HN3 := Lib.hid (names_in ho3)
      have hbk3 := below_tr hH.2 hb3
      clear ho3
      go_wp2_with fail
      refine hK.out _ _ (HC.out _ hbk3) (fun hH => ?_)
      clear hK K
      refine hOne (i := 3) rfl (by kernel_rfl) (fun K hK => ?_)
      go_simp
      have CT := tsame_any _ _ _ _ w3 (HT.out.below hbk3).at HN3.out.at (by rw [List.length_map, ← HQ.out]; omega) (by rw [List.length_map, ← HQ.out]; omega)
      rw [decide_eq_true (show F.files.map PF.name = F.files.map PF.name from rfl)] at CT
      refine CT.mono ?_
      rintro e w4 ⟨rfl, hb4⟩
      clear CT
      have hbk4 := below_tr hbk3 hb4
      go_wp2_with fail
      refine hK.out _ _ (HC.out _ hbk4) (fun hH => ?_)
      clear hK K
      (refine hTake (i := 4) (v := ?_) rfl (by kernel_rfl) (by kernel_rfl) (by kernel_rfl) (fun _ _ _ h => h) (by kernel_rfl) ?_ (by assumption) ?_; rotate_left; focus (intro w' hS'; (try dsimp only at hS'); go_split_ands; (try go_simp); (try (with_reducible rfl)); done); try simp only [Act.put, List.setIfInBounds_toArray, List.set_cons_zero, List.set_cons_succ]); (refine hTake (i := 5) (v := ?_) rfl (by kernel_rfl) (by kernel_rfl) (by kernel_rfl) (fun _ _ _ h => h) (by kernel_rfl) ?_ (by assumption) ?_; rotate_left; focus (intro w' hS'; (try dsimp only at hS'); go_split_ands; (try go_simp); (try (with_reducible rfl)); done); try simp only [Act.put, List.setIfInBounds_toArray, List.set_cons_zero, List.set_cons_succ]); (refine hTake (i := 7) (v := ?_) rfl (by kernel_rfl) (by kernel_rfl) (by kernel_rfl) (fun _ _ _ h => h) (by kernel_rfl) ?_ (by assumption) ?_; rotate_left; focus (intro w' hS'; (try dsimp only at hS'); go_split_ands; (try go_simp); (try (with_reducible rfl)); done); try simp only [Act.put, List.setIfInBounds_toArray, List.set_cons_zero, List.set_cons_succ])
      refine hOne (i := 6) rfl (by kernel_rfl) (fun K hK => ?_)
      go_simp
      refine (unsynced_any (HFk.out _ hbk4) HG.out).mono ?_
      rintro e w5 ⟨⟨v5, rfl, ho5⟩, hb5⟩
      have HI5 := Lib.hid (airs_in ho5)
      clear ho5
      go_wp2_with fail
      have hbk5 := below_tr hbk4 hb5
      refine hK.out _ _ (HC.out _ hbk5) (fun hH => ?_)
      clear hK K
      refine hOne (i := 8) rfl (by kernel_rfl) (fun K hK => ?_)
      go_simp
      refine (runsynced_any (HRk.out _ hbk5) HG.out).mono ?_
      rintro e w6 ⟨⟨v6, rfl, ho6⟩, hb6⟩
      have HI6 := Lib.hid (airs_in ho6)
      have HI5' := Lib.hid (HI5.out.any hb6)
      clear ho6
      go_wp2_with fail
      have hbk6 := below_tr hbk5 hb6
      refine hK.out _ _ (HC.out _ hbk6) (fun hH => ?_)
      clear hK K
      refine hOne (i := 9) rfl (by kernel_rfl) (fun K hK => ?_)
      go_simp
      have CI := numbers_any _ _ _ _ w6 HI5'.out HI6.out (by rw [List.length_map, ← HQ.out]; omega) (by rw [List.length_map, ← HQ.out]; omega)
      rw [decide_eq_true (show (F.files.map fun x => ((x.air.size : Nat) : Int)) = F.files.map fun x => ((x.air.size : Nat) : Int) from rfl)] at CI
      refine CI.mono ?_
      rintro e w7 ⟨rfl, hb7⟩
      clear CI
      go_wp2_with fail
      have hbk7 := below_tr hbk6 hb7
      refine hK.out _ _ (HC.out _ hbk7) (fun hH => ?_)
      clear hK K
      (refine hTake (i := 10) (v := ?_) rfl (by kernel_rfl) (by kernel_rfl) (by kernel_rfl) (fun _ _ _ h => h) (by kernel_rfl) ?_ (by assumption) ?_; rotate_left; focus (intro w' hS'; (try dsimp only at hS'); go_split_ands; (try go_simp); (try (with_reducible rfl)); done); try simp only [Act.put, List.setIfInBounds_toArray, List.set_cons_zero, List.set_cons_succ]); (refine hTake (i := 11) (v := ?_) rfl (by kernel_rfl) (by kernel_rfl) (by kernel_rfl) (fun _ _ _ h => h) (by kernel_rfl) ?_ (by assumption) ?_; rotate_left; focus (intro w' hS'; (try dsimp only at hS'); go_split_ands; (try go_simp); (try (with_reducible rfl)); done); try simp only [Act.put, List.setIfInBounds_toArray, List.set_cons_zero, List.set_cons_succ]); (refine hTake (i := 12) (v := ?_) rfl (by kernel_rfl) (by kernel_rfl) (by kernel_rfl) (fun _ _ _ h => h) (by kernel_rfl) ?_ (by assumption) ?_; rotate_left; focus (intro w' hS'; (try dsimp only at hS'); go_split_ands; (try go_simp); (try (with_reducible rfl)); done); try simp only [Act.put, List.setIfInBounds_toArray, List.set_cons_zero, List.set_cons_succ]); (refine hTake (i := 14) (v := ?_) rfl (by kernel_rfl) (by kernel_rfl) (by kernel_rfl) (fun _ _ _ h => h) (by kernel_rfl) ?_ (by assumption) ?_; rotate_left; focus (intro w' hS'; (try dsimp only at hS'); go_split_ands; (try go_simp); (try (with_reducible rfl)); done); try simp only [Act.put, List.setIfInBounds_toArray, List.set_cons_zero, List.set_cons_succ])
      refine hOne (i := 13) rfl (by kernel_rfl) (fun K hK => ?_)
      go_simp
      refine (size_any (HFk.out _ hbk7) HG.out).mono ?_
      rintro e w8 ⟨rfl, hb8⟩
      rw [← HTT.out]
      go_wp2_with fail
      have hbk8 := below_tr hbk7 hb8
      refine hK.out _ _ (HC.out _ hbk8) (fun hH => ?_)
      clear hK K
      refine hOne (i := 15) rfl (by kernel_rfl) (fun K hK => ?_)
      go_simp
      refine (rsize_any (HRk.out _ hbk8) HG.out).mono ?_
      rintro e w9 ⟨rfl, hb9⟩
      rw [← HTT.out]
      go_wp2_with fail
      have hbk9 := below_tr hbk8 hb9
      refine hK.out _ _ (HC.out _ hbk9) (fun hH => ?_)
      clear hK K
      (refine hTake (i := 16) (v := ?_) rfl (by kernel_rfl) (by kernel_rfl) (by kernel_rfl) (fun _ _ _ h => h) (by kernel_rfl) ?_ (by assumption) ?_; rotate_left; focus (intro w' hS'; (try dsimp only at hS'); go_split_ands; (try go_simp); (try (with_reducible rfl)); done); try simp only [Act.put, List.setIfInBounds_toArray, List.set_cons_zero, List.set_cons_succ]); (refine hTake (i := 17) (v := ?_) rfl (by kernel_rfl) (by kernel_rfl) (by kernel_rfl) (fun _ _ _ h => h) (by kernel_rfl) ?_ (by assumption) ?_; rotate_left; focus (intro w' hS'; (try dsimp only at hS'); go_split_ands; (try go_simp); (try (with_reducible rfl)); done); try simp only [Act.put, List.setIfInBounds_toArray, List.set_cons_zero, List.set_cons_succ]); (refine hTake (i := 18) (v := ?_) rfl (by kernel_rfl) (by kernel_rfl) (by kernel_rfl) (fun _ _ _ h => h) (by kernel_rfl) ?_ (by assumption) ?_; rotate_left; focus (intro w' hS'; (try dsimp only at hS'); go_split_ands; (try go_simp); (try (with_reducible rfl)); done); try simp only [Act.put, List.setIfInBounds_toArray, List.set_cons_zero, List.set_cons_succ]); (refine hTake (i := 19) (v := ?_) rfl (by kernel_rfl) (by kernel_rfl) (by kernel_rfl) (fun _ _ _ h => h) (by kernel_rfl) ?_ (by assumption) ?_; rotate_left; focus (intro w' hS'; (try dsimp only at hS'); go_split_ands; (try go_simp); (try (with_reducible rfl)); done); try simp only [Act.put, List.setIfInBounds_toArray, List.set_cons_zero, List.set_cons_succ]); (refine hTake (i := 21) (v := ?_) rfl (by kernel_rfl) (by kernel_rfl) (by kernel_rfl) (fun _ _ _ h => h) (by kernel_rfl) ?_ (by assumption) ?_; rotate_left; focus (intro w' hS'; (try dsimp only at hS'); go_split_ands; (try go_simp); (try (with_reducible rfl)); done); try simp only [Act.put, List.setIfInBounds_toArray, List.set_cons_zero, List.set_cons_succ]); (refine hTake (i := 22) (v := ?_) rfl (by kernel_rfl) (by kernel_rfl) (by kernel_rfl) (fun _ _ _ h => h) (by kernel_rfl) ?_ (by assumption) ?_; rotate_left; focus (intro w' hS'; (try dsimp only at hS'); go_split_ands; (try go_simp); (try (with_reducible rfl)); done); try simp only [Act.put, List.setIfInBounds_toArray, List.set_cons_zero, List.set_cons_succ]); (refine hTake (i := 23) (v := ?_) rfl (by kernel_rfl) (by kernel_rfl) (by kernel_rfl) (fun _ _ _ h => h) (by kernel_rfl) ?_ (by assumption) ?_; rotate_left; focus (intro w' hS'; (try dsimp only at hS'); go_split_ands; (try go_simp); (try (with_reducible rfl)); done); try simp only [Act.put, List.setIfInBounds_toArray, List.set_cons_zero, List.set_cons_succ]); (refine hTake (i := 24) (v := ?_) rfl (by kernel_rfl) (by kernel_rfl) (by kernel_rfl) (fun _ _ _ h => h) (by kernel_rfl) ?_ (by assumption) ?_; rotate_left; focus (intro w' hS'; (try dsimp only at hS'); go_split_ands; (try go_simp); (try (with_reducible rfl)); done); try simp only [Act.put, List.setIfInBounds_toArray, List.set_cons_zero, List.set_cons_succ]); (refine hTake (i := 25) (v := ?_) rfl (by kernel_rfl) (by kernel_rfl) (by kernel_rfl) (fun _ _ _ h => h) (by kernel_rfl) ?_ (by assumption) ?_; rotate_left; focus (intro w' hS'; (try dsimp only at hS'); go_split_ands; (try go_simp); (try (with_reducible rfl)); done); try simp only [Act.put, List.setIfInBounds_toArray, List.set_cons_zero, List.set_cons_succ])
      refine hOne (i := 20) rfl (by kernel_rfl) (fun K hK => ?_)
      go_simp
      refine (up_any (HFk.out _ hbk9) HLM.out).mono ?_
      rintro e w10 ⟨rfl, rfl⟩
      rw [← HOFF.out]
      go_wp2_with fail
      refine hK.out _ _ (HC.out _ hbk9) (fun hH => ?_)
      clear hK K
      (refine hTake (i := 26) (v := ?_) rfl (by kernel_rfl) (by kernel_rfl) (by kernel_rfl) (fun _ _ _ h => h) (by kernel_rfl) ?_ (by assumption) ?_; rotate_left; focus (intro w' hS'; (try dsimp only at hS'); go_split_ands; (try go_simp); (try (with_reducible rfl)); done); try simp only [Act.put, List.setIfInBounds_toArray, List.set_cons_zero, List.set_cons_succ]); (refine hTake (i := 27) (v := ?_) rfl (by kernel_rfl) (by kernel_rfl) (by kernel_rfl) (fun _ _ _ h => h) (by kernel_rfl) ?_ (by assumption) ?_; rotate_left; focus (intro w' hS'; (try dsimp only at hS'); go_split_ands; (try go_simp); (try (with_reducible rfl)); done); try simp only [Act.put, List.setIfInBounds_toArray, List.set_cons_zero, List.set_cons_succ]); (refine hTake (i := 28) (v := ?_) rfl (by kernel_rfl) (by kernel_rfl) (by kernel_rfl) (fun _ _ _ h => h) (by kernel_rfl) ?_ (by assumption) ?_; rotate_left; focus (intro w' hS'; (try dsimp only at hS'); go_split_ands; (try go_simp); (try (with_reducible rfl)); done); try simp only [Act.put, List.setIfInBounds_toArray, List.set_cons_zero, List.set_cons_succ]); (refine hTake (i := 29) (v := ?_) rfl (by kernel_rfl) (by kernel_rfl) (by kernel_rfl) (fun _ _ _ h => h) (by kernel_rfl) ?_ (by assumption) ?_; rotate_left; focus (intro w' hS'; (try dsimp only at hS'); go_split_ands; (try go_simp); (try (with_reducible rfl)); done); try simp only [Act.put, List.setIfInBounds_toArray, List.set_cons_zero, List.set_cons_succ]); (refine hTake (i := 31) (v := ?_) rfl (by kernel_rfl) (by kernel_rfl) (by kernel_rfl) (fun _ _ _ h => h) (by kernel_rfl) ?_ (by assumption) ?_; rotate_left; focus (intro w' hS'; (try dsimp only at hS'); go_split_ands; (try go_simp); (try (with_reducible rfl)); done); try simp only [Act.put, List.setIfInBounds_toArray, List.set_cons_zero, List.set_cons_succ]); (refine hTake (i := 32) (v := ?_) rfl (by kernel_rfl) (by kernel_rfl) (by kernel_rfl) (fun _ _ _ h => h) (by kernel_rfl) ?_ (by assumption) ?_; rotate_left; focus (intro w' hS'; (try dsimp only at hS'); go_split_ands; (try go_simp); (try (with_reducible rfl)); done); try simp only [Act.put, List.setIfInBounds_toArray, List.set_cons_zero, List.set_cons_succ]); (refine hTake (i := 33) (v := ?_) rfl (by kernel_rfl) (by kernel_rfl) (by kernel_rfl) (fun _ _ _ h => h) (by kernel_rfl) ?_ (by assumption) ?_; rotate_left; focus (intro w' hS'; (try dsimp only at hS'); go_split_ands; (try go_simp); (try (with_reducible rfl)); done); try simp only [Act.put, List.setIfInBounds_toArray, List.set_cons_zero, List.set_cons_succ]); (refine hTake (i := 34) (v := ?_) rfl (by kernel_rfl) (by kernel_rfl) (by kernel_rfl) (fun _ _ _ h => h) (by kernel_rfl) ?_ (by assumption) ?_; rotate_left; focus (intro w' hS'; (try dsimp only at hS'); go_split_ands; (try go_simp); (try (with_reducible rfl)); done); try simp only [Act.put, List.setIfInBounds_toArray, List.set_cons_zero, List.set_cons_succ])
      refine hOne (i := 30) rfl (by kernel_rfl) (fun K hK => ?_)
      go_simp
      refine (starts_any (HFk.out _ hbk9)).mono ?_
      rintro e w10 ⟨rfl, rfl⟩
      rw [← HST.out]
      go_wp2_with fail
      refine hK.out _ _ (HC.out _ hbk9) (fun hH => ?_)
      clear hK K
      (refine hTake (i := 35) (v := ?_) rfl (by kernel_rfl) (by kernel_rfl) (by kernel_rfl) (fun _ _ _ h => h) (by kernel_rfl) ?_ (by assumption) ?_; rotate_left; focus (intro w' hS'; (try dsimp only at hS'); go_split_ands; (try go_simp); (try (with_reducible rfl)); done); try simp only [Act.put, List.setIfInBounds_toArray, List.set_cons_zero, List.set_cons_succ]); (refine hTake (i := 36) (v := ?_) rfl (by kernel_rfl) (by kernel_rfl) (by kernel_rfl) (fun _ _ _ h => h) (by kernel_rfl) ?_ (by assumption) ?_; rotate_left; focus (intro w' hS'; (try dsimp only at hS'); go_split_ands; (try go_simp); (try (with_reducible rfl)); done); try simp only [Act.put, List.setIfInBounds_toArray, List.set_cons_zero, List.set_cons_succ]); (refine hTake (i := 37) (v := ?_) rfl (by kernel_rfl) (by kernel_rfl) (by kernel_rfl) (fun _ _ _ h => h) (by kernel_rfl) ?_ (by assumption) ?_; rotate_left; focus (intro w' hS'; (try dsimp only at hS'); go_split_ands; (try go_simp); (try (with_reducible rfl)); done); try simp only [Act.put, List.setIfInBounds_toArray, List.set_cons_zero, List.set_cons_succ])
      refine wpAnyH_done (by kernel_rfl) ?_ _
      go_wp2_with fail
      go_ret
      exact ⟨rfl, below_tr hb2 hbk9⟩
end Go.Proofs.Ytmoaecicibjmnaa
