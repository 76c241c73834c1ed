/- What (*FS).Rename's stroke does. -/
import Derived.Test.YtmoaecicibjmnaaFY
namespace Go.Proofs.Ytmoaecicibjmnaa
open Go.RowKit

theorem Sound.drop {F : FR} (h : Sound F) (n : ByteArray) : Sound (dropF F n) := by
  unfold dropF dropL
  by_cases hi : isAt F.files n = true
  · rw [if_pos hi]
    have hs : (F.files.eraseIdx (place F.files n)).Sublist F.files := List.eraseIdx_sublist _ _
    have ht : total (F.files.eraseIdx (place F.files n)) ≤ total F.files := by
      unfold total
      rw [List.eraseIdx_eq_take_drop_succ]
      have h2 := total_app (F.files.take (place F.files n)) (F.files.drop (place F.files n))
      rw [List.take_append_drop] at h2
      unfold total at h2
      rw [List.map_append, List.sum_append, h2]
      have h3 : ((F.files.drop (place F.files n + 1)).map fun x => x.pl.size + x.air.size).sum ≤ ((F.files.drop (place F.files n)).map fun x => x.pl.size + x.air.size).sum := by
        rw [List.drop_eq_getElem_cons (isAt_lt hi), List.map_cons, List.sum_cons]; omega
      omega
    exact ⟨h.lim1, h.lim2, Nat.le_trans hs.length_le h.cnt, h.asc.sublist hs, fun x hx => h.nam x (hs.subset hx), by have := h.sum; show ((total (F.files.eraseIdx _) : Nat) : Int) ≤ F.limit; omega, h.lf, h.kl⟩
  · rw [if_neg hi]; exact h
def renX (x : PF) (c : ByteArray) : PF := ⟨c, x.pl, x.air⟩
def renF (F : FR) (a c : ByteArray) (x : PF) : FR := insF (dropF (dropF F a) c) (place (dropF (dropF F a) c).files c) (renX x c)
set_option maxHeartbeats 4000000 in
set_option maxRecDepth 100000 in
/-- The insert at the end of a Rename's stroke. -/
theorem rename1_any {M : Nat → Prop} {b p0 p1 p2 p3 i g : Nat} {F : FR} {fv kv : Value} {x : PF} (w : World) (h : FSIn M w b F fv kv) (hG : Sound F) (a c : ByteArray) (hx : F.files[i]? = some x) (hv : fv.ownBlock = some g)
    (h0 : w.cell? ⟨p0, 0, none⟩ = some (.pointer (some ⟨g, i * 3, none⟩))) (h1 : w.cell? ⟨p1, 0, none⟩ = some (.string c)) (h2 : w.cell? ⟨p2, 0, none⟩ = some (.pointer (some ⟨b, 0, none⟩))) (h3 : w.cell? ⟨p3, 0, none⟩ = some (.string a))
    (m1 : ¬ M p1) (m2 : ¬ M p2) (_m3 : ¬ M p3) :
    Calls Try.prog 61 #[.pointer (some ⟨p0, 0, none⟩), .pointer (some ⟨p1, 0, none⟩), .pointer (some ⟨p2, 0, none⟩), .pointer (some ⟨p3, 0, none⟩)] w fun e w' => e = .returned (.tuple #[]) ∧ Turned M w w' b (renF F a c x) := by
  obtain ⟨g', cap, rfl, hg, hMg, hgb, d0, d1, d2, hf⟩ := h.file hx
  obtain rfl : g = g' := by injection hv with hv; exact hv.symm
  have H := Lib.hid (show FSAt M w b F from ⟨_, kv, h⟩)
  have HG := Lib.hid hG
  have nM : ∀ k, w.heap.size ≤ k → ¬ M k := fun k hk hm => by have := h.lt k hm; omega
  obtain ⟨y, hy⟩ : ∃ y, y = renX x c := ⟨_, rfl⟩
  have HY := Lib.hid hy
  have ey1 : y.name = c := by rw [hy]; rfl
  have ey2 : y.pl = x.pl := by rw [hy]; rfl
  have ey3 : y.air = x.air := by rw [hy]; rfl
  have HYN := Lib.hid ey1
  have HYP := Lib.hid ey2
  have HYA := Lib.hid ey3
  clear h hx hG hv hy ey1 ey2 ey3 hf hMg hgb
  have h1a := fun o => Lib.cell?_alloc_some o h1
  have k1 := lt_of_cell h1
  have k2 := lt_of_cell h2
  have k3 := lt_of_cell h3
  obtain ⟨yb, hyb⟩ : ∃ yb, yb = w.heap.size := ⟨_, rfl⟩
  go_enter Try.func61, Try.ntmps61
  go_upto_region 2 with fail
  generalize hW : w.alloc _ = W
  have hBW : Below w.heap.size w W := by rw [← hW]; exact (Below.refl _ _).alloc (Nat.le_refl _) _
  have hsW : W.heap.size = w.heap.size + 1 := by rw [← hW, size_alloc]
  have hyW : W.heap[yb]? = some (.cells #[.string y.name, .string y.pl, .string y.air] 82 (0, 0)) := by rw [← hW, hyb, heap_alloc, if_pos rfl, HYN.out, HYP.out, HYA.out]
  rw [← hyb]
  have my : ¬ M yb := nM yb (by omega)
  have hyl : yb < W.heap.size := by omega
  clear hyb
  have j1 := cell_later hBW h1
  have j2 := cell_later hBW h2
  have j3 := cell_later hBW h3
  have C1 := Lib.hid (drop_any W (H.out.below hBW) HG.out a)
  clear hW h1a d0 d1 d2 h0 h1 h2 h3
  go_wp2_with fail
  (with_reducible refine C1.out.mono ?_); rintro e w2 ⟨rfl, M1, hf1, hM1, ho1⟩
  have nM1 : ∀ k, k < W.heap.size → ¬ M k → ¬ M1 k := fun k hk hn hm => by rcases hM1 k hm with h | h; exact hn h; omega
  have hs2 := ho1.size
  have i1 := (ho1.cell (show p1 < W.heap.size by omega) m1 0).trans j1
  have i2 := (ho1.cell (show p2 < W.heap.size by omega) m2 0).trans j2
  have hy2 := (ho1.block yb (by omega) my).trans hyW
  have HG1 := Lib.hid (HG.out.drop a)
  have C2 := Lib.hid (drop_any w2 hf1 HG1.out c)
  have HO1 := Lib.hid ho1
  have HM1 := Lib.hid hM1
  have n11 := nM1 p1 (by omega) m1
  have n12 := nM1 p2 (by omega) m2
  have n1y := nM1 yb (by omega) my
  clear hf1 ho1 hM1 nM1 C1 j1 j2 j3 hyW
  go_wp2_with fail
  (with_reducible refine C2.out.mono ?_); rintro e w3 ⟨rfl, M2, hf2, hM2, ho2⟩
  have nM2 : ∀ k, k < w2.heap.size → ¬ M1 k → ¬ M2 k := fun k hk hn hm => by rcases hM2 k hm with h | h; exact hn h; omega
  have hs3 := ho2.size
  have i1' := (ho2.cell (show p1 < w2.heap.size by omega) n11 0).trans i1
  have i2' := (ho2.cell (show p2 < w2.heap.size by omega) n12 0).trans i2
  have hy3 := (ho2.block yb (by omega) n1y).trans hy2
  have HG2 := Lib.hid (HG1.out.drop c)
  obtain ⟨F2, hF2⟩ : ∃ F2, F2 = dropF (dropF F a) c := ⟨_, rfl⟩
  rw [← hF2] at hf2 HG2
  have C3 := Lib.hid (at_any hf2 HG2.out c)
  have HF2 := Lib.hid hF2
  have HS2 := Lib.hid hf2
  have HO2 := Lib.hid ho2
  have HM2 := Lib.hid hM2
  have m22 := nM2 p2 (by omega) n12
  have m2y := nM2 yb (by omega) n1y
  obtain ⟨i2n, hi2n⟩ : ∃ i2n, i2n = place F2.files c := ⟨_, rfl⟩
  have HI2 := Lib.hid hi2n
  rw [← hi2n] at C3
  have hpl : i2n ≤ F2.files.length := by rw [hi2n]; exact place_le _ _
  have hln : F2.files.length ≤ 40 := by have := HG2.out.cnt; omega
  clear hf2 ho2 hM2 nM2 C2 hF2 hi2n i1 i2 hy2
  go_wp2_with fail
  (with_reducible refine C3.out.mono ?_); rintro e w4 ⟨rfl, hb4⟩
  have q2 := cell_later hb4 i2'
  have hy4 := (hb4.block yb (by omega)).trans hy3
  have hs4 := hb4.size
  obtain ⟨fv, kv, hfi⟩ := HS2.out.below hb4
  have HFI := Lib.hid hfi
  have c3 := hfi.box.c3
  have g3 := hfi.box.free 3
  have hbl := hfi.box.lt
  have k2' := lt_of_cell q2
  have ky' : yb < w4.heap.size := by omega
  have HNB := Lib.hid hfi.mf
  have Hbf : Hid (¬ fv.ownBlock = some b) := Lib.hid fun e => (hfi.mf b e).2 rfl
  have f2 : ¬ fv.ownBlock = some p2 := fun e => m22 (hfi.mf p2 e).1
  have fy : ¬ fv.ownBlock = some yb := fun e => m2y (hfi.mf yb e).1
  have n2 : p2 ≠ b := fun e => m22 (by rw [e]; exact hfi.mb)
  have ny : yb ≠ b := fun e => m2y (by rw [e]; exact hfi.mb)
  have HOW : Hid (Out M w w4) := Lib.hid ((((Out.of_below hBW).trans HO1.out fun k hk => .inl hk).trans HO2.out fun k hk => (HM1.out k hk).imp id fun h => by omega).trans (Out.of_below (M := fun _ => False) hb4) fun _ h => h.elim)
  have MM : ∀ k, M2 k → M k ∨ w.heap.size ≤ k := fun k hk => by
    rcases HM2.out k hk with h | h
    · rcases HM1.out k h with h | h
      · exact .inl h
      · exact .inr (by omega)
    · exact .inr (by omega)
  have y0 := cell_at hy4 0
  have y1 := cell_at hy4 1
  have y2 := cell_at hy4 2
  have CI : ∀ w1 vb, Below w4.heap.size w4 w1 → w4.heap.size ≤ vb → w1.heap[vb]? = some (.cells #[.string y.name, .string y.pl, .string y.air] 82 (0, 0)) →
      Hid (Calls Try.prog 58 #[fv, .int .i64 (i2n : Nat), .slice (some ⟨vb, 0, none⟩) 1 1] w1 fun e w' => InsPost w1 fv F2.files i2n y e w') := fun w1 vb hb hv hc =>
    Lib.hid (insert_any w1 fv F2.files y i2n vb 1 hln hpl (HFI.out.below hb).own hc (fun e => by have := HFI.out.lt vb (HFI.out.mf vb e).1; omega))
  have KS : ∀ w', Out (fun k => fv.ownBlock = some k) w4 w' → w'.cell? ⟨p2, 0, none⟩ = some (.pointer (some ⟨b, 0, none⟩)) ∧ w'.cell? ⟨yb, 0, none⟩ = some (.string y.name) ∧ w'.cell? ⟨yb, 1, none⟩ = some (.string y.pl) ∧ w'.cell? ⟨yb, 2, none⟩ = some (.string y.air) := fun w' ho =>
    ⟨(ho.cell k2' f2 0).trans q2, (ho.cell ky' fy 0).trans y0, (ho.cell ky' fy 1).trans y1, (ho.cell ky' fy 2).trans y2⟩
  obtain ⟨q, hq⟩ : ∃ q, (F2.files.take i2n ++ y :: F2.files.drop i2n).length = q := ⟨_, rfl⟩
  have HQ := Lib.hid hq
  have KF : ∀ (w6 : World) fa fc, w6.ownsRow 0 82 3 (.slice fa q fc) q (cs (F2.files.take i2n ++ y :: F2.files.drop i2n)) →
      (∀ k, (Value.slice fa q fc).ownBlock = some k → fv.ownBlock = some k ∨ ((w4.alloc (.cells #[.string y.name, .string y.pl, .string y.air] 82)).drew).heap.size ≤ k) →
      Out (fun k => fv.ownBlock = some k) ((w4.alloc (.cells #[.string y.name, .string y.pl, .string y.air] 82)).drew) w6 →
      ∃ fv', Hid (FSIn (fun k => M2 k ∨ (w4.heap.size ≤ k ∧ k < (w6.setCell ⟨b, 3, none⟩ (.slice fa q fc)).heap.size)) (w6.setCell ⟨b, 3, none⟩ (.slice fa q fc)) b (renF F a c x) fv' kv) ∧ Hid (Out M2 w4 (w6.setCell ⟨b, 3, none⟩ (.slice fa q fc))) := by
    intro w6 fa fc ho3 hb3 hout3
    have hs1 : ((w4.alloc (.cells #[.string y.name, .string y.pl, .string y.air] 82)).drew).heap.size = w4.heap.size + 1 := by rw [drew_heap, size_alloc]
    rw [hs1] at hb3
    have hs3 := hout3.size
    rw [hs1] at hs3
    have hbox := HFI.out.box.eq (ins_block hout3 hbl Hbf.out)
    have hM : ∀ k, (Value.slice fa q fc).ownBlock = some k → k ≠ b ∧ k < w6.heap.size := fun k hk => ⟨by
      rcases hb3 k hk with h | h
      · exact (HNB.out k h).2
      · omega, (ho3.lt k hk).2⟩
    have hRF : renF F a c x = insF F2 i2n y := by unfold renF; rw [HI2.out, HF2.out, HY.out]
    rw [hRF]
    refine ⟨.slice fa q fc, Lib.hid (HFI.out.re (insF F2 i2n y) rfl _ ?_ ?_ (by rw [size_set]; omega) (fun c hc h1 h2 => ?_) (fun k hk => ⟨?_, (hM k hk).1, (hb3 k hk).imp id fun h => by omega⟩) (fun _ h => .inl h) (fun k hk => ?_)), Lib.hid ?_⟩
    · exact hbox.s3 _
    · show World.ownsRow _ 0 _ 3 _ (F2.files.take i2n ++ y :: F2.files.drop i2n).length (cs (F2.files.take i2n ++ y :: F2.files.drop i2n))
      rw [HQ.out]
      exact own_eq ho3 fun k hk => setCell_heap_other _ _ _ _ _ (hM k hk).1
    · rw [setCell_heap_other _ _ _ _ _ h1]
      exact ins_block hout3 (HFI.out.lt c hc) h2
    · rcases hb3 k hk with h | h
      · exact .inl (HNB.out k h).1
      · exact .inr ⟨by omega, by rw [size_set]; exact (hM k hk).2⟩
    · rcases hk with hk | hk
      · rw [size_set]; have := HFI.out.lt k hk; omega
      · exact hk.2
    · have o1 : Out M2 w4 ((w4.alloc (.cells #[.string y.name, .string y.pl, .string y.air] 82)).drew) := ((Out.refl _ _).alloc _).drew
      exact (o1.trans hout3 fun k hk => .inl (HNB.out k hk).1).set (.inl HFI.out.mb) _ _
  clear hq hfi C3
  go_upto_region 5 with fail
  refine wp_region_held_drew (S := fun w' => w'.cell? ⟨p2, 0, none⟩ = some (.pointer (some ⟨b, 0, none⟩)) ∧ w'.cell? ⟨yb, 0, none⟩ = some (.string y.name) ∧ w'.cell? ⟨yb, 1, none⟩ = some (.string y.pl) ∧ w'.cell? ⟨yb, 2, none⟩ = some (.string y.air)) (by kernel_rfl) (KS _ (Out.refl _ _).drew) (fun hH => ?_)
  refine wpAnyH_take (i := 0) (v := ?_) rfl (by kernel_rfl) (by kernel_rfl) (by kernel_rfl) (fun _ _ _ h => h) (Or.inl ⟨by rfl, ?hy1⟩) hH ?rs1
  case hy1 => intro w' hS'; obtain ⟨s1, s2, s3, s4⟩ := hS'; (try go_simp); (try (with_reducible rfl))
  case rs1 =>
  refine wpAnyH_take (i := 1) (v := ?_) rfl (by kernel_rfl) (by kernel_rfl) (by kernel_rfl) (fun _ _ _ h => h) (Or.inl ⟨by rfl, ?hy2⟩) hH ?rs2
  case hy2 => intro w' hS'; obtain ⟨s1, s2, s3, s4⟩ := hS'; (try go_simp); (try (with_reducible rfl))
  case rs2 =>
  refine wpAnyH_take (i := 2) (v := ?_) rfl (by kernel_rfl) (by kernel_rfl) (by kernel_rfl) (fun _ _ _ h => h) (Or.inl ⟨by rfl, ?hy3⟩) hH ?rs3
  case hy3 => intro w' hS'; obtain ⟨s1, s2, s3, s4⟩ := hS'; (try go_simp); (try (with_reducible rfl))
  case rs3 =>
  refine wpAnyH_take (i := 3) (v := ?_) rfl (by kernel_rfl) (by kernel_rfl) (by kernel_rfl) (fun _ _ _ h => h) (Or.inl ⟨by rfl, ?hy4⟩) hH ?rs4
  case hy4 => intro w' hS'; obtain ⟨s1, s2, s3, s4⟩ := hS'; (try go_simp); (try (with_reducible rfl))
  case rs4 =>
  refine wpAnyH_take (i := 5) (v := ?_) rfl (by kernel_rfl) (by kernel_rfl) (by kernel_rfl) (fun _ _ _ h => h) (Or.inl ⟨by rfl, ?hy5⟩) hH ?rs5
  case hy5 => intro w' hS'; obtain ⟨s1, s2, s3, s4⟩ := hS'; (try go_simp); (try (with_reducible rfl))
  case rs5 =>
  refine wpAnyH_take (i := 6) (v := ?_) rfl (by kernel_rfl) (by kernel_rfl) (by kernel_rfl) (fun _ _ _ h => h) (Or.inl ⟨by rfl, ?hy6⟩) hH ?rs6
  case hy6 => intro w' hS'; obtain ⟨s1, s2, s3, s4⟩ := hS'; (try go_simp); (try (with_reducible rfl))
  case rs6 =>
  refine wpAnyH_ready (rs := [4, 7]) (by kernel_rfl) (by simp) ?_
  refine AllReadyH.cons rfl (fun K hK => ?_) (AllReadyH.cons rfl (fun K hK => ?_) AllReadyH.nil)
  · go_simp
    refine hK.out _ _ hH (fun hH => ?_)
    clear hK K
    refine wpAnyH_ready (rs := [7]) (by kernel_rfl) (by simp) ?_
    refine AllReadyH.cons rfl (fun K hK => ?_) AllReadyH.nil
    go_simp
    refine hK.out _ _ (KS _ (Out.drew (Out.alloc (Out.refl _ _) _))) (fun hH => ?_)
    clear hK K
    refine wpAnyH_ready (rs := [8]) (by kernel_rfl) (by simp) ?_
    refine AllReadyH.cons rfl (fun K hK => ?_) AllReadyH.nil
    go_simp
    refine (CI _ _ ((Below.refl _ _).alloc (Nat.le_refl _) _).drew (Nat.le_refl _) (by rw [drew_heap, heap_alloc, if_pos rfl])).out.mono ?_
    rintro e w6 ⟨fv', rfl, ho6, hb6, hout6⟩
    rw [HQ.out] at ho6
    obtain ⟨fa, fc, rfl⟩ := own_slice ho6
    have e3 := ins_cell hout6 c3 Hbf.out
    have g4 := (World.frozen?_of_block (a := ⟨b, 3, none⟩) (ins_block hout6 hbl Hbf.out)).trans g3
    have HO6 := Lib.hid ho6
    have HB6 := Lib.hid hb6
    have HU6 := Lib.hid hout6
    have hH6 := KS _ (Out.trans (Out.drew (Out.alloc (Out.refl _ _) _)) hout6 (fun _ h => .inl h))
    clear ho6 hb6 hout6
    go_wp2_with fail
    refine hK.out _ _ hH6 (fun hH => ?_)
    clear hK K
    refine wpAnyH_take (i := 9) (v := ?_) rfl (by kernel_rfl) (by kernel_rfl) (by kernel_rfl) (fun _ _ _ h => h) (Or.inl ⟨by rfl, ?hy7⟩) hH ?rs7
    case hy7 => intro w' hS'; obtain ⟨s1, s2, s3, s4⟩ := hS'; (try go_simp); (try (with_reducible rfl))
    case rs7 =>
    refine wpAnyH_take (i := 10) (v := ?_) rfl (by kernel_rfl) (by kernel_rfl) (by kernel_rfl) (fun _ _ _ h => h) (Or.inl ⟨by rfl, ?hy8⟩) hH ?rs8
    case hy8 => intro w' hS'; obtain ⟨s1, s2, s3, s4⟩ := hS'; (try go_simp); (try (with_reducible rfl))
    case rs8 =>
    refine wpAnyH_ready (rs := [11]) (by kernel_rfl) (by simp) ?_
    refine AllReadyH.cons rfl (fun K hK => ?_) AllReadyH.nil
    go_simp
    refine hK.out _ _ ⟨by rw [World.cell?_of_block (setCell_heap_other _ _ _ _ _ n2)]; exact hH6.1, by rw [World.cell?_of_block (setCell_heap_other _ _ _ _ _ ny)]; exact hH6.2.1, by rw [World.cell?_of_block (setCell_heap_other _ _ _ _ _ ny)]; exact hH6.2.2.1, by rw [World.cell?_of_block (setCell_heap_other _ _ _ _ _ ny)]; exact hH6.2.2.2⟩ (fun hH => ?_)
    clear hK K
    refine wpAnyH_done (by kernel_rfl) ?_ _
    go_wp2_with fail
    go_end0
    obtain ⟨fv6, hF6, hO6⟩ := KF w6 fa fc HO6.out HB6.out HU6.out
    exact ⟨rfl, _, ⟨fv6, kv, hF6.out⟩, fun k hk => hk.elim (MM k) (fun h => .inr (by omega)), HOW.out.trans hO6.out MM⟩
  · go_simp
    refine hK.out _ _ (KS _ (Out.drew (Out.alloc (Out.refl _ _) _))) (fun hH => ?_)
    clear hK K
    refine wpAnyH_ready (rs := [4]) (by kernel_rfl) (by simp) ?_
    refine AllReadyH.cons rfl (fun K hK => ?_) AllReadyH.nil
    go_simp
    refine hK.out _ _ hH (fun hH => ?_)
    clear hK K
    refine wpAnyH_ready (rs := [8]) (by kernel_rfl) (by simp) ?_
    refine AllReadyH.cons rfl (fun K hK => ?_) AllReadyH.nil
    go_simp
    refine (CI _ _ ((Below.refl _ _).alloc (Nat.le_refl _) _).drew (Nat.le_refl _) (by rw [drew_heap, heap_alloc, if_pos rfl])).out.mono ?_
    rintro e w6 ⟨fv', rfl, ho6, hb6, hout6⟩
    rw [HQ.out] at ho6
    obtain ⟨fa, fc, rfl⟩ := own_slice ho6
    have e3 := ins_cell hout6 c3 Hbf.out
    have g4 := (World.frozen?_of_block (a := ⟨b, 3, none⟩) (ins_block hout6 hbl Hbf.out)).trans g3
    have HO6 := Lib.hid ho6
    have HB6 := Lib.hid hb6
    have HU6 := Lib.hid hout6
    have hH6 := KS _ (Out.trans (Out.drew (Out.alloc (Out.refl _ _) _)) hout6 (fun _ h => .inl h))
    clear ho6 hb6 hout6
    go_wp2_with fail
    refine hK.out _ _ hH6 (fun hH => ?_)
    clear hK K
    refine wpAnyH_take (i := 9) (v := ?_) rfl (by kernel_rfl) (by kernel_rfl) (by kernel_rfl) (fun _ _ _ h => h) (Or.inl ⟨by rfl, ?hy9⟩) hH ?rs9
    case hy9 => intro w' hS'; obtain ⟨s1, s2, s3, s4⟩ := hS'; (try go_simp); (try (with_reducible rfl))
    case rs9 =>
    refine wpAnyH_take (i := 10) (v := ?_) rfl (by kernel_rfl) (by kernel_rfl) (by kernel_rfl) (fun _ _ _ h => h) (Or.inl ⟨by rfl, ?hy10⟩) hH ?rs10
    case hy10 => intro w' hS'; obtain ⟨s1, s2, s3, s4⟩ := hS'; (try go_simp); (try (with_reducible rfl))
    case rs10 =>
    refine wpAnyH_ready (rs := [11]) (by kernel_rfl) (by simp) ?_
    refine AllReadyH.cons rfl (fun K hK => ?_) AllReadyH.nil
    go_simp
    refine hK.out _ _ ⟨by rw [World.cell?_of_block (setCell_heap_other _ _ _ _ _ n2)]; exact hH6.1, by rw [World.cell?_of_block (setCell_heap_other _ _ _ _ _ ny)]; exact hH6.2.1, by rw [World.cell?_of_block (setCell_heap_other _ _ _ _ _ ny)]; exact hH6.2.2.1, by rw [World.cell?_of_block (setCell_heap_other _ _ _ _ _ ny)]; exact hH6.2.2.2⟩ (fun hH => ?_)
    clear hK K
    refine wpAnyH_done (by kernel_rfl) ?_ _
    go_wp2_with fail
    go_end0
    obtain ⟨fv6, hF6, hO6⟩ := KF w6 fa fc HO6.out HB6.out HU6.out
    exact ⟨rfl, _, ⟨fv6, kv, hF6.out⟩, fun k hk => hk.elim (MM k) (fun h => .inr (by omega)), HOW.out.trans hO6.out MM⟩
end Go.Proofs.Ytmoaecicibjmnaa
