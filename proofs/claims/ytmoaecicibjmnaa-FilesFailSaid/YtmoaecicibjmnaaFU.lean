/- What (*FS).Append's stroke does where the file is not there. -/
import Derived.Test.YtmoaecicibjmnaaFT
import Derived.Deep.RegionHeld3
namespace Go.Proofs.Ytmoaecicibjmnaa
open Go.RowKit

def insF (F : FR) (i : Nat) (x : PF) : FR := { F with files := insL F.files i x }
theorem insL_get (L : List PF) (i : Nat) (x : PF) (hi : i ≤ L.length) : (insL L i x)[i]? = some x := by
  unfold insL
  have h1 : (L.take i).length = i := by rw [List.length_take]; omega
  rw [List.getElem?_append_right (by omega), h1, Nat.sub_self]; rfl
theorem own_slice {w : World} {B n sz : Nat} {t : TypeId} {v : Value} {xs : List Value} (h : w.ownsRow B t sz v n xs) : ∃ a c, v = .slice a n c := by
  rcases h.2 with ⟨rfl, rfl⟩ | ⟨g, cap, cur, rfl, _⟩
  · exact ⟨_, _, rfl⟩
  · exact ⟨_, _, rfl⟩
theorem ins_block {M : Nat → Prop} {w w3 : World} {o : Obj} (h : Out M (w.alloc o).drew w3) {b : Nat} (hb : b < w.heap.size) (hn : ¬ M b) : w3.heap[b]? = w.heap[b]? := by
  rw [h.block b (by rw [drew_heap, size_alloc]; omega) hn, drew_heap, heap_alloc, if_neg (by omega)]
theorem ins_cell {M : Nat → Prop} {w w3 : World} {o : Obj} (h : Out M (w.alloc o).drew w3) {b k : Nat} {v : Value} (hc : w.cell? ⟨b, k, none⟩ = some v) (hn : ¬ M b) : w3.cell? ⟨b, k, none⟩ = some v :=
  (World.cell?_of_block (ins_block h (lt_of_cell hc) hn)).trans hc
set_option maxHeartbeats 4000000 in
set_option maxRecDepth 100000 in
theorem append1_new {M : Nat → Prop} {b p0 p1 p2 p3 p4 : Nat} {F : FR} {i : Nat} (w : World) (h : FSAt M w b F) (n s : ByteArray) (hs : s.size ≤ 1048576) (hi : i ≤ F.files.length) (hl : F.files.length ≤ 40)
    (h0 : w.cell? ⟨p0, 0, none⟩ = some (.bool false)) (h1 : w.cell? ⟨p1, 0, none⟩ = some (.pointer (some ⟨b, 0, none⟩))) (h2 : w.cell? ⟨p2, 0, none⟩ = some (.int .i64 (i : Nat))) (h3 : w.cell? ⟨p3, 0, none⟩ = some (.string n)) (h4 : w.cell? ⟨p4, 0, none⟩ = some (.string s))
    (m1 : ¬ M p1) (m2 : ¬ M p2) (m3 : ¬ M p3) (m4 : ¬ M p4) :
    Calls Try.prog 57 #[.pointer (some ⟨p0, 0, none⟩), .pointer (some ⟨p1, 0, none⟩), .pointer (some ⟨p2, 0, none⟩), .pointer (some ⟨p3, 0, none⟩), .pointer (some ⟨p4, 0, none⟩)] w fun e w' => e = .returned (.tuple #[]) ∧ Turned M w w' b (putF (insF F i (noX n)) i (addX (noX n) s)) := by
  obtain ⟨fv, kv, h⟩ := h
  have H := Lib.hid h
  have c3 := h.box.c3
  have k1 := lt_of_cell h1
  have k2 := lt_of_cell h2
  have k4 := lt_of_cell h4
  have hbl := h.box.lt
  have CI : ∀ w1 vb, Below w.heap.size w w1 → w.heap.size ≤ vb → w1.heap[vb]? = some (.cells #[.string n, .string ⟨#[]⟩, .string ⟨#[]⟩] 82 (0, 0)) →
      Hid (Calls Try.prog 58 #[fv, .int .i64 (i : Nat), .slice (some ⟨vb, 0, none⟩) 1 1] w1 fun e w' => InsPost w1 fv F.files i (noX n) e w') := fun w1 vb hb hv hc =>
    Lib.hid (insert_any w1 fv F.files (noX n) i vb 1 hl hi (h.below hb).own hc (fun e => by have := h.lt vb (h.mf vb e).1; omega))
  have hnb : ∀ k, fv.ownBlock = some k → M k ∧ k ≠ b := h.mf
  have HNB := Lib.hid hnb
  clear h hnb
  go_enter Try.func57, Try.ntmps57
  go_upto_region 1 with fail
  have hMf : ∀ p, ¬ M p → ¬ fv.ownBlock = some p := fun p hp e => hp (HNB.out p e).1
  have hbf : ¬ fv.ownBlock = some b := fun e => (HNB.out b e).2 rfl
  have g3 := H.out.box.free 3
  have HMf := Lib.hid hMf
  have Hbf := Lib.hid hbf
  clear hMf hbf
  have n1 : p1 ≠ b := fun e => m1 (by rw [e]; exact H.out.mb)
  have n2 : p2 ≠ b := fun e => m2 (by rw [e]; exact H.out.mb)
  have n3 : p3 ≠ b := fun e => m3 (by rw [e]; exact H.out.mb)
  have KS : ∀ w', Out (fun k => fv.ownBlock = some k) w w' → w'.cell? ⟨p1, 0, none⟩ = some (.pointer (some ⟨b, 0, none⟩)) ∧ w'.cell? ⟨p2, 0, none⟩ = some (.int .i64 (i : Nat)) ∧ w'.cell? ⟨p3, 0, none⟩ = some (.string n) := fun w' ho =>
    ⟨(ho.cell k1 (HMf.out _ m1) 0).trans h1, (ho.cell k2 (HMf.out _ m2) 0).trans h2, (ho.cell (lt_of_cell h3) (HMf.out _ m3) 0).trans h3⟩
  obtain ⟨F1, hF1⟩ : ∃ F1, F1 = insF F i (noX n) := ⟨_, rfl⟩
  have HF1 := Lib.hid hF1
  obtain ⟨q, hq⟩ : ∃ q, (F.files.take i ++ noX n :: F.files.drop i).length = q := ⟨_, rfl⟩
  have HQ := Lib.hid hq
  have KF : ∀ (w3 : World) fa fc, w3.ownsRow 0 82 3 (.slice fa q fc) q (cs (F.files.take i ++ noX n :: F.files.drop i)) →
      (∀ k, (Value.slice fa q fc).ownBlock = some k → fv.ownBlock = some k ∨ ((w.alloc (.cells #[.string n, .string ⟨#[]⟩, .string ⟨#[]⟩] 82)).drew).heap.size ≤ k) →
      Out (fun k => fv.ownBlock = some k) ((w.alloc (.cells #[.string n, .string ⟨#[]⟩, .string ⟨#[]⟩] 82)).drew) w3 → w3.cell? ⟨b, 3, none⟩ = some fv → w3.frozen? ⟨b, 3, none⟩ = false →
      ∃ fv', Hid (FSIn (fun k => M k ∨ (w.heap.size ≤ k ∧ k < (w3.setCell ⟨b, 3, none⟩ (.slice fa q fc)).heap.size)) (w3.setCell ⟨b, 3, none⟩ (.slice fa q fc)) b F1 fv' kv) ∧ Hid (Out M w (w3.setCell ⟨b, 3, none⟩ (.slice fa q fc))) := by
    intro w3 fa fc ho3 hb3 hout3 _ _
    have hs1 : ((w.alloc (.cells #[.string n, .string ⟨#[]⟩, .string ⟨#[]⟩] 82)).drew).heap.size = w.heap.size + 1 := by rw [drew_heap, size_alloc]
    rw [hs1] at hb3
    have hs3 := hout3.size
    rw [hs1] at hs3
    have hbox := H.out.box.eq (ins_block hout3 hbl Hbf.out)
    have hM : ∀ k, (Value.slice fa q fc).ownBlock = some k → k ≠ b ∧ k < w3.heap.size := fun k hk => ⟨by
      rcases hb3 k hk with h | h
      · exact (HNB.out k h).2
      · omega, (ho3.lt k hk).2⟩
    refine ⟨.slice fa q fc, Lib.hid (H.out.re F1 (by rw [hF1]; rfl) _ ?_ ?_ (by rw [size_set]; omega) (fun c hc h1 h2 => ?_) (fun k hk => ⟨?_, (hM k hk).1, (hb3 k hk).imp id fun h => by omega⟩) (fun _ h => .inl h) (fun k hk => ?_)), Lib.hid ?_⟩
    · rw [hF1]; exact hbox.s3 _
    · rw [hF1]
      show World.ownsRow _ 0 _ 3 _ (F.files.take i ++ noX n :: F.files.drop i).length (cs (F.files.take i ++ noX n :: F.files.drop i))
      rw [HQ.out]
      exact own_eq ho3 fun k hk => setCell_heap_other _ _ _ _ _ (hM k hk).1
    · rw [setCell_heap_other _ _ _ _ _ h1]
      exact ins_block hout3 (H.out.lt c hc) h2
    · rcases hb3 k hk with h | h
      · exact .inl (HNB.out k h).1
      · exact .inr ⟨by omega, by rw [size_set]; exact (hM k hk).2⟩
    · rcases hk with hk | hk
      · rw [size_set]; have := H.out.lt k hk; omega
      · exact hk.2
    · have o1 : Out M w ((w.alloc (.cells #[.string n, .string ⟨#[]⟩, .string ⟨#[]⟩] 82)).drew) := ((Out.refl _ _).alloc _).drew
      exact (o1.trans hout3 fun k hk => .inl (HNB.out k hk).1).set (.inl H.out.mb) _ _
  clear hq
  clear hF1
  go_cut [7] from 7 to 18 (fun _ wx => ∃ fv', Hid (FSIn (fun k => M k ∨ (w.heap.size ≤ k ∧ k < wx.heap.size)) wx b F1 fv' kv) ∧ Hid (Out M w wx))
  case first =>
    refine wp_region_held_drew (S := fun w' => w'.cell? ⟨p1, 0, none⟩ = some (.pointer (some ⟨b, 0, none⟩)) ∧ w'.cell? ⟨p2, 0, none⟩ = some (.int .i64 (i : Nat)) ∧ w'.cell? ⟨p3, 0, none⟩ = some (.string n)) (by kernel_rfl) (KS _ (Out.refl _ _).drew) (fun hH => ?_)
    refine wpAnyH_take (i := 0) (v := ?_) rfl (by kernel_rfl) (by kernel_rfl) (by kernel_rfl) (fun _ _ _ h => h) (Or.inl ⟨by rfl, ?hy1⟩) hH ?rs1
    case hy1 => intro w' hS'; obtain ⟨s1, s2, s3⟩ := hS'; (try go_simp); (try (with_reducible rfl))
    case rs1 =>
    refine wpAnyH_take (i := 1) (v := ?_) rfl (by kernel_rfl) (by kernel_rfl) (by kernel_rfl) (fun _ _ _ h => h) (Or.inl ⟨by rfl, ?hy2⟩) hH ?rs2
    case hy2 => intro w' hS'; obtain ⟨s1, s2, s3⟩ := hS'; (try go_simp); (try (with_reducible rfl))
    case rs2 =>
    refine wpAnyH_take (i := 2) (v := ?_) rfl (by kernel_rfl) (by kernel_rfl) (by kernel_rfl) (fun _ _ _ h => h) (Or.inl ⟨by rfl, ?hy3⟩) hH ?rs3
    case hy3 => intro w' hS'; obtain ⟨s1, s2, s3⟩ := hS'; (try go_simp); (try (with_reducible rfl))
    case rs3 =>
    refine wpAnyH_take (i := 3) (v := ?_) rfl (by kernel_rfl) (by kernel_rfl) (by kernel_rfl) (fun _ _ _ h => h) (Or.inl ⟨by rfl, ?hy4⟩) hH ?rs4
    case hy4 => intro w' hS'; obtain ⟨s1, s2, s3⟩ := hS'; (try go_simp); (try (with_reducible rfl))
    case rs4 =>
    refine wpAnyH_take (i := 5) (v := ?_) rfl (by kernel_rfl) (by kernel_rfl) (by kernel_rfl) (fun _ _ _ h => h) (Or.inl ⟨by rfl, ?hy5⟩) hH ?rs5
    case hy5 => intro w' hS'; obtain ⟨s1, s2, s3⟩ := hS'; (try go_simp); (try (with_reducible rfl))
    case rs5 =>
    refine wpAnyH_take (i := 6) (v := ?_) rfl (by kernel_rfl) (by kernel_rfl) (by kernel_rfl) (fun _ _ _ h => h) (Or.inl ⟨by rfl, ?hy6⟩) hH ?rs6
    case hy6 => intro w' hS'; obtain ⟨s1, s2, s3⟩ := hS'; (try go_simp); (try (with_reducible rfl))
    case rs6 =>
    refine wpAnyH_take (i := 7) (v := ?_) rfl (by kernel_rfl) (by kernel_rfl) (by kernel_rfl) (fun _ _ _ h => h) (Or.inl ⟨by rfl, ?hy7⟩) hH ?rs7
    case hy7 => intro w' hS'; obtain ⟨s1, s2, s3⟩ := hS'; (try go_simp); (try (with_reducible rfl))
    case rs7 =>
    refine wpAnyH_ready (rs := [4, 8]) (by kernel_rfl) (by simp) ?_
    refine AllReadyH.cons rfl (fun K hK => ?_) (AllReadyH.cons rfl (fun K hK => ?_) AllReadyH.nil)
    · go_simp
      refine hK.out _ _ hH (fun hH => ?_)
      clear hK K
      refine wpAnyH_ready (rs := [8]) (by kernel_rfl) (by simp) ?_
      refine AllReadyH.cons rfl (fun K hK => ?_) AllReadyH.nil
      go_simp
      refine hK.out _ _ (KS _ (Out.drew (Out.alloc (Out.refl _ _) _))) (fun hH => ?_)
      clear hK K
      refine wpAnyH_ready (rs := [9]) (by kernel_rfl) (by simp) ?_
      refine AllReadyH.cons rfl (fun K hK => ?_) AllReadyH.nil
      go_simp
      refine (CI _ _ ((Below.refl _ _).alloc (Nat.le_refl _) _).drew (Nat.le_refl _) (by rw [drew_heap, heap_alloc, if_pos rfl])).out.mono ?_
      rintro e w3 ⟨fv', rfl, ho3, hb3, hout3⟩
      rw [HQ.out] at ho3
      obtain ⟨fa, fc, rfl⟩ := own_slice ho3
      have e3 := ins_cell hout3 c3 Hbf.out
      have g4 := (World.frozen?_of_block (a := ⟨b, 3, none⟩) (ins_block hout3 hbl Hbf.out)).trans g3
      have HO3 := Lib.hid ho3
      have HB3 := Lib.hid hb3
      have HU3 := Lib.hid hout3
      have hH3 := KS _ (Out.trans (Out.drew (Out.alloc (Out.refl _ _) _)) hout3 (fun _ h => .inl h))
      clear ho3 hb3 hout3
      go_wp2_with fail
      refine hK.out _ _ hH3 (fun hH => ?_)
      clear hK K
      refine wpAnyH_take (i := 10) (v := ?_) rfl (by kernel_rfl) (by kernel_rfl) (by kernel_rfl) (fun _ _ _ h => h) (Or.inl ⟨by rfl, ?hy8⟩) hH ?rs8
      case hy8 => intro w' hS'; obtain ⟨s1, s2, s3⟩ := hS'; (try go_simp); (try (with_reducible rfl))
      case rs8 =>
      refine wpAnyH_take (i := 11) (v := ?_) rfl (by kernel_rfl) (by kernel_rfl) (by kernel_rfl) (fun _ _ _ h => h) (Or.inl ⟨by rfl, ?hy9⟩) hH ?rs9
      case hy9 => intro w' hS'; obtain ⟨s1, s2, s3⟩ := hS'; (try go_simp); (try (with_reducible rfl))
      case rs9 =>
      refine wpAnyH_ready (rs := [12]) (by kernel_rfl) (by simp) ?_
      refine AllReadyH.cons rfl (fun K hK => ?_) AllReadyH.nil
      go_simp
      refine hK.out _ _ ⟨by rw [World.cell?_of_block (setCell_heap_other _ _ _ _ _ n1)]; exact hH3.1, by rw [World.cell?_of_block (setCell_heap_other _ _ _ _ _ n2)]; exact hH3.2.1, by rw [World.cell?_of_block (setCell_heap_other _ _ _ _ _ n3)]; exact hH3.2.2⟩ (fun hH => ?_)
      clear hK K
      refine wpAnyH_done (by kernel_rfl) ?_ _
      go_wp2_with fail
      go_meet
      exact KF w3 fa fc HO3.out HB3.out HU3.out e3 g4
    · go_simp
      refine hK.out _ _ (KS _ (Out.drew (Out.alloc (Out.refl _ _) _))) (fun hH => ?_)
      clear hK K
      refine wpAnyH_ready (rs := [4]) (by kernel_rfl) (by simp) ?_
      refine AllReadyH.cons rfl (fun K hK => ?_) AllReadyH.nil
      go_simp
      refine hK.out _ _ hH (fun hH => ?_)
      clear hK K
      refine wpAnyH_ready (rs := [9]) (by kernel_rfl) (by simp) ?_
      refine AllReadyH.cons rfl (fun K hK => ?_) AllReadyH.nil
      go_simp
      refine (CI _ _ ((Below.refl _ _).alloc (Nat.le_refl _) _).drew (Nat.le_refl _) (by rw [drew_heap, heap_alloc, if_pos rfl])).out.mono ?_
      rintro e w3 ⟨fv', rfl, ho3, hb3, hout3⟩
      rw [HQ.out] at ho3
      obtain ⟨fa, fc, rfl⟩ := own_slice ho3
      have e3 := ins_cell hout3 c3 Hbf.out
      have g4 := (World.frozen?_of_block (a := ⟨b, 3, none⟩) (ins_block hout3 hbl Hbf.out)).trans g3
      have HO3 := Lib.hid ho3
      have HB3 := Lib.hid hb3
      have HU3 := Lib.hid hout3
      have hH3 := KS _ (Out.trans (Out.drew (Out.alloc (Out.refl _ _) _)) hout3 (fun _ h => .inl h))
      clear ho3 hb3 hout3
      go_wp2_with fail
      refine hK.out _ _ hH3 (fun hH => ?_)
      clear hK K
      refine wpAnyH_take (i := 10) (v := ?_) rfl (by kernel_rfl) (by kernel_rfl) (by kernel_rfl) (fun _ _ _ h => h) (Or.inl ⟨by rfl, ?hy10⟩) hH ?rs10
      case hy10 => intro w' hS'; obtain ⟨s1, s2, s3⟩ := hS'; (try go_simp); (try (with_reducible rfl))
      case rs10 =>
      refine wpAnyH_take (i := 11) (v := ?_) rfl (by kernel_rfl) (by kernel_rfl) (by kernel_rfl) (fun _ _ _ h => h) (Or.inl ⟨by rfl, ?hy11⟩) hH ?rs11
      case hy11 => intro w' hS'; obtain ⟨s1, s2, s3⟩ := hS'; (try go_simp); (try (with_reducible rfl))
      case rs11 =>
      refine wpAnyH_ready (rs := [12]) (by kernel_rfl) (by simp) ?_
      refine AllReadyH.cons rfl (fun K hK => ?_) AllReadyH.nil
      go_simp
      refine hK.out _ _ ⟨by rw [World.cell?_of_block (setCell_heap_other _ _ _ _ _ n1)]; exact hH3.1, by rw [World.cell?_of_block (setCell_heap_other _ _ _ _ _ n2)]; exact hH3.2.1, by rw [World.cell?_of_block (setCell_heap_other _ _ _ _ _ n3)]; exact hH3.2.2⟩ (fun hH => ?_)
      clear hK K
      refine wpAnyH_done (by kernel_rfl) ?_ _
      go_wp2_with fail
      go_meet
      exact KF w3 fa fc HO3.out HB3.out HU3.out e3 g4
  case rest =>
    obtain ⟨fv', HF, HU⟩ := hcut
    obtain ⟨w5, rfl⟩ : ∃ w5 : World, w5 = wc := ⟨_, rfl⟩
    have hx5 : F1.files[i]? = some (noX n) := by rw [HF1.out]; exact insL_get F.files i (noX n) hi
    obtain ⟨g, cap, rfl, hg, hMg, hgb, d0, d1, d2, hf⟩ := HF.out.file hx5
    have e3 := HF.out.box.c3
    have e1 := (HU.out.cell k1 m1 0).trans h1
    have e2 := (HU.out.cell k2 m2 0).trans h2
    have e4 := (HU.out.cell k4 m4 0).trans h4
    obtain ⟨u, hu⟩ : ∃ u, u = F1.files.length := ⟨_, rfl⟩
    have hlt : i < u := by rw [hu]; exact (List.getElem?_eq_some_iff.1 hx5).1
    have hi100 : i < 100 := by omega
    rw [← hu] at e3
    have hs' : ¬ 9223372036854775807 < (noX n).air.size + s.size := by show ¬ 9223372036854775807 < 0 + s.size; omega
    have HX5 := Lib.hid hx5
    clear hx5 hu h1 h2 h4 c3 CI KS KF
    go_upto_region 2 with fail
    go_region
    go_end0
    have hfin := (HF.out.air HX5.out ((noX n).air ++ s)).below (Below.refl _ _).drew
    rw [HF1.out] at hfin
    refine ⟨rfl, fun k => M k ∨ (w.heap.size ≤ k ∧ k < w5.heap.size), ⟨_, kv, hfin⟩, fun k hk => hk.imp id And.left, (HU.out.set (hMg.imp id And.left) _ _).drew⟩
end Go.Proofs.Ytmoaecicibjmnaa
