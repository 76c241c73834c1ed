/- What (*FS).Append's stroke does where the file is not there. What is told of each file: all, Names, Unsynced, Size. Names, Unsynced, Size. Plain laws: what an Append leaves is sound. (*FS).Append. What (*FS).Rename's stroke does. (*FS).Rename, (*FS).Start, (*FS).Fail. (*FS).Fail. With: what is done to a file system. Plain laws: what is done to a file system leaves it sound. Whether two lists of texts, or of numbers, are the same. Lists of what is done to a file system; Much. does: the chapter's examples. -/
import Derived.Test.YtmoaecicibjmnaaFT
import Derived.Deep.RegionHeld3
import Derived.Shelf.Abstract
import Derived.Test.YtmoaecicibjmnaaHQ
namespace Go.Proofs.Ytmoaecicibjmnaa
open Go.RowKit

def insF (F : FR) (i : Nat) (x : PF) : FR := { F with files := insL F.files i x }
theorem insL_get (L : List PF) (i : Nat) (x : PF) (hi : i ≤ L.length) : (insL L i x)[i]? = some x := by
  unfold insL
  have h1 : (L.take i).length = i := by rw [List.length_take]; omega
  rw [List.getElem?_append_right (by omega), h1, Nat.sub_self]; rfl
theorem own_slice {w : World} {B n sz : Nat} {t : TypeId} {v : Value} {xs : List Value} (h : w.ownsRow B t sz v n xs) : ∃ a c, v = .slice a n c := by
  rcases h.2 with ⟨rfl, rfl⟩ | ⟨g, cap, cur, rfl, _⟩
  · exact ⟨_, _, rfl⟩
  · exact ⟨_, _, rfl⟩
theorem ins_block {M : Nat → Prop} {w w3 : World} {o : Obj} (h : Out M (w.alloc o).drew w3) {b : Nat} (hb : b < w.heap.size) (hn : ¬ M b) : w3.heap[b]? = w.heap[b]? := by
  rw [h.block b (by rw [drew_heap, size_alloc]; omega) hn, drew_heap, heap_alloc, if_neg (by omega)]
theorem ins_cell {M : Nat → Prop} {w w3 : World} {o : Obj} (h : Out M (w.alloc o).drew w3) {b k : Nat} {v : Value} (hc : w.cell? ⟨b, k, none⟩ = some v) (hn : ¬ M b) : w3.cell? ⟨b, k, none⟩ = some v :=
  (World.cell?_of_block (ins_block h (lt_of_cell hc) hn)).trans hc
set_option maxHeartbeats 4000000 in
set_option maxRecDepth 100000 in
theorem append1_new {M : Nat → Prop} {b p0 p1 p2 p3 p4 : Nat} {F : FR} {i : Nat} (w : World) (h : FSAt M w b F) (n s : ByteArray) (hs : s.size ≤ 1048576) (hi : i ≤ F.files.length) (hl : F.files.length ≤ 40)
    (h0 : w.cell? ⟨p0, 0, none⟩ = some (.bool false)) (h1 : w.cell? ⟨p1, 0, none⟩ = some (.pointer (some ⟨b, 0, none⟩))) (h2 : w.cell? ⟨p2, 0, none⟩ = some (.int .i64 (i : Nat))) (h3 : w.cell? ⟨p3, 0, none⟩ = some (.string n)) (h4 : w.cell? ⟨p4, 0, none⟩ = some (.string s))
    (m1 : ¬ M p1) (m2 : ¬ M p2) (m3 : ¬ M p3) (m4 : ¬ M p4) :
    Calls Try.prog 57 #[.pointer (some ⟨p0, 0, none⟩), .pointer (some ⟨p1, 0, none⟩), .pointer (some ⟨p2, 0, none⟩), .pointer (some ⟨p3, 0, none⟩), .pointer (some ⟨p4, 0, none⟩)] w fun e w' => e = .returned (.tuple #[]) ∧ Turned M w w' b (putF (insF F i (noX n)) i (addX (noX n) s)) := by
  obtain ⟨fv, kv, h⟩ := h
  have H := Lib.hid h
  have c3 := h.box.c3
  have k1 := lt_of_cell h1
  have k2 := lt_of_cell h2
  have k4 := lt_of_cell h4
  have hbl := h.box.lt
  have CI : ∀ w1 vb, Below w.heap.size w w1 → w.heap.size ≤ vb → w1.heap[vb]? = some (.cells #[.string n, .string ⟨#[]⟩, .string ⟨#[]⟩] 82 (0, 0)) →
      Hid (Calls Try.prog 58 #[fv, .int .i64 (i : Nat), .slice (some ⟨vb, 0, none⟩) 1 1] w1 fun e w' => InsPost w1 fv F.files i (noX n) e w') := fun w1 vb hb hv hc =>
    Lib.hid (insert_any w1 fv F.files (noX n) i vb 1 hl hi (h.below hb).own hc (fun e => by have := h.lt vb (h.mf vb e).1; omega))
  have hnb : ∀ k, fv.ownBlock = some k → M k ∧ k ≠ b := h.mf
  have HNB := Lib.hid hnb
  clear h hnb
  go_enter Try.func57, Try.ntmps57
  go_upto_region 1 with fail
  have hMf : ∀ p, ¬ M p → ¬ fv.ownBlock = some p := fun p hp e => hp (HNB.out p e).1
  have hbf : ¬ fv.ownBlock = some b := fun e => (HNB.out b e).2 rfl
  have g3 := H.out.box.free 3
  have HMf := Lib.hid hMf
  have Hbf := Lib.hid hbf
  clear hMf hbf
  have n1 : p1 ≠ b := fun e => m1 (by rw [e]; exact H.out.mb)
  have n2 : p2 ≠ b := fun e => m2 (by rw [e]; exact H.out.mb)
  have n3 : p3 ≠ b := fun e => m3 (by rw [e]; exact H.out.mb)
  have KS : ∀ w', Out (fun k => fv.ownBlock = some k) w w' → w'.cell? ⟨p1, 0, none⟩ = some (.pointer (some ⟨b, 0, none⟩)) ∧ w'.cell? ⟨p2, 0, none⟩ = some (.int .i64 (i : Nat)) ∧ w'.cell? ⟨p3, 0, none⟩ = some (.string n) := fun w' ho =>
    ⟨(ho.cell k1 (HMf.out _ m1) 0).trans h1, (ho.cell k2 (HMf.out _ m2) 0).trans h2, (ho.cell (lt_of_cell h3) (HMf.out _ m3) 0).trans h3⟩
  obtain ⟨F1, hF1⟩ : ∃ F1, F1 = insF F i (noX n) := ⟨_, rfl⟩
  have HF1 := Lib.hid hF1
  obtain ⟨q, hq⟩ : ∃ q, (F.files.take i ++ noX n :: F.files.drop i).length = q := ⟨_, rfl⟩
  have HQ := Lib.hid hq
  have KF : ∀ (w3 : World) fa fc, w3.ownsRow 0 82 3 (.slice fa q fc) q (cs (F.files.take i ++ noX n :: F.files.drop i)) →
      (∀ k, (Value.slice fa q fc).ownBlock = some k → fv.ownBlock = some k ∨ ((w.alloc (.cells #[.string n, .string ⟨#[]⟩, .string ⟨#[]⟩] 82)).drew).heap.size ≤ k) →
      Out (fun k => fv.ownBlock = some k) ((w.alloc (.cells #[.string n, .string ⟨#[]⟩, .string ⟨#[]⟩] 82)).drew) w3 → w3.cell? ⟨b, 3, none⟩ = some fv → w3.frozen? ⟨b, 3, none⟩ = false →
      ∃ fv', Hid (FSIn (fun k => M k ∨ (w.heap.size ≤ k ∧ k < (w3.setCell ⟨b, 3, none⟩ (.slice fa q fc)).heap.size)) (w3.setCell ⟨b, 3, none⟩ (.slice fa q fc)) b F1 fv' kv) ∧ Hid (Out M w (w3.setCell ⟨b, 3, none⟩ (.slice fa q fc))) := by
    intro w3 fa fc ho3 hb3 hout3 _ _
    have hs1 : ((w.alloc (.cells #[.string n, .string ⟨#[]⟩, .string ⟨#[]⟩] 82)).drew).heap.size = w.heap.size + 1 := by rw [drew_heap, size_alloc]
    rw [hs1] at hb3
    have hs3 := hout3.size
    rw [hs1] at hs3
    have hbox := H.out.box.eq (ins_block hout3 hbl Hbf.out)
    have hM : ∀ k, (Value.slice fa q fc).ownBlock = some k → k ≠ b ∧ k < w3.heap.size := fun k hk => ⟨by
      rcases hb3 k hk with h | h
      · exact (HNB.out k h).2
      · omega, (ho3.lt k hk).2⟩
    refine ⟨.slice fa q fc, Lib.hid (H.out.re F1 (by rw [hF1]; rfl) _ ?_ ?_ (by rw [size_set]; omega) (fun c hc h1 h2 => ?_) (fun k hk => ⟨?_, (hM k hk).1, (hb3 k hk).imp id fun h => by omega⟩) (fun _ h => .inl h) (fun k hk => ?_)), Lib.hid ?_⟩
    · rw [hF1]; exact hbox.s3 _
    · rw [hF1]
      show World.ownsRow _ 0 _ 3 _ (F.files.take i ++ noX n :: F.files.drop i).length (cs (F.files.take i ++ noX n :: F.files.drop i))
      rw [HQ.out]
      exact own_eq ho3 fun k hk => setCell_heap_other _ _ _ _ _ (hM k hk).1
    · rw [setCell_heap_other _ _ _ _ _ h1]
      exact ins_block hout3 (H.out.lt c hc) h2
    · rcases hb3 k hk with h | h
      · exact .inl (HNB.out k h).1
      · exact .inr ⟨by omega, by rw [size_set]; exact (hM k hk).2⟩
    · rcases hk with hk | hk
      · rw [size_set]; have := H.out.lt k hk; omega
      · exact hk.2
    · have o1 : Out M w ((w.alloc (.cells #[.string n, .string ⟨#[]⟩, .string ⟨#[]⟩] 82)).drew) := ((Out.refl _ _).alloc _).drew
      exact (o1.trans hout3 fun k hk => .inl (HNB.out k hk).1).set (.inl H.out.mb) _ _
  clear hq
  clear hF1
  go_cut [7] from 7 to 18 (fun _ wx => ∃ fv', Hid (FSIn (fun k => M k ∨ (w.heap.size ≤ k ∧ k < wx.heap.size)) wx b F1 fv' kv) ∧ Hid (Out M w wx))
  case first =>
    refine wp_region_held_drew (S := fun w' => w'.cell? ⟨p1, 0, none⟩ = some (.pointer (some ⟨b, 0, none⟩)) ∧ w'.cell? ⟨p2, 0, none⟩ = some (.int .i64 (i : Nat)) ∧ w'.cell? ⟨p3, 0, none⟩ = some (.string n)) (by kernel_rfl) (KS _ (Out.refl _ _).drew) (fun hH => ?_)
    refine wpAnyH_take (i := 0) (v := ?_) rfl (by kernel_rfl) (by kernel_rfl) (by kernel_rfl) (fun _ _ _ h => h) (Or.inl ⟨by rfl, ?hy1⟩) hH ?rs1
    case hy1 => intro w' hS'; obtain ⟨s1, s2, s3⟩ := hS'; (try go_simp); (try (with_reducible rfl))
    case rs1 =>
    refine wpAnyH_take (i := 1) (v := ?_) rfl (by kernel_rfl) (by kernel_rfl) (by kernel_rfl) (fun _ _ _ h => h) (Or.inl ⟨by rfl, ?hy2⟩) hH ?rs2
    case hy2 => intro w' hS'; obtain ⟨s1, s2, s3⟩ := hS'; (try go_simp); (try (with_reducible rfl))
    case rs2 =>
    refine wpAnyH_take (i := 2) (v := ?_) rfl (by kernel_rfl) (by kernel_rfl) (by kernel_rfl) (fun _ _ _ h => h) (Or.inl ⟨by rfl, ?hy3⟩) hH ?rs3
    case hy3 => intro w' hS'; obtain ⟨s1, s2, s3⟩ := hS'; (try go_simp); (try (with_reducible rfl))
    case rs3 =>
    refine wpAnyH_take (i := 3) (v := ?_) rfl (by kernel_rfl) (by kernel_rfl) (by kernel_rfl) (fun _ _ _ h => h) (Or.inl ⟨by rfl, ?hy4⟩) hH ?rs4
    case hy4 => intro w' hS'; obtain ⟨s1, s2, s3⟩ := hS'; (try go_simp); (try (with_reducible rfl))
    case rs4 =>
    refine wpAnyH_take (i := 5) (v := ?_) rfl (by kernel_rfl) (by kernel_rfl) (by kernel_rfl) (fun _ _ _ h => h) (Or.inl ⟨by rfl, ?hy5⟩) hH ?rs5
    case hy5 => intro w' hS'; obtain ⟨s1, s2, s3⟩ := hS'; (try go_simp); (try (with_reducible rfl))
    case rs5 =>
    refine wpAnyH_take (i := 6) (v := ?_) rfl (by kernel_rfl) (by kernel_rfl) (by kernel_rfl) (fun _ _ _ h => h) (Or.inl ⟨by rfl, ?hy6⟩) hH ?rs6
    case hy6 => intro w' hS'; obtain ⟨s1, s2, s3⟩ := hS'; (try go_simp); (try (with_reducible rfl))
    case rs6 =>
    refine wpAnyH_take (i := 7) (v := ?_) rfl (by kernel_rfl) (by kernel_rfl) (by kernel_rfl) (fun _ _ _ h => h) (Or.inl ⟨by rfl, ?hy7⟩) hH ?rs7
    case hy7 => intro w' hS'; obtain ⟨s1, s2, s3⟩ := hS'; (try go_simp); (try (with_reducible rfl))
    case rs7 =>
    refine wpAnyH_ready (rs := [4, 8]) (by kernel_rfl) (by simp) ?_
    refine AllReadyH.cons rfl (fun K hK => ?_) (AllReadyH.cons rfl (fun K hK => ?_) AllReadyH.nil)
    · go_simp
      refine hK.out _ _ hH (fun hH => ?_)
      clear hK K
      refine wpAnyH_ready (rs := [8]) (by kernel_rfl) (by simp) ?_
      refine AllReadyH.cons rfl (fun K hK => ?_) AllReadyH.nil
      go_simp
      refine hK.out _ _ (KS _ (Out.drew (Out.alloc (Out.refl _ _) _))) (fun hH => ?_)
      clear hK K
      refine wpAnyH_ready (rs := [9]) (by kernel_rfl) (by simp) ?_
      refine AllReadyH.cons rfl (fun K hK => ?_) AllReadyH.nil
      go_simp
      refine (CI _ _ ((Below.refl _ _).alloc (Nat.le_refl _) _).drew (Nat.le_refl _) (by rw [drew_heap, heap_alloc, if_pos rfl])).out.mono ?_
      rintro e w3 ⟨fv', rfl, ho3, hb3, hout3⟩
      rw [HQ.out] at ho3
      obtain ⟨fa, fc, rfl⟩ := own_slice ho3
      have e3 := ins_cell hout3 c3 Hbf.out
      have g4 := (World.frozen?_of_block (a := ⟨b, 3, none⟩) (ins_block hout3 hbl Hbf.out)).trans g3
      have HO3 := Lib.hid ho3
      have HB3 := Lib.hid hb3
      have HU3 := Lib.hid hout3
      have hH3 := KS _ (Out.trans (Out.drew (Out.alloc (Out.refl _ _) _)) hout3 (fun _ h => .inl h))
      clear ho3 hb3 hout3
      go_wp2_with fail
      refine hK.out _ _ hH3 (fun hH => ?_)
      clear hK K
      refine wpAnyH_take (i := 10) (v := ?_) rfl (by kernel_rfl) (by kernel_rfl) (by kernel_rfl) (fun _ _ _ h => h) (Or.inl ⟨by rfl, ?hy8⟩) hH ?rs8
      case hy8 => intro w' hS'; obtain ⟨s1, s2, s3⟩ := hS'; (try go_simp); (try (with_reducible rfl))
      case rs8 =>
      refine wpAnyH_take (i := 11) (v := ?_) rfl (by kernel_rfl) (by kernel_rfl) (by kernel_rfl) (fun _ _ _ h => h) (Or.inl ⟨by rfl, ?hy9⟩) hH ?rs9
      case hy9 => intro w' hS'; obtain ⟨s1, s2, s3⟩ := hS'; (try go_simp); (try (with_reducible rfl))
      case rs9 =>
      refine wpAnyH_ready (rs := [12]) (by kernel_rfl) (by simp) ?_
      refine AllReadyH.cons rfl (fun K hK => ?_) AllReadyH.nil
      go_simp
      refine hK.out _ _ ⟨by rw [World.cell?_of_block (setCell_heap_other _ _ _ _ _ n1)]; exact hH3.1, by rw [World.cell?_of_block (setCell_heap_other _ _ _ _ _ n2)]; exact hH3.2.1, by rw [World.cell?_of_block (setCell_heap_other _ _ _ _ _ n3)]; exact hH3.2.2⟩ (fun hH => ?_)
      clear hK K
      refine wpAnyH_done (by kernel_rfl) ?_ _
      go_wp2_with fail
      go_meet
      exact KF w3 fa fc HO3.out HB3.out HU3.out e3 g4
    · go_simp
      refine hK.out _ _ (KS _ (Out.drew (Out.alloc (Out.refl _ _) _))) (fun hH => ?_)
      clear hK K
      refine wpAnyH_ready (rs := [4]) (by kernel_rfl) (by simp) ?_
      refine AllReadyH.cons rfl (fun K hK => ?_) AllReadyH.nil
      go_simp
      refine hK.out _ _ hH (fun hH => ?_)
      clear hK K
      refine wpAnyH_ready (rs := [9]) (by kernel_rfl) (by simp) ?_
      refine AllReadyH.cons rfl (fun K hK => ?_) AllReadyH.nil
      go_simp
      refine (CI _ _ ((Below.refl _ _).alloc (Nat.le_refl _) _).drew (Nat.le_refl _) (by rw [drew_heap, heap_alloc, if_pos rfl])).out.mono ?_
      rintro e w3 ⟨fv', rfl, ho3, hb3, hout3⟩
      rw [HQ.out] at ho3
      obtain ⟨fa, fc, rfl⟩ := own_slice ho3
      have e3 := ins_cell hout3 c3 Hbf.out
      have g4 := (World.frozen?_of_block (a := ⟨b, 3, none⟩) (ins_block hout3 hbl Hbf.out)).trans g3
      have HO3 := Lib.hid ho3
      have HB3 := Lib.hid hb3
      have HU3 := Lib.hid hout3
      have hH3 := KS _ (Out.trans (Out.drew (Out.alloc (Out.refl _ _) _)) hout3 (fun _ h => .inl h))
      clear ho3 hb3 hout3
      go_wp2_with fail
      refine hK.out _ _ hH3 (fun hH => ?_)
      clear hK K
      refine wpAnyH_take (i := 10) (v := ?_) rfl (by kernel_rfl) (by kernel_rfl) (by kernel_rfl) (fun _ _ _ h => h) (Or.inl ⟨by rfl, ?hy10⟩) hH ?rs10
      case hy10 => intro w' hS'; obtain ⟨s1, s2, s3⟩ := hS'; (try go_simp); (try (with_reducible rfl))
      case rs10 =>
      refine wpAnyH_take (i := 11) (v := ?_) rfl (by kernel_rfl) (by kernel_rfl) (by kernel_rfl) (fun _ _ _ h => h) (Or.inl ⟨by rfl, ?hy11⟩) hH ?rs11
      case hy11 => intro w' hS'; obtain ⟨s1, s2, s3⟩ := hS'; (try go_simp); (try (with_reducible rfl))
      case rs11 =>
      refine wpAnyH_ready (rs := [12]) (by kernel_rfl) (by simp) ?_
      refine AllReadyH.cons rfl (fun K hK => ?_) AllReadyH.nil
      go_simp
      refine hK.out _ _ ⟨by rw [World.cell?_of_block (setCell_heap_other _ _ _ _ _ n1)]; exact hH3.1, by rw [World.cell?_of_block (setCell_heap_other _ _ _ _ _ n2)]; exact hH3.2.1, by rw [World.cell?_of_block (setCell_heap_other _ _ _ _ _ n3)]; exact hH3.2.2⟩ (fun hH => ?_)
      clear hK K
      refine wpAnyH_done (by kernel_rfl) ?_ _
      go_wp2_with fail
      go_meet
      exact KF w3 fa fc HO3.out HB3.out HU3.out e3 g4
  case rest =>
    obtain ⟨fv', HF, HU⟩ := hcut
    obtain ⟨w5, rfl⟩ : ∃ w5 : World, w5 = wc := ⟨_, rfl⟩
    have hx5 : F1.files[i]? = some (noX n) := by rw [HF1.out]; exact insL_get F.files i (noX n) hi
    obtain ⟨g, cap, rfl, hg, hMg, hgb, d0, d1, d2, hf⟩ := HF.out.file hx5
    have e3 := HF.out.box.c3
    have e1 := (HU.out.cell k1 m1 0).trans h1
    have e2 := (HU.out.cell k2 m2 0).trans h2
    have e4 := (HU.out.cell k4 m4 0).trans h4
    obtain ⟨u, hu⟩ : ∃ u, u = F1.files.length := ⟨_, rfl⟩
    have hlt : i < u := by rw [hu]; exact (List.getElem?_eq_some_iff.1 hx5).1
    have hi100 : i < 100 := by omega
    rw [← hu] at e3
    have hs' : ¬ 9223372036854775807 < (noX n).air.size + s.size := by show ¬ 9223372036854775807 < 0 + s.size; omega
    have HX5 := Lib.hid hx5
    clear hx5 hu h1 h2 h4 c3 CI KS KF
    go_upto_region 2 with fail
    go_region
    go_end0
    have hfin := (HF.out.air HX5.out ((noX n).air ++ s)).below (Below.refl _ _).drew
    rw [HF1.out] at hfin
    refine ⟨rfl, fun k => M k ∨ (w.heap.size ≤ k ∧ k < w5.heap.size), ⟨_, kv, hfin⟩, fun k hk => hk.imp id And.left, (HU.out.set (hMg.imp id And.left) _ _).drew⟩
end Go.Proofs.Ytmoaecicibjmnaa

namespace Go.Proofs.Ytmoaecicibjmnaa
open Go.RowKit

theorem own_below {w w' : World} {B : Nat} {e : TypeId} {sz : Nat} {v : Value} {n : Nat} {xs : List Value} (h : w.ownsRow B e sz v n xs) (hb : Below w.heap.size w w') : w'.ownsRow B e sz v n xs :=
  own_eq h fun k hk => hb.block k (h.lt k hk).2
theorem new_one (w : World) (v : Value) (t : TypeId) : (w.alloc (.cells #[v] t (0, 0))).cell? ⟨w.heap.size, 0, none⟩ = some v := by
  rw [cell_at (by rw [heap_alloc, if_pos rfl])]; rfl
/-- append of one cell to a row of the call's own. -/
theorem wpList_append_one {P : Program} {w : World} {ops : Array Oper} {rest : List Oper} {o : Oper} {a : Act} {Q : Exit → Act → World → Prop} (hg : o.guard = none) (s x : Operand) (t : TypeId)
    (hop : o.op = Op.call { callee := Callee.builtin Builtin.append, args := #[s, x], argTypes := #[t, t] })
    (e : TypeId) (z : Value) (bytes : Nat) (ht : P.underlying t = some (.slice e)) (hinfo : (P.info? e).map (fun i => (i.zero, i.size, i.bytes)) = some (some z, 1, bytes)) (hz : z.cells.size = 1)
    (B : Nat) (v : Value) (n : Nat) (xs : List Value) (hs : a.eval s = v) (hown : w.ownsRow B e 1 v n xs)
    (nb c : Nat) (hx : a.eval x = .slice (some ⟨nb, 0, none⟩) 1 c) (u : Value) (hu : w.cell? ⟨nb, 0, none⟩ = some u) (h1 : u.oneCell' = true)
    (hn : n < 1000000) (hby : bytes ≤ 1000) (hB : B ≤ w.heap.size)
    (hK : ∀ g c w', Hid (w'.ownsRow B e 1 (.slice (some ⟨g, 0, none⟩) (n + 1) c) (n + 1) (xs ++ [u])) → Hid (w.grownBy w' v.ownBlock) → Below B w w' → wpList P ops Q rest (a.put o.dst (.slice (some ⟨g, 0, none⟩) (n + 1) c)) w') :
    wpList P ops Q (o :: rest) a w := by
  obtain ⟨i, hi, hzz⟩ := Option.map_eq_some_iff.1 hinfo
  simp only [Prod.mk.injEq] at hzz
  obtain ⟨hz1, hs1, hb1⟩ := hzz
  refine wpList_append_own w hg s x t hop B e i z 1 bytes ht hi hz1 hs1 hb1 hz (by decide) v n xs hs hown ⟨nb, 0, none⟩ 1 c [u] hx rfl
    (fun j u' hj => by cases j with | zero => simp at hj; rw [← hj]; exact hu | succ j => simp at hj) (fun u' hu' => by simp at hu'; rw [hu']; exact h1) (by unfold maxLen; omega) (by have : (n + 1) * bytes ≤ 1000000 * 1000 := Nat.mul_le_mul (by omega) hby; omega) hB ?_
  intro v' w' r1 r2 _
  have hbel : Below B w w' := (Below.refl B w).grown r2 hB fun k hk => (hown.lt k hk).1
  rcases r1.2 with ⟨_, h0⟩ | ⟨g, c', cur, hv, h⟩
  · omega
  · subst hv
    exact hK g c' w' r1 r2 hbel

set_option maxHeartbeats 4000000 in
set_option maxRecDepth 100000 in
theorem all_int {M : Nat → Prop} {w : World} {b : Nat} {F : FR} (h : FSAt M w b F) (hG : Sound F) (g : Nat) (eg : ∀ args w, (callFunc g args).run Try.prog w = .ok (.enter g args) w) (f : PF → Int)
    (hc : ∀ x ∈ F.files, ∀ w1, Calls Try.prog g #[x.val] w1 fun e w' => e = .returned (.int .i64 (f x)) ∧ Below w1.heap.size w1 w') :
    Calls Try.prog 45 #[.pointer (some ⟨b, 0, none⟩), .func (.func g) #[] #[]] w fun e w' => (∃ v, e = .returned v ∧ w'.ownsRow w.heap.size 3 1 v F.files.length (F.files.map fun x => Value.int .i64 (f x))) ∧ Below w.heap.size w w' := by
  obtain ⟨fv, kv, h⟩ := h
  have H := Lib.hid h
  have HC := Lib.hid hc
  have c3 := h.box.c3
  have hbl := h.box.lt
  have hcnt := hG.cnt
  obtain ⟨fa, fc, rfl⟩ : ∃ fa fc, fv = .slice fa F.files.length fc := own_slice h.own
  obtain ⟨q, hq⟩ : ∃ q, q = F.files.length := ⟨_, rfl⟩
  have HQ := Lib.hid hq
  rw [← hq] at c3 hcnt ⊢
  clear hc hG h hq
  go_enter Try.func45, Try.ntmps45
  go_wp2_with fail
  go_loopw [15, 5, 7] (fun i out _ wr => ∃ k : Nat, k ≤ q ∧ i = .int .i64 (k : Nat) ∧ Hid (wr.ownsRow w.heap.size 3 1 out k ((F.files.take k).map fun x => Value.int .i64 (f x))) ∧ Below w.heap.size w wr) (fun i _ _ _ => q - (intOf i).toNat)
  case atStart => exact ⟨0, Nat.zero_le _, rfl, Lib.hid (World.ownsRow_nil _ _ _ _), Below.refl _ _⟩
  case round =>
    obtain ⟨k, hkq, rfl, hown, hbel⟩ := hrel
    by_cases hlt : k < q
    · obtain ⟨x, hx⟩ := get_of_lt F.files k (by rw [← HQ.out]; exact hlt)
      obtain ⟨g1, cap, he, h1, h2, hg1, hcell, hfr⟩ := own_files (H.out.below hbel).own (by intro e; rw [e] at hx; simp at hx)
      injection he with e1 e2 e3
      subst e1 e3
      clear e2 hfr
      obtain ⟨d0, d1, d2⟩ := hcell k x hx
      have C1 := fun w1 => Lib.hid (HC.out x (List.mem_of_getElem? hx) w1)
      have hts : (F.files.take (k + 1)).map (fun x => Value.int .i64 (f x)) = (F.files.take k).map (fun x => Value.int .i64 (f x)) ++ [Value.int .i64 (f x)] := by
        rw [List.take_add_one, hx, List.map_append]; rfl
      obtain ⟨z, hz⟩ : ∃ z, z = f x := ⟨_, rfl⟩
      rw [← hz] at hts
      simp only [← hz] at C1
      have HTS := Lib.hid hts
      clear hcell hx hts hz
      go_wp2_with fail
      (with_reducible refine (C1 _).out.mono ?_); rintro e w4 ⟨rfl, hb4⟩
      have hown4 := Lib.hid (own_below (hown.out.alloc (.cells #[.string x.name, .string x.pl, .string x.air] 82)) hb4)
      have hb5 : Below w.heap.size w w4 := (hbel.alloc hbel.size _).trans (hb4.mono (by rw [size_alloc]; have := hbel.size; omega))
      have hB2 : w.heap.size ≤ (w4.alloc (.cells #[.int .i64 z] 3)).heap.size := by rw [size_alloc]; have := hb5.size; omega
      go_wp2_with (at_builtin; refine wpList_append_one rfl (.tmp 19) (.tmp 23) 33 rfl 3 (.int .i64 0) 8 (by kernel_rfl) (by kernel_rfl) rfl w.heap.size u5 k _ (by simp [Act.eval]) (hown4.out.alloc _) w4.heap.size 1 (by simp [Act.eval]) (.int .i64 z) (new_one _ _ _) rfl (by omega) (by decide) hB2 ?_; intro g7 c7 w7 hown7 hgr7 hb7)
      go_roundw
      case rel => exact ⟨k + 1, by omega, by go_num, Lib.hid (by rw [HTS.out]; exact hown7.out), (hb5.alloc hb5.size _).trans hb7⟩
      case measure => simp [intOf]; omega
    · obtain rfl : k = q := by omega
      go_wp2_with fail
      go_ret
      refine ⟨⟨_, rfl, ?_⟩, hbel⟩
      have := hown.out
      rw [List.take_of_length_le (by rw [HQ.out]; exact Nat.le_refl _)] at this
      exact this
set_option maxHeartbeats 4000000 in
set_option maxRecDepth 100000 in
theorem all_string {M : Nat → Prop} {w : World} {b : Nat} {F : FR} (h : FSAt M w b F) (hG : Sound F) (g : Nat) (eg : ∀ args w, (callFunc g args).run Try.prog w = .ok (.enter g args) w) (f : PF → ByteArray)
    (hc : ∀ x ∈ F.files, ∀ w1, Calls Try.prog g #[x.val] w1 fun e w' => e = .returned (.string (f x)) ∧ Below w1.heap.size w1 w') :
    Calls Try.prog 48 #[.pointer (some ⟨b, 0, none⟩), .func (.func g) #[] #[]] w fun e w' => (∃ v, e = .returned v ∧ w'.ownsRow w.heap.size 9 1 v F.files.length (F.files.map fun x => Value.string (f x))) ∧ Below w.heap.size w w' := by
  obtain ⟨fv, kv, h⟩ := h
  have H := Lib.hid h
  have HC := Lib.hid hc
  have c3 := h.box.c3
  have hbl := h.box.lt
  have hcnt := hG.cnt
  obtain ⟨fa, fc, rfl⟩ : ∃ fa fc, fv = .slice fa F.files.length fc := own_slice h.own
  obtain ⟨q, hq⟩ : ∃ q, q = F.files.length := ⟨_, rfl⟩
  have HQ := Lib.hid hq
  rw [← hq] at c3 hcnt ⊢
  clear hc hG h hq
  go_enter Try.func48, Try.ntmps48
  go_wp2_with fail
  go_loopw [15, 5, 7] (fun i out _ wr => ∃ k : Nat, k ≤ q ∧ i = .int .i64 (k : Nat) ∧ Hid (wr.ownsRow w.heap.size 9 1 out k ((F.files.take k).map fun x => Value.string (f x))) ∧ Below w.heap.size w wr) (fun i _ _ _ => q - (intOf i).toNat)
  case atStart => exact ⟨0, Nat.zero_le _, rfl, Lib.hid (World.ownsRow_nil _ _ _ _), Below.refl _ _⟩
  case round =>
    obtain ⟨k, hkq, rfl, hown, hbel⟩ := hrel
    by_cases hlt : k < q
    · obtain ⟨x, hx⟩ := get_of_lt F.files k (by rw [← HQ.out]; exact hlt)
      obtain ⟨g1, cap, he, h1, h2, hg1, hcell, hfr⟩ := own_files (H.out.below hbel).own (by intro e; rw [e] at hx; simp at hx)
      injection he with e1 e2 e3
      subst e1 e3
      clear e2 hfr
      obtain ⟨d0, d1, d2⟩ := hcell k x hx
      have C1 := fun w1 => Lib.hid (HC.out x (List.mem_of_getElem? hx) w1)
      have hts : (F.files.take (k + 1)).map (fun x => Value.string (f x)) = (F.files.take k).map (fun x => Value.string (f x)) ++ [Value.string (f x)] := by
        rw [List.take_add_one, hx, List.map_append]; rfl
      obtain ⟨z, hz⟩ : ∃ z, z = f x := ⟨_, rfl⟩
      rw [← hz] at hts
      simp only [← hz] at C1
      have HTS := Lib.hid hts
      clear hcell hx hts hz
      go_wp2_with fail
      (with_reducible refine (C1 _).out.mono ?_); rintro e w4 ⟨rfl, hb4⟩
      have hown4 := Lib.hid (own_below (hown.out.alloc (.cells #[.string x.name, .string x.pl, .string x.air] 82)) hb4)
      have hb5 : Below w.heap.size w w4 := (hbel.alloc hbel.size _).trans (hb4.mono (by rw [size_alloc]; have := hbel.size; omega))
      have hB2 : w.heap.size ≤ (w4.alloc (.cells #[.string z] 9)).heap.size := by rw [size_alloc]; have := hb5.size; omega
      go_wp2_with (at_builtin; refine wpList_append_one rfl (.tmp 19) (.tmp 23) 30 rfl 9 (.string ByteArray.empty) 16 (by kernel_rfl) (by kernel_rfl) rfl w.heap.size u5 k _ (by simp [Act.eval]) (hown4.out.alloc _) w4.heap.size 1 (by simp [Act.eval]) (.string z) (new_one _ _ _) rfl (by omega) (by decide) hB2 ?_; intro g7 c7 w7 hown7 hgr7 hb7)
      go_roundw
      case rel => exact ⟨k + 1, by omega, by go_num, Lib.hid (by rw [HTS.out]; exact hown7.out), (hb5.alloc hb5.size _).trans hb7⟩
      case measure => simp [intOf]; omega
    · obtain rfl : k = q := by omega
      go_wp2_with fail
      go_ret
      refine ⟨⟨_, rfl, ?_⟩, hbel⟩
      have := hown.out
      rw [List.take_of_length_le (by rw [HQ.out]; exact Nat.le_refl _)] at this
      exact this
end Go.Proofs.Ytmoaecicibjmnaa

namespace Go.Proofs.Ytmoaecicibjmnaa
open Go.RowKit

set_option maxRecDepth 100000 in
theorem size1_any (x : PF) (hx : x.pl.size + x.air.size ≤ 1048576) (w : World) : Calls Try.prog 46 #[x.val] w fun e w' => e = .returned (.int .i64 ((x.pl.size + x.air.size : Nat) : Int)) ∧ Below w.heap.size w w' := by
  have C1 := fun w1 => Lib.hid (bytes_any x hx w1)
  have hb : x.bytes.size = x.pl.size + x.air.size := by simp [PF.bytes]
  obtain ⟨S, hS⟩ : ∃ S, S = x.bytes := ⟨_, rfl⟩
  rw [← hS] at hb
  simp only [← hS] at C1
  have HB := Lib.hid hb
  obtain ⟨m, p, a⟩ := x
  clear hb hS
  go_enter Try.func46, Try.ntmps46
  go_wp2_with fail
  (with_reducible refine (C1 _).out.mono ?_); rintro e w1 ⟨rfl, hb1⟩
  go_wp2_with fail
  go_ret
  exact ⟨by rw [← HB.out]; rfl, below_tr ((Below.refl _ _).alloc (Nat.le_refl _) _) hb1⟩
set_option maxRecDepth 100000 in
theorem names1_any (x : PF) (w : World) : Calls Try.prog 49 #[x.val] w fun e w' => e = .returned (.string x.name) ∧ Below w.heap.size w w' := by
  obtain ⟨m, p, a⟩ := x
  go_enter Try.func49, Try.ntmps49
  go_wp2
  go_ret
  exact ⟨rfl, (Below.refl _ _).alloc (Nat.le_refl _) _⟩
set_option maxRecDepth 100000 in
theorem unsynced1_any (x : PF) (w : World) : Calls Try.prog 75 #[x.val] w fun e w' => e = .returned (.int .i64 (x.air.size : Nat)) ∧ Below w.heap.size w w' := by
  obtain ⟨m, p, a⟩ := x
  go_enter Try.func75, Try.ntmps75
  go_wp2
  go_ret
  exact ⟨rfl, (Below.refl _ _).alloc (Nat.le_refl _) _⟩
set_option maxRecDepth 100000 in
theorem names_any {M : Nat → Prop} {w : World} {b : Nat} {F : FR} (h : FSAt M w b F) (hG : Sound F) :
    Calls Try.prog 17 #[.pointer (some ⟨b, 0, none⟩)] w fun e w' => (∃ v, e = .returned v ∧ w'.ownsRow w.heap.size 9 1 v F.files.length (F.files.map fun x => Value.string x.name)) ∧ Below w.heap.size w w' := by
  have C1 := Lib.hid (all_string h hG 49 (enters_of Try.func49 (by kernel_rfl) rfl) (fun x => x.name) (fun x _ w1 => names1_any x w1))
  clear h hG
  go_enter Try.func17, Try.ntmps17
  go_wp2_with fail
  (with_reducible refine C1.out.mono ?_); rintro e w2 ⟨⟨v, rfl, ho⟩, hb2⟩
  have HO := Lib.hid ho
  clear ho
  go_wp2_with fail
  go_ret
  exact ⟨⟨v, rfl, HO.out⟩, hb2⟩
set_option maxRecDepth 100000 in
theorem unsynced_any {M : Nat → Prop} {w : World} {b : Nat} {F : FR} (h : FSAt M w b F) (hG : Sound F) :
    Calls Try.prog 33 #[.pointer (some ⟨b, 0, none⟩)] w fun e w' => (∃ v, e = .returned v ∧ w'.ownsRow w.heap.size 3 1 v F.files.length (F.files.map fun x => Value.int .i64 ((x.air.size : Nat) : Int))) ∧ Below w.heap.size w w' := by
  have C1 := Lib.hid (all_int h hG 75 (enters_of Try.func75 (by kernel_rfl) rfl) (fun x => ((x.air.size : Nat) : Int)) (fun x _ w1 => unsynced1_any x w1))
  clear h hG
  go_enter Try.func33, Try.ntmps33
  go_wp2_with fail
  (with_reducible refine C1.out.mono ?_); rintro e w2 ⟨⟨v, rfl, ho⟩, hb2⟩
  have HO := Lib.hid ho
  clear ho
  go_wp2_with fail
  go_ret
  exact ⟨⟨v, rfl, HO.out⟩, hb2⟩
theorem total_take (L : List PF) (k : Nat) (x : PF) (h : L[k]? = some x) : total (L.take (k + 1)) = total (L.take k) + (x.pl.size + x.air.size) := by
  unfold total
  rw [List.take_add_one, h, List.map_append, List.sum_append]; simp
theorem total_le (L : List PF) (k : Nat) : total (L.take k) ≤ total L := by
  have h : L = L.take k ++ L.drop k := (List.take_append_drop k L).symm
  have h2 : total L = total (L.take k) + total (L.drop k) := by
    rw (occs := .pos [1]) [h]
    unfold total
    rw [List.map_append, List.sum_append]
  omega
set_option maxHeartbeats 4000000 in
set_option maxRecDepth 100000 in
theorem size_any {M : Nat → Prop} {w : World} {b : Nat} {F : FR} (h : FSAt M w b F) (hG : Sound F) :
    Calls Try.prog 16 #[.pointer (some ⟨b, 0, none⟩)] w fun e w' => e = .returned (.int .i64 (total F.files : Nat)) ∧ Below w.heap.size w w' := by
  have C1 := Lib.hid (all_int h hG 46 (enters_of Try.func46 (by kernel_rfl) rfl) (fun x => ((x.pl.size + x.air.size : Nat) : Int)) (fun x hx w1 => size1_any x (hG.size hx) w1))
  have hT : total F.files ≤ 1048576 := by have := hG.sum; have := hG.lim2; omega
  have hcnt := hG.cnt
  obtain ⟨q, hq⟩ : ∃ q, q = F.files.length := ⟨_, rfl⟩
  have HQ := Lib.hid hq
  obtain ⟨T, hTT⟩ : ∃ T, T = total F.files := ⟨_, rfl⟩
  have HT := Lib.hid hTT
  rw [← hq] at C1 hcnt
  rw [← hTT] at hT ⊢
  clear h hG hq hTT
  go_enter Try.func16, Try.ntmps16
  go_wp2_with fail
  (with_reducible refine C1.out.mono ?_); rintro e w2 ⟨⟨v, rfl, ho⟩, hb2⟩
  obtain ⟨fa, fc, rfl⟩ := own_slice ho
  have HO := Lib.hid ho
  clear ho
  go_wp2_with fail
  go_loopw [9, 3, 5] (fun i s _ wr => ∃ k m : Nat, k ≤ q ∧ i = .int .i64 (k : Nat) ∧ s = .int .i64 (m : Nat) ∧ Hid (m = total (F.files.take k)) ∧ wr = w2) (fun i _ _ _ => q - (intOf i).toNat)
  case atStart => exact ⟨0, 0, Nat.zero_le _, rfl, rfl, Lib.hid rfl, rfl⟩
  case round =>
    obtain ⟨k, m, hkq, rfl, rfl, hm, hw⟩ := hrel
    subst hw
    have hmT : m ≤ T := by rw [hm.out, HT.out]; exact total_le _ _
    by_cases hlt : k < q
    · obtain ⟨x, hx⟩ := get_of_lt F.files k (by rw [← HQ.out]; exact hlt)
      obtain ⟨g, cap, he, hg⟩ : ∃ g cap, fa = some ⟨g, 0, none⟩ ∧ wr.cell? ⟨g, k, none⟩ = some (.int .i64 ((x.pl.size + x.air.size : Nat) : Int)) ∧ cap = 0 := by
        rcases HO.out.2 with ⟨he, h0⟩ | ⟨g, cap, cur, he, _⟩
        · omega
        · injection he with e1 e2 e3
          subst e1
          refine ⟨g, 0, rfl, ?_, rfl⟩
          rw [HO.out.cellAt k (by omega), List.getElem?_map, hx]; rfl
      obtain ⟨hcell, _⟩ := hg
      subst he
      have hs := total_take F.files k x hx
      obtain ⟨z, hz⟩ : ∃ z, z = x.pl.size + x.air.size := ⟨_, rfl⟩
      rw [← hz] at hs hcell
      have hmz : m + z ≤ T := by rw [hm.out, ← hs, HT.out]; exact total_le _ _
      have HS := Lib.hid hs
      clear hs hz hx
      go_wp2_with fail
      go_roundw
      case rel => exact ⟨k + 1, m + z, by omega, by go_num, by go_num, Lib.hid (by rw [HS.out, hm.out]), trivial⟩
      case measure => simp [intOf]; omega
    · obtain rfl : k = q := by omega
      go_wp2_with fail
      go_ret
      refine ⟨?_, hb2⟩
      have : m = T := by rw [hm.out, HT.out, List.take_of_length_le (by rw [HQ.out]; exact Nat.le_refl _)]
      rw [this]; rfl
end Go.Proofs.Ytmoaecicibjmnaa

namespace Go.Proofs.Ytmoaecicibjmnaa
open Go.RowKit

theorem place_before : ∀ (L : List PF) (n : ByteArray) (y : PF), y ∈ L.take (place L n) → ltN y.name n = true
  | [], _, y, h => by simp at h
  | x :: L, n, y, h => by
    unfold place at h
    rw [List.takeWhile_cons] at h
    by_cases hx : ltN x.name n = true
    · rw [if_pos hx, List.length_cons, List.take_succ_cons] at h
      rcases List.mem_cons.1 h with rfl | h
      · exact hx
      · exact place_before L n y h
    · rw [if_neg hx] at h; simp at h
theorem place_at : ∀ (L : List PF) (n : ByteArray) (y : PF), L[place L n]? = some y → ltN y.name n = false
  | [], _, y, h => by simp at h
  | x :: L, n, y, h => by
    unfold place at h
    rw [List.takeWhile_cons] at h
    by_cases hx : ltN x.name n = true
    · rw [if_pos hx, List.length_cons, List.getElem?_cons_succ] at h
      exact place_at L n y h
    · rw [if_neg hx] at h
      simp at h
      subst h
      cases e : ltN x.name n; rfl; exact absurd e hx
theorem rising_ins {L : List PF} (hL : Rising L) (x : PF) (h : isAt L x.name = false) : Rising (insL L (place L x.name) x) := by
  unfold insL
  have hsp : Rising (L.take (place L x.name) ++ L.drop (place L x.name)) := by rw [List.take_append_drop]; exact hL
  obtain ⟨h1, h2, h3⟩ := List.pairwise_append.1 hsp
  have hd : ∀ y ∈ L.drop (place L x.name), ltN x.name y.name = true := by
    cases hd : L.drop (place L x.name) with
    | nil => intro y hy; cases hy
    | cons z R =>
      have hz : L[place L x.name]? = some z := by
        have := congrArg (·[0]?) hd
        simpa using this
      have hlz : ltN x.name z.name = true := by
        have h4 := place_at L x.name z hz
        cases e : ltN x.name z.name with
        | true => rfl
        | false =>
          have h5 := ltN_tri h4 e
          unfold isAt at h
          rw [hz] at h
          simp at h
          exact absurd h5 h
      intro y hy
      rw [hd] at h2
      rcases List.mem_cons.1 hy with rfl | hy
      · exact hlz
      · exact ltN_trans hlz ((List.pairwise_cons.1 h2).1 y hy)
  refine List.pairwise_append.2 ⟨h1, List.pairwise_cons.2 ⟨hd, h2⟩, fun a ha c hc => ?_⟩
  rcases List.mem_cons.1 hc with rfl | hc
  · exact place_before L c.name a ha
  · exact h3 a ha c hc
theorem total_app (A B : List PF) : total (A ++ B) = total A + total B := by unfold total; rw [List.map_append, List.sum_append]
theorem total_cons (x : PF) (B : List PF) : total (x :: B) = (x.pl.size + x.air.size) + total B := by unfold total; rw [List.map_cons, List.sum_cons]
theorem total_ins (L : List PF) (i : Nat) (x : PF) : total (insL L i x) = total L + (x.pl.size + x.air.size) := by
  unfold insL
  rw [total_app, total_cons]
  have h := total_app (L.take i) (L.drop i)
  rw [List.take_append_drop] at h
  omega
theorem total_set (L : List PF) (i : Nat) (x y : PF) (h : L[i]? = some x) : total (L.set i y) + (x.pl.size + x.air.size) = total L + (y.pl.size + y.air.size) := by
  have hi := (List.getElem?_eq_some_iff.1 h).1
  have e1 : L = L.take i ++ x :: L.drop (i + 1) := by
    rw [← (List.getElem?_eq_some_iff.1 h).2, ← List.drop_eq_getElem_cons hi, List.take_append_drop]
  have e2 : L.set i y = L.take i ++ y :: L.drop (i + 1) := List.set_eq_take_append_cons_drop .. |>.trans (if_pos hi)
  rw [e2]
  rw (occs := .pos [3]) [e1]
  rw [total_app, total_app, total_cons, total_cons]
  omega
theorem mem_ins {L : List PF} {i : Nat} {x y : PF} (h : y ∈ insL L i x) : y = x ∨ y ∈ L := by
  unfold insL at h
  rcases List.mem_append.1 h with h | h
  · exact .inr (List.mem_of_mem_take h)
  · rcases List.mem_cons.1 h with h | h
    · exact .inl h
    · exact .inr (List.mem_of_mem_drop h)
theorem rising_set {L : List PF} (hL : Rising L) (i : Nat) (x y : PF) (h : L[i]? = some x) (hn : y.name = x.name) : Rising (L.set i y) := by
  have hm : (L.set i y).map PF.name = L.map PF.name := by
    apply List.ext_getElem?
    intro j
    rw [List.getElem?_map, List.getElem?_map]
    by_cases e : j = i
    · subst e
      rw [List.getElem?_set_self (List.getElem?_eq_some_iff.1 h).1, h]; simp [hn]
    · rw [List.getElem?_set_ne (Ne.symm e)]
  have h1 : ∀ l : List PF, Rising l ↔ (l.map PF.name).Pairwise fun a b => ltN a b = true := fun l => by unfold Rising; rw [List.pairwise_map]
  rw [h1, hm, ← h1]; exact hL
theorem Sound.put {F : FR} (h : Sound F) {i : Nat} {x : PF} (hx : F.files[i]? = some x) (y : PF) (hn : y.name = x.name) (hs : ((total F.files + (y.pl.size + y.air.size) : Nat) : Int) ≤ F.limit + ((x.pl.size + x.air.size : Nat) : Int)) : Sound (putF F i y) where
  lim1 := h.lim1
  lim2 := h.lim2
  cnt := by show (F.files.set i y).length ≤ 32; rw [List.length_set]; exact h.cnt
  asc := rising_set h.asc i x y hx hn
  nam z hz := by
    rcases List.mem_or_eq_of_mem_set hz with hz | rfl
    · exact h.nam z hz
    · rw [hn]; exact h.nam x (List.mem_of_getElem? hx)
  sum := by
    have := total_set F.files i x y hx
    show ((total (F.files.set i y) : Nat) : Int) ≤ F.limit
    omega
  lf := h.lf
  kl := h.kl
theorem Sound.ins {F : FR} (h : Sound F) (n : ByteArray) (hn : namedB n = true) (hi : isAt F.files n = false) (hc : F.files.length < 32) : Sound (insF F (place F.files n) (noX n)) where
  lim1 := h.lim1
  lim2 := h.lim2
  cnt := by
    show (insL F.files (place F.files n) (noX n)).length ≤ 32
    unfold insL
    rw [List.length_append, List.length_cons, List.length_take, List.length_drop]; omega
  asc := rising_ins h.asc (noX n) hi
  nam z hz := by
    rcases mem_ins hz with rfl | hz
    · unfold namedB at hn
      simp only [Bool.and_eq_true, decide_eq_true_eq] at hn
      exact ⟨hn.1, hn.2⟩
    · exact h.nam z hz
  sum := by
    show ((total (insL F.files (place F.files n) (noX n)) : Nat) : Int) ≤ F.limit
    rw [total_ins]; exact h.sum
  lf := h.lf
  kl := h.kl
def appX (F : FR) (n s : ByteArray) : FR := if isAt F.files n = true then setX F n fun x => addX x s else putF (insF F (place F.files n) (noX n)) (place F.files n) (addX (noX n) s)
theorem appX_left (F : FR) (n s : ByteArray) : (appX F n s).left = F.left ∧ (appX F n s).off = F.off ∧ (appX F n s).limit = F.limit ∧ (appX F n s).starts = F.starts ∧ (appX F n s).keep = F.keep := by
  unfold appX setX
  split
  · split <;> exact ⟨rfl, rfl, rfl, rfl, rfl⟩
  · exact ⟨rfl, rfl, rfl, rfl, rfl⟩
theorem Sound.app {F : FR} (h : Sound F) (n s : ByteArray) (hn : namedB n = true) (hc : isAt F.files n = false → F.files.length ≠ 32) (hs : ((total F.files + s.size : Nat) : Int) ≤ F.limit) : Sound (appX F n s) := by
  unfold appX
  by_cases hi : isAt F.files n = true
  · rw [if_pos hi]
    obtain ⟨x, hx, _⟩ := isAt_get hi
    unfold setX
    rw [hx]
    refine h.put hx (addX x s) rfl ?_
    have : (addX x s).air.size = x.air.size + s.size := by simp [addX]
    have h2 : (addX x s).pl = x.pl := rfl
    rw [this, h2]; omega
  · have hi' : isAt F.files n = false := by cases e : isAt F.files n; rfl; exact absurd e hi
    rw [if_neg hi]
    have hlt : F.files.length < 32 := by have := hc hi'; have := h.cnt; omega
    have h1 := h.ins n hn hi' hlt
    refine h1.put (x := noX n) (insL_get F.files _ _ (place_le _ _)) (addX (noX n) s) rfl ?_
    have e1 : (addX (noX n) s).air.size = s.size := by simp [addX, noX]
    have e2 : (addX (noX n) s).pl.size = 0 := rfl
    have e3 : (noX n).pl.size = 0 := rfl
    have e4 : (noX n).air.size = 0 := rfl
    have e5 : total (insF F (place F.files n) (noX n)).files = total F.files := by show total (insL F.files _ _) = _; rw [total_ins, e3, e4]; rfl
    rw [e1, e2, e3, e4, e5]
    show ((total F.files + (0 + s.size) : Nat) : Int) ≤ F.limit + _
    omega
end Go.Proofs.Ytmoaecicibjmnaa

namespace Go.Proofs.Ytmoaecicibjmnaa
open Go.RowKit

/-- Three new blocks of one cell. -/
theorem three_new (w : World) (v u z : Value) (t s r : TypeId) : ∃ W, ((w.alloc (.cells #[v] t)).alloc (.cells #[u] s)).alloc (.cells #[z] r) = W ∧ Below w.heap.size w W ∧ W.heap.size = w.heap.size + 3 ∧ W.cell? ⟨w.heap.size, 0, none⟩ = some v ∧ W.cell? ⟨w.heap.size + 1, 0, none⟩ = some u ∧ W.cell? ⟨w.heap.size + 1 + 1, 0, none⟩ = some z := by
  have h1 : (((w.alloc (.cells #[v] t)).alloc (.cells #[u] s)).alloc (.cells #[z] r)).heap[w.heap.size]? = some (.cells #[v] t (0, 0)) := by rw [heap_alloc, if_neg (by simp only [size_alloc]; omega), heap_alloc, if_neg (by simp only [size_alloc]; omega), heap_alloc, if_pos rfl]
  have h2 : (((w.alloc (.cells #[v] t)).alloc (.cells #[u] s)).alloc (.cells #[z] r)).heap[w.heap.size + 1]? = some (.cells #[u] s (0, 0)) := by rw [heap_alloc, if_neg (by simp only [size_alloc]; omega), heap_alloc, if_pos (by simp only [size_alloc])]
  have h3 : (((w.alloc (.cells #[v] t)).alloc (.cells #[u] s)).alloc (.cells #[z] r)).heap[w.heap.size + 1 + 1]? = some (.cells #[z] r (0, 0)) := by rw [heap_alloc, if_pos (by simp only [size_alloc])]
  exact ⟨_, rfl, (((Below.refl _ _).alloc (Nat.le_refl _) _).alloc (by rw [size_alloc]; omega) _).alloc (by rw [size_alloc, size_alloc]; omega) _, by simp only [size_alloc], cell_at h1 0, cell_at h2 0, cell_at h3 0⟩
/-- There is no room for so much more. -/
def fullB (F : FR) (n s : ByteArray) : Bool := (!isAt F.files n && decide (F.files.length = 32)) || decide (F.limit - (total F.files : Int) < (s.size : Int))
def appE (F : FR) (n s : ByteArray) : Int := if F.off = true then 51 else if namedB n = false then 2 else if fullB F n s = true then 50 else if F.left = 0 then 51 else 0
def appF (F : FR) (n s : ByteArray) : FR := if F.off = true ∨ namedB n = false ∨ fullB F n s = true then F else doneA (appX F n s)
set_option maxHeartbeats 4000000 in
set_option maxRecDepth 100000 in
theorem append_any {M : Nat → Prop} {b : Nat} {F : FR} (w : World) (h : FSAt M w b F) (hG : Sound F) (n s : ByteArray) (hsz : s.size ≤ 9223372036854775807) :
    Calls Try.prog 23 #[.pointer (some ⟨b, 0, none⟩), .string n, .string s] w fun e w' => e = .returned (.int .i64 (appE F n s)) ∧ Turned M w w' b (appF F n s) := by
  have hmf : ∀ (fn : Fn) (first cap : Array Value) (w : World), (Instr.makeFunc fn first cap).run Try.prog w = .ok (.func fn first cap) w := fun _ _ _ _ => rfl
  have H := Lib.hid h
  have HG := Lib.hid hG
  obtain ⟨R, hR⟩ : ∃ R, R = appF F n s := ⟨_, rfl⟩
  obtain ⟨E, hE⟩ : ∃ E, E = appE F n s := ⟨_, rfl⟩
  have HR := Lib.hid hR
  have HE := Lib.hid hE
  rw [← hR, ← hE]
  clear h hG hR hE
  go_enter Try.func23, Try.ntmps23
  go_upto_region 1 with fail
  obtain ⟨W, hW, hbW, hsW, x3, x4, x5⟩ := three_new w (.pointer (some ⟨b, 0, none⟩)) (.string n) (.string s) 25 9 9
  rw [hW]
  clear hW
  have C1 := Lib.hid (on_any (H.out.below hbW) HG.out.lim)
  unfold onE at C1
  by_cases ho : F.off = true
  · rw [if_pos ho] at C1
    have HE2 : Hid (E = 51) := Lib.hid (by rw [HE.out, appE, if_pos ho])
    have HR2 : Hid (R = F) := Lib.hid (by rw [HR.out, appF, if_pos (.inl ho)])
    clear ho
    go_wp2_with fail
    (with_reducible refine C1.out.mono ?_); rintro e w2 ⟨rfl, rfl⟩
    go_wp2_with fail
    go_ret
    exact ⟨by rw [HE2.out]; rfl, by rw [HR2.out]; exact Turned.below H.out hbW⟩
  · rw [if_neg ho] at C1
    have HO := Lib.hid ho
    have C2 := fun w1 => Lib.hid (named_any n w1)
    by_cases hnm : namedB n = true
    · rw [hnm] at C2
      have HNM := Lib.hid hnm
      clear hnm ho
      go_wp2_with fail
      (with_reducible refine C1.out.mono ?_); rintro e w2 ⟨rfl, rfl⟩
      go_wp2_with fail
      (with_reducible refine (C2 _).out.mono ?_); rintro e w2' ⟨rfl, rfl⟩
      have C3 := Lib.hid (at_any (H.out.below hbW) HG.out n)
      go_wp2_with fail
      (with_reducible refine C3.out.mono ?_); rintro e w3 ⟨rfl, hb3⟩
      go_upto_region 7 with fail
      obtain ⟨W2, hW2, hbW2, hsW2, y8, y9⟩ := two_new w3 (.int .i64 (place F.files n : Nat)) (.bool (isAt F.files n)) 3 4
      rw [hW2]
      clear hW2 C1 C2 C3
      have hB := below_tr (below_tr hbW hb3) hbW2
      have z3 := cell_later hbW2 (cell_later hb3 x3)
      have z4 := cell_later hbW2 (cell_later hb3 x4)
      have z5 := cell_later hbW2 (cell_later hb3 x5)
      have hc0 := (H.out.below hB)
      obtain ⟨fv, kv, hfi⟩ := hc0
      have c0 := hfi.box.c0
      have c3 := hfi.box.c3
      have hbl := hfi.box.lt
      have nM : ∀ k, w.heap.size ≤ k → ¬ M k := fun k hk hm => by have := H.out.lt k hm; omega
      obtain ⟨fa, fc, rfl⟩ := own_slice hfi.own
      have hs3 := hb3.size
      have hp1 := fun (p : Ext W2) (o : Nat) => p.cell w.heap.size o (by omega)
      have hp2 := fun (p : Ext W2) (o : Nat) => p.cell (w.heap.size + 1 + 1) o (by omega)
      have hp3 := fun (p : Ext W2) (o : Nat) => p.cell (w3.heap.size + 1) o (by omega)
      have hp4 := fun (p : Ext W2) (o : Nat) => p.cell b o hbl
      have C5 : ∀ w1, Below W2.heap.size W2 w1 → Hid (Calls Try.prog 16 #[.pointer (some ⟨b, 0, none⟩)] w1 fun e w' => e = .returned (.int .i64 (total F.files : Nat)) ∧ Below w1.heap.size w1 w') := fun w1 hb => Lib.hid (size_any ((H.out.below hB).below hb) HG.out)
      obtain ⟨T, hT⟩ : ∃ T, T = total F.files := ⟨_, rfl⟩
      obtain ⟨L, hL⟩ : ∃ L, L = F.limit := ⟨_, rfl⟩
      obtain ⟨q0, hq0⟩ : ∃ q0, q0 = F.files.length := ⟨_, rfl⟩
      obtain ⟨ia, hia⟩ : ∃ ia, ia = isAt F.files n := ⟨_, rfl⟩
      have hT20 : (T : Int) ≤ L := by rw [hT, hL]; exact HG.out.sum
      have hL20 : L ≤ 1048576 := by rw [hL]; exact HG.out.lim2
      have HFB : fullB F n s = ((!ia && decide (q0 = 32)) || decide (L - (T : Int) < (s.size : Int))) := by rw [fullB, ← hia, ← hq0, ← hT, ← hL]
      have HFB' := Lib.hid HFB
      have HSAF : fullB F n s = false → Sound (appX F n s) := fun hf => by
        rw [HFB] at hf
        simp only [Bool.or_eq_false_iff, decide_eq_false_iff_not] at hf
        refine HG.out.app n s HNM.out (fun h0 => ?_) (by omega)
        rw [← hia] at h0
        rw [h0] at hf
        have := hf.1
        simp at this
        rw [← hq0]; exact this
      have HSAF' := Lib.hid HSAF
      have HIA := Lib.hid hia
      rw [← hq0] at c3
      rw [← hL] at c0
      rw [← hia] at y9
      simp only [← hT] at C5
      clear HFB HSAF hia hq0 hL hT hfi
      cases ia with
      | true =>
        have HI : Hid (isAt F.files n = true) := Lib.hid (HIA.out.symm)
        by_cases hfu : L - (T : Int) < (s.size : Int)
        · have HFU : Hid (fullB F n s = true) := Lib.hid (by rw [HFB'.out]; simp [hfu])
          have HE2 : Hid (E = 50) := Lib.hid (by rw [HE.out, appE, if_neg HO.out, if_neg (by rw [HNM.out]; decide), if_pos HFU.out])
          have HR2 : Hid (R = F) := Lib.hid (by rw [HR.out, appF, if_pos (.inr (.inr HFU.out))])
          have hd : decide (L - (T : Int) < (s.size : Int)) = true := by simp [hfu]
          refine wp_region_class (by kernel_rfl) (by kernel_rfl) ?_
          repeat (go_big_quiet_step (first | (go_at_call 16; with_reducible exact Calls.ext (C5 _ (Subtype.property _)).out)))
          refine wpQuiet_nil ?_
          intro _ hw'
          obtain ⟨q, hw''⟩ := hw'
          subst hw''
          go_wp2_with fail
          go_ret
          exact ⟨by rw [HE2.out]; rfl, by rw [HR2.out]; exact Turned.below H.out (below_tr hB q.2)⟩
        · have HFU0 : fullB F n s = false := by rw [HFB'.out]; simp; omega
          have HFU : Hid (¬ fullB F n s = true) := Lib.hid (by rw [HFU0]; decide)
          have HSA := Lib.hid (HSAF'.out HFU0)
          clear HFU0
          have hs20 : s.size ≤ 1048576 := by omega
          have HE2 : Hid (E = (if F.left = 0 then 51 else 0)) := Lib.hid (by rw [HE.out, appE, if_neg HO.out, if_neg (by rw [HNM.out]; decide), if_neg HFU.out])
          have HR2 : Hid (R = doneA (appX F n s)) := Lib.hid (by rw [HR.out, appF, if_neg (by rintro (h | h | h); exact HO.out h; rw [HNM.out] at h; cases h; exact HFU.out h)])
          have hd : decide (L - (T : Int) < (s.size : Int)) = false := by simp; omega
          refine wp_region_class (by kernel_rfl) (by kernel_rfl) ?_
          repeat (go_big_quiet_step (first | (go_at_call 16; with_reducible exact Calls.ext (C5 _ (Subtype.property _)).out)))
          refine wpQuiet_nil ?_
          intro _ hw'
          obtain ⟨q, hw''⟩ := hw'
          subst hw''
          have hq2 := q.2
          have hB3 := below_tr hB hq2
          have u3 := cell_later hq2 z3
          have u4 := cell_later hq2 z4
          have u5 := cell_later hq2 z5
          have u8 := cell_later hq2 y8
          have u9 := cell_later hq2 y9
          have hst : ∀ w1, Below q.1.heap.size q.1 w1 → Calls Try.prog 57 #[.pointer (some ⟨w3.heap.size + 1, 0, none⟩), .pointer (some ⟨w.heap.size, 0, none⟩), .pointer (some ⟨w3.heap.size, 0, none⟩), .pointer (some ⟨w.heap.size + 1, 0, none⟩), .pointer (some ⟨w.heap.size + 1 + 1, 0, none⟩)] w1 fun e w' => e = .returned (.tuple #[]) ∧ Turned M w1 w' b (appX F n s) := fun w1 hb1 => by
            obtain ⟨x, hx, _⟩ := isAt_get HI.out
            have e : appX F n s = putF F (place F.files n) (addX x s) := by unfold appX; rw [if_pos HI.out, setX, hx]
            rw [e]
            have hxs := HG.out.size (List.mem_of_getElem? hx)
            exact append1_old w1 ((H.out.below hB3).below hb1) s hx (by omega) (by have := place_le F.files n; have := HG.out.cnt; omega) (cell_later hb1 u9) (cell_later hb1 u3) (cell_later hb1 u8) (cell_later hb1 u5)
          have C6 := do_first (M := M) q.1 (H.out.below hB3) 57 #[.pointer (some ⟨w3.heap.size + 1, 0, none⟩), .pointer (some ⟨w.heap.size, 0, none⟩), .pointer (some ⟨w3.heap.size, 0, none⟩), .pointer (some ⟨w.heap.size + 1, 0, none⟩), .pointer (some ⟨w.heap.size + 1 + 1, 0, none⟩)] (enters_of Try.func57 (by kernel_rfl) rfl) (appX F n s) (appX_left F n s).1 HSA.out (by rw [(appX_left F n s).2.1]; cases e : F.off; rfl; exact absurd e HO.out) hst
          rw [(appX_left F n s).1, ← HE2.out, ← HR2.out] at C6
          have C7 := Lib.hid C6
          clear C6 hst
          go_wp2_with fail
          (with_reducible refine C7.out.mono ?_); rintro e w6 ⟨rfl, ht6⟩
          have HT := Lib.hid ht6
          clear ht6
          go_wp2_with fail
          go_ret
          exact ⟨rfl, Turned.trans (fun k hk => .inl hk) (Out.of_below hB3) HT.out⟩
      | false =>
        have HI : Hid (isAt F.files n = false) := Lib.hid (HIA.out.symm)
        by_cases hq32 : q0 = 32
        · have HFU : Hid (fullB F n s = true) := Lib.hid (by rw [HFB'.out]; simp [hq32])
          have HE2 : Hid (E = 50) := Lib.hid (by rw [HE.out, appE, if_neg HO.out, if_neg (by rw [HNM.out]; decide), if_pos HFU.out])
          have HR2 : Hid (R = F) := Lib.hid (by rw [HR.out, appF, if_pos (.inr (.inr HFU.out))])
          have hd2 : ((q0 : Int) == 32) = true := by simp; omega
          clear hq32
          refine wp_region_class (by kernel_rfl) (by kernel_rfl) ?_
          repeat (go_big_quiet_step (first | (go_at_call 16; with_reducible exact Calls.ext (C5 _ (Subtype.property _)).out)))
          refine wpQuiet_nil ?_
          intro _ hw'
          obtain ⟨q, hw''⟩ := hw'
          subst hw''
          go_wp2_with fail
          go_ret
          exact ⟨by rw [HE2.out]; rfl, by rw [HR2.out]; exact Turned.below H.out (below_tr hB q.2)⟩
        · have hd2 : ((q0 : Int) == 32) = false := by simp; omega
          by_cases hfu : L - (T : Int) < (s.size : Int)
          · have HFU : Hid (fullB F n s = true) := Lib.hid (by rw [HFB'.out]; simp [hfu])
            have HE2 : Hid (E = 50) := Lib.hid (by rw [HE.out, appE, if_neg HO.out, if_neg (by rw [HNM.out]; decide), if_pos HFU.out])
            have HR2 : Hid (R = F) := Lib.hid (by rw [HR.out, appF, if_pos (.inr (.inr HFU.out))])
            have hd : decide (L - (T : Int) < (s.size : Int)) = true := by simp [hfu]
            refine wp_region_class (by kernel_rfl) (by kernel_rfl) ?_
            repeat (go_big_quiet_step (first | (go_at_call 16; with_reducible exact Calls.ext (C5 _ (Subtype.property _)).out)))
            refine wpQuiet_nil ?_
            intro _ hw'
            obtain ⟨q, hw''⟩ := hw'
            subst hw''
            go_wp2_with fail
            go_ret
            exact ⟨by rw [HE2.out]; rfl, by rw [HR2.out]; exact Turned.below H.out (below_tr hB q.2)⟩
          · have HFU0 : fullB F n s = false := by rw [HFB'.out]; simp [hq32]; omega
            have HFU : Hid (¬ fullB F n s = true) := Lib.hid (by rw [HFU0]; decide)
            have HSA := Lib.hid (HSAF'.out HFU0)
            clear HFU0
            have hs20 : s.size ≤ 1048576 := by omega
            have HE2 : Hid (E = (if F.left = 0 then 51 else 0)) := Lib.hid (by rw [HE.out, appE, if_neg HO.out, if_neg (by rw [HNM.out]; decide), if_neg HFU.out])
            have HR2 : Hid (R = doneA (appX F n s)) := Lib.hid (by rw [HR.out, appF, if_neg (by rintro (h | h | h); exact HO.out h; rw [HNM.out] at h; cases h; exact HFU.out h)])
            have hd : decide (L - (T : Int) < (s.size : Int)) = false := by simp; omega
            refine wp_region_class (by kernel_rfl) (by kernel_rfl) ?_
            repeat (go_big_quiet_step (first | (go_at_call 16; with_reducible exact Calls.ext (C5 _ (Subtype.property _)).out)))
            refine wpQuiet_nil ?_
            intro _ hw'
            obtain ⟨q, hw''⟩ := hw'
            subst hw''
            have hq2 := q.2
            have hB3 := below_tr hB hq2
            have u3 := cell_later hq2 z3
            have u4 := cell_later hq2 z4
            have u5 := cell_later hq2 z5
            have u8 := cell_later hq2 y8
            have u9 := cell_later hq2 y9
            have hst : ∀ w1, Below q.1.heap.size q.1 w1 → Calls Try.prog 57 #[.pointer (some ⟨w3.heap.size + 1, 0, none⟩), .pointer (some ⟨w.heap.size, 0, none⟩), .pointer (some ⟨w3.heap.size, 0, none⟩), .pointer (some ⟨w.heap.size + 1, 0, none⟩), .pointer (some ⟨w.heap.size + 1 + 1, 0, none⟩)] w1 fun e w' => e = .returned (.tuple #[]) ∧ Turned M w1 w' b (appX F n s) := fun w1 hb1 => by
              have e : appX F n s = putF (insF F (place F.files n) (noX n)) (place F.files n) (addX (noX n) s) := by unfold appX; rw [if_neg (by rw [HI.out]; decide)]
              rw [e]
              exact append1_new w1 ((H.out.below hB3).below hb1) n s hs20 (place_le _ _) (by have := HG.out.cnt; omega) (cell_later hb1 u9) (cell_later hb1 u3) (cell_later hb1 u8) (cell_later hb1 u4) (cell_later hb1 u5) (nM _ (Nat.le_refl _)) (nM _ (by omega)) (nM _ (by omega)) (nM _ (by omega))
            have C6 := do_first (M := M) q.1 (H.out.below hB3) 57 #[.pointer (some ⟨w3.heap.size + 1, 0, none⟩), .pointer (some ⟨w.heap.size, 0, none⟩), .pointer (some ⟨w3.heap.size, 0, none⟩), .pointer (some ⟨w.heap.size + 1, 0, none⟩), .pointer (some ⟨w.heap.size + 1 + 1, 0, none⟩)] (enters_of Try.func57 (by kernel_rfl) rfl) (appX F n s) (appX_left F n s).1 HSA.out (by rw [(appX_left F n s).2.1]; cases e : F.off; rfl; exact absurd e HO.out) hst
            rw [(appX_left F n s).1, ← HE2.out, ← HR2.out] at C6
            have C7 := Lib.hid C6
            clear C6 hst
            go_wp2_with fail
            (with_reducible refine C7.out.mono ?_); rintro e w6 ⟨rfl, ht6⟩
            have HT := Lib.hid ht6
            clear ht6
            go_wp2_with fail
            go_ret
            exact ⟨rfl, Turned.trans (fun k hk => .inl hk) (Out.of_below hB3) HT.out⟩
    · have hnf : namedB n = false := by cases e : namedB n; rfl; exact absurd e hnm
      rw [hnf] at C2
      have HE2 : Hid (E = 2) := Lib.hid (by rw [HE.out, appE, if_neg HO.out, if_pos hnf])
      have HR2 : Hid (R = F) := Lib.hid (by rw [HR.out, appF, if_pos (.inr (.inl hnf))])
      clear hnm hnf ho
      go_wp2_with fail
      (with_reducible refine C1.out.mono ?_); rintro e w2 ⟨rfl, rfl⟩
      go_wp2_with fail
      (with_reducible refine (C2 _).out.mono ?_); rintro e w2' ⟨rfl, rfl⟩
      go_wp2_with fail
      go_ret
      exact ⟨by rw [HE2.out]; rfl, by rw [HR2.out]; exact Turned.below H.out hbW⟩
end Go.Proofs.Ytmoaecicibjmnaa

namespace Go.Proofs.Ytmoaecicibjmnaa
open Go.RowKit

theorem Sound.drop {F : FR} (h : Sound F) (n : ByteArray) : Sound (dropF F n) := by
  unfold dropF dropL
  by_cases hi : isAt F.files n = true
  · rw [if_pos hi]
    have hs : (F.files.eraseIdx (place F.files n)).Sublist F.files := List.eraseIdx_sublist _ _
    have ht : total (F.files.eraseIdx (place F.files n)) ≤ total F.files := by
      unfold total
      rw [List.eraseIdx_eq_take_drop_succ]
      have h2 := total_app (F.files.take (place F.files n)) (F.files.drop (place F.files n))
      rw [List.take_append_drop] at h2
      unfold total at h2
      rw [List.map_append, List.sum_append, h2]
      have h3 : ((F.files.drop (place F.files n + 1)).map fun x => x.pl.size + x.air.size).sum ≤ ((F.files.drop (place F.files n)).map fun x => x.pl.size + x.air.size).sum := by
        rw [List.drop_eq_getElem_cons (isAt_lt hi), List.map_cons, List.sum_cons]; omega
      omega
    exact ⟨h.lim1, h.lim2, Nat.le_trans hs.length_le h.cnt, h.asc.sublist hs, fun x hx => h.nam x (hs.subset hx), by have := h.sum; show ((total (F.files.eraseIdx _) : Nat) : Int) ≤ F.limit; omega, h.lf, h.kl⟩
  · rw [if_neg hi]; exact h
def renX (x : PF) (c : ByteArray) : PF := ⟨c, x.pl, x.air⟩
def renF (F : FR) (a c : ByteArray) (x : PF) : FR := insF (dropF (dropF F a) c) (place (dropF (dropF F a) c).files c) (renX x c)
set_option maxHeartbeats 4000000 in
set_option maxRecDepth 100000 in
/-- The insert at the end of a Rename's stroke. -/
theorem rename1_any {M : Nat → Prop} {b p0 p1 p2 p3 i g : Nat} {F : FR} {fv kv : Value} {x : PF} (w : World) (h : FSIn M w b F fv kv) (hG : Sound F) (a c : ByteArray) (hx : F.files[i]? = some x) (hv : fv.ownBlock = some g)
    (h0 : w.cell? ⟨p0, 0, none⟩ = some (.pointer (some ⟨g, i * 3, none⟩))) (h1 : w.cell? ⟨p1, 0, none⟩ = some (.string c)) (h2 : w.cell? ⟨p2, 0, none⟩ = some (.pointer (some ⟨b, 0, none⟩))) (h3 : w.cell? ⟨p3, 0, none⟩ = some (.string a))
    (m1 : ¬ M p1) (m2 : ¬ M p2) (_m3 : ¬ M p3) :
    Calls Try.prog 61 #[.pointer (some ⟨p0, 0, none⟩), .pointer (some ⟨p1, 0, none⟩), .pointer (some ⟨p2, 0, none⟩), .pointer (some ⟨p3, 0, none⟩)] w fun e w' => e = .returned (.tuple #[]) ∧ Turned M w w' b (renF F a c x) := by
  obtain ⟨g', cap, rfl, hg, hMg, hgb, d0, d1, d2, hf⟩ := h.file hx
  obtain rfl : g = g' := by injection hv with hv; exact hv.symm
  have H := Lib.hid (show FSAt M w b F from ⟨_, kv, h⟩)
  have HG := Lib.hid hG
  have nM : ∀ k, w.heap.size ≤ k → ¬ M k := fun k hk hm => by have := h.lt k hm; omega
  obtain ⟨y, hy⟩ : ∃ y, y = renX x c := ⟨_, rfl⟩
  have HY := Lib.hid hy
  have ey1 : y.name = c := by rw [hy]; rfl
  have ey2 : y.pl = x.pl := by rw [hy]; rfl
  have ey3 : y.air = x.air := by rw [hy]; rfl
  have HYN := Lib.hid ey1
  have HYP := Lib.hid ey2
  have HYA := Lib.hid ey3
  clear h hx hG hv hy ey1 ey2 ey3 hf hMg hgb
  have h1a := fun o => Lib.cell?_alloc_some o h1
  have k1 := lt_of_cell h1
  have k2 := lt_of_cell h2
  have k3 := lt_of_cell h3
  obtain ⟨yb, hyb⟩ : ∃ yb, yb = w.heap.size := ⟨_, rfl⟩
  go_enter Try.func61, Try.ntmps61
  go_upto_region 2 with fail
  generalize hW : w.alloc _ = W
  have hBW : Below w.heap.size w W := by rw [← hW]; exact (Below.refl _ _).alloc (Nat.le_refl _) _
  have hsW : W.heap.size = w.heap.size + 1 := by rw [← hW, size_alloc]
  have hyW : W.heap[yb]? = some (.cells #[.string y.name, .string y.pl, .string y.air] 82 (0, 0)) := by rw [← hW, hyb, heap_alloc, if_pos rfl, HYN.out, HYP.out, HYA.out]
  rw [← hyb]
  have my : ¬ M yb := nM yb (by omega)
  have hyl : yb < W.heap.size := by omega
  clear hyb
  have j1 := cell_later hBW h1
  have j2 := cell_later hBW h2
  have j3 := cell_later hBW h3
  have C1 := Lib.hid (drop_any W (H.out.below hBW) HG.out a)
  clear hW h1a d0 d1 d2 h0 h1 h2 h3
  go_wp2_with fail
  (with_reducible refine C1.out.mono ?_); rintro e w2 ⟨rfl, M1, hf1, hM1, ho1⟩
  have nM1 : ∀ k, k < W.heap.size → ¬ M k → ¬ M1 k := fun k hk hn hm => by rcases hM1 k hm with h | h; exact hn h; omega
  have hs2 := ho1.size
  have i1 := (ho1.cell (show p1 < W.heap.size by omega) m1 0).trans j1
  have i2 := (ho1.cell (show p2 < W.heap.size by omega) m2 0).trans j2
  have hy2 := (ho1.block yb (by omega) my).trans hyW
  have HG1 := Lib.hid (HG.out.drop a)
  have C2 := Lib.hid (drop_any w2 hf1 HG1.out c)
  have HO1 := Lib.hid ho1
  have HM1 := Lib.hid hM1
  have n11 := nM1 p1 (by omega) m1
  have n12 := nM1 p2 (by omega) m2
  have n1y := nM1 yb (by omega) my
  clear hf1 ho1 hM1 nM1 C1 j1 j2 j3 hyW
  go_wp2_with fail
  (with_reducible refine C2.out.mono ?_); rintro e w3 ⟨rfl, M2, hf2, hM2, ho2⟩
  have nM2 : ∀ k, k < w2.heap.size → ¬ M1 k → ¬ M2 k := fun k hk hn hm => by rcases hM2 k hm with h | h; exact hn h; omega
  have hs3 := ho2.size
  have i1' := (ho2.cell (show p1 < w2.heap.size by omega) n11 0).trans i1
  have i2' := (ho2.cell (show p2 < w2.heap.size by omega) n12 0).trans i2
  have hy3 := (ho2.block yb (by omega) n1y).trans hy2
  have HG2 := Lib.hid (HG1.out.drop c)
  obtain ⟨F2, hF2⟩ : ∃ F2, F2 = dropF (dropF F a) c := ⟨_, rfl⟩
  rw [← hF2] at hf2 HG2
  have C3 := Lib.hid (at_any hf2 HG2.out c)
  have HF2 := Lib.hid hF2
  have HS2 := Lib.hid hf2
  have HO2 := Lib.hid ho2
  have HM2 := Lib.hid hM2
  have m22 := nM2 p2 (by omega) n12
  have m2y := nM2 yb (by omega) n1y
  obtain ⟨i2n, hi2n⟩ : ∃ i2n, i2n = place F2.files c := ⟨_, rfl⟩
  have HI2 := Lib.hid hi2n
  rw [← hi2n] at C3
  have hpl : i2n ≤ F2.files.length := by rw [hi2n]; exact place_le _ _
  have hln : F2.files.length ≤ 40 := by have := HG2.out.cnt; omega
  clear hf2 ho2 hM2 nM2 C2 hF2 hi2n i1 i2 hy2
  go_wp2_with fail
  (with_reducible refine C3.out.mono ?_); rintro e w4 ⟨rfl, hb4⟩
  have q2 := cell_later hb4 i2'
  have hy4 := (hb4.block yb (by omega)).trans hy3
  have hs4 := hb4.size
  obtain ⟨fv, kv, hfi⟩ := HS2.out.below hb4
  have HFI := Lib.hid hfi
  have c3 := hfi.box.c3
  have g3 := hfi.box.free 3
  have hbl := hfi.box.lt
  have k2' := lt_of_cell q2
  have ky' : yb < w4.heap.size := by omega
  have HNB := Lib.hid hfi.mf
  have Hbf : Hid (¬ fv.ownBlock = some b) := Lib.hid fun e => (hfi.mf b e).2 rfl
  have f2 : ¬ fv.ownBlock = some p2 := fun e => m22 (hfi.mf p2 e).1
  have fy : ¬ fv.ownBlock = some yb := fun e => m2y (hfi.mf yb e).1
  have n2 : p2 ≠ b := fun e => m22 (by rw [e]; exact hfi.mb)
  have ny : yb ≠ b := fun e => m2y (by rw [e]; exact hfi.mb)
  have HOW : Hid (Out M w w4) := Lib.hid ((((Out.of_below hBW).trans HO1.out fun k hk => .inl hk).trans HO2.out fun k hk => (HM1.out k hk).imp id fun h => by omega).trans (Out.of_below (M := fun _ => False) hb4) fun _ h => h.elim)
  have MM : ∀ k, M2 k → M k ∨ w.heap.size ≤ k := fun k hk => by
    rcases HM2.out k hk with h | h
    · rcases HM1.out k h with h | h
      · exact .inl h
      · exact .inr (by omega)
    · exact .inr (by omega)
  have y0 := cell_at hy4 0
  have y1 := cell_at hy4 1
  have y2 := cell_at hy4 2
  have CI : ∀ w1 vb, Below w4.heap.size w4 w1 → w4.heap.size ≤ vb → w1.heap[vb]? = some (.cells #[.string y.name, .string y.pl, .string y.air] 82 (0, 0)) →
      Hid (Calls Try.prog 58 #[fv, .int .i64 (i2n : Nat), .slice (some ⟨vb, 0, none⟩) 1 1] w1 fun e w' => InsPost w1 fv F2.files i2n y e w') := fun w1 vb hb hv hc =>
    Lib.hid (insert_any w1 fv F2.files y i2n vb 1 hln hpl (HFI.out.below hb).own hc (fun e => by have := HFI.out.lt vb (HFI.out.mf vb e).1; omega))
  have KS : ∀ w', Out (fun k => fv.ownBlock = some k) w4 w' → w'.cell? ⟨p2, 0, none⟩ = some (.pointer (some ⟨b, 0, none⟩)) ∧ w'.cell? ⟨yb, 0, none⟩ = some (.string y.name) ∧ w'.cell? ⟨yb, 1, none⟩ = some (.string y.pl) ∧ w'.cell? ⟨yb, 2, none⟩ = some (.string y.air) := fun w' ho =>
    ⟨(ho.cell k2' f2 0).trans q2, (ho.cell ky' fy 0).trans y0, (ho.cell ky' fy 1).trans y1, (ho.cell ky' fy 2).trans y2⟩
  obtain ⟨q, hq⟩ : ∃ q, (F2.files.take i2n ++ y :: F2.files.drop i2n).length = q := ⟨_, rfl⟩
  have HQ := Lib.hid hq
  have KF : ∀ (w6 : World) fa fc, w6.ownsRow 0 82 3 (.slice fa q fc) q (cs (F2.files.take i2n ++ y :: F2.files.drop i2n)) →
      (∀ k, (Value.slice fa q fc).ownBlock = some k → fv.ownBlock = some k ∨ ((w4.alloc (.cells #[.string y.name, .string y.pl, .string y.air] 82)).drew).heap.size ≤ k) →
      Out (fun k => fv.ownBlock = some k) ((w4.alloc (.cells #[.string y.name, .string y.pl, .string y.air] 82)).drew) w6 →
      ∃ fv', Hid (FSIn (fun k => M2 k ∨ (w4.heap.size ≤ k ∧ k < (w6.setCell ⟨b, 3, none⟩ (.slice fa q fc)).heap.size)) (w6.setCell ⟨b, 3, none⟩ (.slice fa q fc)) b (renF F a c x) fv' kv) ∧ Hid (Out M2 w4 (w6.setCell ⟨b, 3, none⟩ (.slice fa q fc))) := by
    intro w6 fa fc ho3 hb3 hout3
    have hs1 : ((w4.alloc (.cells #[.string y.name, .string y.pl, .string y.air] 82)).drew).heap.size = w4.heap.size + 1 := by rw [drew_heap, size_alloc]
    rw [hs1] at hb3
    have hs3 := hout3.size
    rw [hs1] at hs3
    have hbox := HFI.out.box.eq (ins_block hout3 hbl Hbf.out)
    have hM : ∀ k, (Value.slice fa q fc).ownBlock = some k → k ≠ b ∧ k < w6.heap.size := fun k hk => ⟨by
      rcases hb3 k hk with h | h
      · exact (HNB.out k h).2
      · omega, (ho3.lt k hk).2⟩
    have hRF : renF F a c x = insF F2 i2n y := by unfold renF; rw [HI2.out, HF2.out, HY.out]
    rw [hRF]
    refine ⟨.slice fa q fc, Lib.hid (HFI.out.re (insF F2 i2n y) rfl _ ?_ ?_ (by rw [size_set]; omega) (fun c hc h1 h2 => ?_) (fun k hk => ⟨?_, (hM k hk).1, (hb3 k hk).imp id fun h => by omega⟩) (fun _ h => .inl h) (fun k hk => ?_)), Lib.hid ?_⟩
    · exact hbox.s3 _
    · show World.ownsRow _ 0 _ 3 _ (F2.files.take i2n ++ y :: F2.files.drop i2n).length (cs (F2.files.take i2n ++ y :: F2.files.drop i2n))
      rw [HQ.out]
      exact own_eq ho3 fun k hk => setCell_heap_other _ _ _ _ _ (hM k hk).1
    · rw [setCell_heap_other _ _ _ _ _ h1]
      exact ins_block hout3 (HFI.out.lt c hc) h2
    · rcases hb3 k hk with h | h
      · exact .inl (HNB.out k h).1
      · exact .inr ⟨by omega, by rw [size_set]; exact (hM k hk).2⟩
    · rcases hk with hk | hk
      · rw [size_set]; have := HFI.out.lt k hk; omega
      · exact hk.2
    · have o1 : Out M2 w4 ((w4.alloc (.cells #[.string y.name, .string y.pl, .string y.air] 82)).drew) := ((Out.refl _ _).alloc _).drew
      exact (o1.trans hout3 fun k hk => .inl (HNB.out k hk).1).set (.inl HFI.out.mb) _ _
  clear hq hfi C3
  go_upto_region 5 with fail
  refine wp_region_held_drew (S := fun w' => w'.cell? ⟨p2, 0, none⟩ = some (.pointer (some ⟨b, 0, none⟩)) ∧ w'.cell? ⟨yb, 0, none⟩ = some (.string y.name) ∧ w'.cell? ⟨yb, 1, none⟩ = some (.string y.pl) ∧ w'.cell? ⟨yb, 2, none⟩ = some (.string y.air)) (by kernel_rfl) (KS _ (Out.refl _ _).drew) (fun hH => ?_)
  refine wpAnyH_take (i := 0) (v := ?_) rfl (by kernel_rfl) (by kernel_rfl) (by kernel_rfl) (fun _ _ _ h => h) (Or.inl ⟨by rfl, ?hy1⟩) hH ?rs1
  case hy1 => intro w' hS'; obtain ⟨s1, s2, s3, s4⟩ := hS'; (try go_simp); (try (with_reducible rfl))
  case rs1 =>
  refine wpAnyH_take (i := 1) (v := ?_) rfl (by kernel_rfl) (by kernel_rfl) (by kernel_rfl) (fun _ _ _ h => h) (Or.inl ⟨by rfl, ?hy2⟩) hH ?rs2
  case hy2 => intro w' hS'; obtain ⟨s1, s2, s3, s4⟩ := hS'; (try go_simp); (try (with_reducible rfl))
  case rs2 =>
  refine wpAnyH_take (i := 2) (v := ?_) rfl (by kernel_rfl) (by kernel_rfl) (by kernel_rfl) (fun _ _ _ h => h) (Or.inl ⟨by rfl, ?hy3⟩) hH ?rs3
  case hy3 => intro w' hS'; obtain ⟨s1, s2, s3, s4⟩ := hS'; (try go_simp); (try (with_reducible rfl))
  case rs3 =>
  refine wpAnyH_take (i := 3) (v := ?_) rfl (by kernel_rfl) (by kernel_rfl) (by kernel_rfl) (fun _ _ _ h => h) (Or.inl ⟨by rfl, ?hy4⟩) hH ?rs4
  case hy4 => intro w' hS'; obtain ⟨s1, s2, s3, s4⟩ := hS'; (try go_simp); (try (with_reducible rfl))
  case rs4 =>
  refine wpAnyH_take (i := 5) (v := ?_) rfl (by kernel_rfl) (by kernel_rfl) (by kernel_rfl) (fun _ _ _ h => h) (Or.inl ⟨by rfl, ?hy5⟩) hH ?rs5
  case hy5 => intro w' hS'; obtain ⟨s1, s2, s3, s4⟩ := hS'; (try go_simp); (try (with_reducible rfl))
  case rs5 =>
  refine wpAnyH_take (i := 6) (v := ?_) rfl (by kernel_rfl) (by kernel_rfl) (by kernel_rfl) (fun _ _ _ h => h) (Or.inl ⟨by rfl, ?hy6⟩) hH ?rs6
  case hy6 => intro w' hS'; obtain ⟨s1, s2, s3, s4⟩ := hS'; (try go_simp); (try (with_reducible rfl))
  case rs6 =>
  refine wpAnyH_ready (rs := [4, 7]) (by kernel_rfl) (by simp) ?_
  refine AllReadyH.cons rfl (fun K hK => ?_) (AllReadyH.cons rfl (fun K hK => ?_) AllReadyH.nil)
  · go_simp
    refine hK.out _ _ hH (fun hH => ?_)
    clear hK K
    refine wpAnyH_ready (rs := [7]) (by kernel_rfl) (by simp) ?_
    refine AllReadyH.cons rfl (fun K hK => ?_) AllReadyH.nil
    go_simp
    refine hK.out _ _ (KS _ (Out.drew (Out.alloc (Out.refl _ _) _))) (fun hH => ?_)
    clear hK K
    refine wpAnyH_ready (rs := [8]) (by kernel_rfl) (by simp) ?_
    refine AllReadyH.cons rfl (fun K hK => ?_) AllReadyH.nil
    go_simp
    refine (CI _ _ ((Below.refl _ _).alloc (Nat.le_refl _) _).drew (Nat.le_refl _) (by rw [drew_heap, heap_alloc, if_pos rfl])).out.mono ?_
    rintro e w6 ⟨fv', rfl, ho6, hb6, hout6⟩
    rw [HQ.out] at ho6
    obtain ⟨fa, fc, rfl⟩ := own_slice ho6
    have e3 := ins_cell hout6 c3 Hbf.out
    have g4 := (World.frozen?_of_block (a := ⟨b, 3, none⟩) (ins_block hout6 hbl Hbf.out)).trans g3
    have HO6 := Lib.hid ho6
    have HB6 := Lib.hid hb6
    have HU6 := Lib.hid hout6
    have hH6 := KS _ (Out.trans (Out.drew (Out.alloc (Out.refl _ _) _)) hout6 (fun _ h => .inl h))
    clear ho6 hb6 hout6
    go_wp2_with fail
    refine hK.out _ _ hH6 (fun hH => ?_)
    clear hK K
    refine wpAnyH_take (i := 9) (v := ?_) rfl (by kernel_rfl) (by kernel_rfl) (by kernel_rfl) (fun _ _ _ h => h) (Or.inl ⟨by rfl, ?hy7⟩) hH ?rs7
    case hy7 => intro w' hS'; obtain ⟨s1, s2, s3, s4⟩ := hS'; (try go_simp); (try (with_reducible rfl))
    case rs7 =>
    refine wpAnyH_take (i := 10) (v := ?_) rfl (by kernel_rfl) (by kernel_rfl) (by kernel_rfl) (fun _ _ _ h => h) (Or.inl ⟨by rfl, ?hy8⟩) hH ?rs8
    case hy8 => intro w' hS'; obtain ⟨s1, s2, s3, s4⟩ := hS'; (try go_simp); (try (with_reducible rfl))
    case rs8 =>
    refine wpAnyH_ready (rs := [11]) (by kernel_rfl) (by simp) ?_
    refine AllReadyH.cons rfl (fun K hK => ?_) AllReadyH.nil
    go_simp
    refine hK.out _ _ ⟨by rw [World.cell?_of_block (setCell_heap_other _ _ _ _ _ n2)]; exact hH6.1, by rw [World.cell?_of_block (setCell_heap_other _ _ _ _ _ ny)]; exact hH6.2.1, by rw [World.cell?_of_block (setCell_heap_other _ _ _ _ _ ny)]; exact hH6.2.2.1, by rw [World.cell?_of_block (setCell_heap_other _ _ _ _ _ ny)]; exact hH6.2.2.2⟩ (fun hH => ?_)
    clear hK K
    refine wpAnyH_done (by kernel_rfl) ?_ _
    go_wp2_with fail
    go_end0
    obtain ⟨fv6, hF6, hO6⟩ := KF w6 fa fc HO6.out HB6.out HU6.out
    exact ⟨rfl, _, ⟨fv6, kv, hF6.out⟩, fun k hk => hk.elim (MM k) (fun h => .inr (by omega)), HOW.out.trans hO6.out MM⟩
  · go_simp
    refine hK.out _ _ (KS _ (Out.drew (Out.alloc (Out.refl _ _) _))) (fun hH => ?_)
    clear hK K
    refine wpAnyH_ready (rs := [4]) (by kernel_rfl) (by simp) ?_
    refine AllReadyH.cons rfl (fun K hK => ?_) AllReadyH.nil
    go_simp
    refine hK.out _ _ hH (fun hH => ?_)
    clear hK K
    refine wpAnyH_ready (rs := [8]) (by kernel_rfl) (by simp) ?_
    refine AllReadyH.cons rfl (fun K hK => ?_) AllReadyH.nil
    go_simp
    refine (CI _ _ ((Below.refl _ _).alloc (Nat.le_refl _) _).drew (Nat.le_refl _) (by rw [drew_heap, heap_alloc, if_pos rfl])).out.mono ?_
    rintro e w6 ⟨fv', rfl, ho6, hb6, hout6⟩
    rw [HQ.out] at ho6
    obtain ⟨fa, fc, rfl⟩ := own_slice ho6
    have e3 := ins_cell hout6 c3 Hbf.out
    have g4 := (World.frozen?_of_block (a := ⟨b, 3, none⟩) (ins_block hout6 hbl Hbf.out)).trans g3
    have HO6 := Lib.hid ho6
    have HB6 := Lib.hid hb6
    have HU6 := Lib.hid hout6
    have hH6 := KS _ (Out.trans (Out.drew (Out.alloc (Out.refl _ _) _)) hout6 (fun _ h => .inl h))
    clear ho6 hb6 hout6
    go_wp2_with fail
    refine hK.out _ _ hH6 (fun hH => ?_)
    clear hK K
    refine wpAnyH_take (i := 9) (v := ?_) rfl (by kernel_rfl) (by kernel_rfl) (by kernel_rfl) (fun _ _ _ h => h) (Or.inl ⟨by rfl, ?hy9⟩) hH ?rs9
    case hy9 => intro w' hS'; obtain ⟨s1, s2, s3, s4⟩ := hS'; (try go_simp); (try (with_reducible rfl))
    case rs9 =>
    refine wpAnyH_take (i := 10) (v := ?_) rfl (by kernel_rfl) (by kernel_rfl) (by kernel_rfl) (fun _ _ _ h => h) (Or.inl ⟨by rfl, ?hy10⟩) hH ?rs10
    case hy10 => intro w' hS'; obtain ⟨s1, s2, s3, s4⟩ := hS'; (try go_simp); (try (with_reducible rfl))
    case rs10 =>
    refine wpAnyH_ready (rs := [11]) (by kernel_rfl) (by simp) ?_
    refine AllReadyH.cons rfl (fun K hK => ?_) AllReadyH.nil
    go_simp
    refine hK.out _ _ ⟨by rw [World.cell?_of_block (setCell_heap_other _ _ _ _ _ n2)]; exact hH6.1, by rw [World.cell?_of_block (setCell_heap_other _ _ _ _ _ ny)]; exact hH6.2.1, by rw [World.cell?_of_block (setCell_heap_other _ _ _ _ _ ny)]; exact hH6.2.2.1, by rw [World.cell?_of_block (setCell_heap_other _ _ _ _ _ ny)]; exact hH6.2.2.2⟩ (fun hH => ?_)
    clear hK K
    refine wpAnyH_done (by kernel_rfl) ?_ _
    go_wp2_with fail
    go_end0
    obtain ⟨fv6, hF6, hO6⟩ := KF w6 fa fc HO6.out HB6.out HU6.out
    exact ⟨rfl, _, ⟨fv6, kv, hF6.out⟩, fun k hk => hk.elim (MM k) (fun h => .inr (by omega)), HOW.out.trans hO6.out MM⟩
end Go.Proofs.Ytmoaecicibjmnaa

namespace Go.Proofs.Ytmoaecicibjmnaa
open Go.RowKit

def renE (F : FR) (a c : ByteArray) : Int := if hasE F a = 0 then (if namedB c = true then (if F.left = 0 then 51 else 0) else 2) else hasE F a
def renameF (F : FR) (a c : ByteArray) : FR := if hasE F a = 0 ∧ namedB c = true then doneF F (renF F a c (fileX F a)) else F
set_option maxHeartbeats 4000000 in
set_option maxRecDepth 100000 in
theorem rename_any {M : Nat → Prop} {b : Nat} {F : FR} (w : World) (h : FSAt M w b F) (hG : Sound F) (a c : ByteArray) :
    Calls Try.prog 25 #[.pointer (some ⟨b, 0, none⟩), .string a, .string c] w fun e w' => e = .returned (.int .i64 (renE F a c)) ∧ Turned M w w' b (renameF F a c) := by
  have hmf : ∀ (fn : Fn) (first cap : Array Value) (w : World), (Instr.makeFunc fn first cap).run Try.prog w = .ok (.func fn first cap) w := fun _ _ _ _ => rfl
  have H := Lib.hid h
  have HG := Lib.hid hG
  obtain ⟨R, hR⟩ : ∃ R, R = renameF F a c := ⟨_, rfl⟩
  obtain ⟨E, hE⟩ : ∃ E, E = renE F a c := ⟨_, rfl⟩
  have HR := Lib.hid hR
  have HE := Lib.hid hE
  rw [← hR, ← hE]
  clear h hG hR hE
  go_enter Try.func25, Try.ntmps25
  go_upto_region 1 with fail
  obtain ⟨W, hW, hbW, hsW, x3, x4, x5⟩ := three_new w (.pointer (some ⟨b, 0, none⟩)) (.string a) (.string c) 25 9 9
  rw [hW]
  clear hW
  have nM : ∀ k, w.heap.size ≤ k → ¬ M k := fun k hk hm => by have := H.out.lt k hm; omega
  by_cases hz : hasE F a = 0
  · obtain ⟨ho, hi⟩ := hasE_ok hz
    obtain ⟨x, hx, hxn⟩ := isAt_get hi
    have hfx : fileX F a = x := by unfold fileX; rw [hx]; rfl
    obtain ⟨fv, kv, hf⟩ := H.out
    have C1 := Lib.hid (has_ok (hf.below hbW) HG.out a hz)
    have HF := Lib.hid hf
    have HO := Lib.hid ho
    have HX := Lib.hid hx
    have HZ := Lib.hid hz
    have HFX := Lib.hid hfx
    have C2 := fun w1 => Lib.hid (named_any c w1)
    clear hf hz ho hi hxn hx hfx
    go_wp2_with fail
    (with_reducible refine C1.out.mono ?_); rintro e w2 ⟨⟨g, cap, rfl, rfl⟩, hb2⟩
    go_upto_region 2 with fail
    obtain ⟨W2, hW2, hbW2, hsW2, y2, hfy⟩ := one_new w2 (.pointer (some ⟨g, place F.files a * 3, none⟩)) 97
    rw [hW2]
    clear hW2 hfy
    have z3 := cell_later hbW2 (cell_later hb2 x3)
    have z4 := cell_later hbW2 (cell_later hb2 x4)
    have z5 := cell_later hbW2 (cell_later hb2 x5)
    have hB := below_tr (below_tr hbW hb2) hbW2
    have hs2 := hb2.size
    by_cases hnm : namedB c = true
    · have HE2 : Hid (E = (if F.left = 0 then 51 else 0)) := Lib.hid (by rw [HE.out, renE, if_pos HZ.out, if_pos hnm])
      have HR2 : Hid (R = doneF F (renF F a c x)) := Lib.hid (by rw [HR.out, renameF, if_pos ⟨HZ.out, hnm⟩, HFX.out])
      rw [hnm] at C2
      clear hnm x3 x4 x5
      have hl : (renF F a c x).left = F.left := rfl
      have C4 := do_then (M := M) W2 ⟨_, kv, HF.out.below hB⟩ HG.out HO.out 61 #[.pointer (some ⟨w2.heap.size, 0, none⟩), .pointer (some ⟨w.heap.size + 1 + 1, 0, none⟩), .pointer (some ⟨w.heap.size, 0, none⟩), .pointer (some ⟨w.heap.size + 1, 0, none⟩)] (enters_of Try.func61 (by kernel_rfl) rfl) (renF F a c x) hl
        (fun _ w1 hb1 => rename1_any w1 ((HF.out.below hB).below hb1) HG.out a c HX.out rfl (cell_later hb1 y2) (cell_later hb1 z5) (cell_later hb1 z3) (cell_later hb1 z4) (nM _ (by omega)) (nM _ (Nat.le_refl _)) (nM _ (by omega)))
      rw [← HR2.out, ← HE2.out] at C4
      have C3 := Lib.hid C4
      clear C4 hl
      go_wp2_with fail
      (with_reducible refine (C2 _).out.mono ?_); rintro e w3 ⟨rfl, rfl⟩
      go_wp2_with fail
      (with_reducible refine C3.out.mono ?_); rintro e w4 ⟨rfl, ht4⟩
      have HT := Lib.hid ht4
      clear ht4
      go_wp2_with fail
      go_ret
      exact ⟨rfl, Turned.trans (fun k hk => .inl hk) (Out.of_below hB) HT.out⟩
    · have hnf : namedB c = false := by cases e : namedB c; rfl; exact absurd e hnm
      have HE2 : Hid (E = 2) := Lib.hid (by rw [HE.out, renE, if_pos HZ.out, if_neg hnm])
      have HR2 : Hid (R = F) := Lib.hid (by rw [HR.out, renameF, if_neg (fun h => hnm h.2)])
      rw [hnf] at C2
      clear hnm hnf x3 x4 x5
      go_wp2_with fail
      (with_reducible refine (C2 _).out.mono ?_); rintro e w3 ⟨rfl, rfl⟩
      go_wp2_with fail
      go_ret
      exact ⟨by rw [HE2.out]; rfl, by rw [HR2.out]; exact Turned.below H.out hB⟩
  · have C1 := Lib.hid (has_bad (H.out.below hbW) HG.out a hz)
    have hR2 : R = F := by rw [HR.out, renameF, if_neg (fun h => hz h.1)]
    have hE2 : E = hasE F a := by rw [HE.out, renE, if_neg hz]
    have hz' : (hasE F a != 0) = true := by simpa using hz
    generalize hasE F a = z at *
    have HR2 := Lib.hid hR2
    have HE2 := Lib.hid hE2
    clear hz hR2 hE2 HR HE
    go_wp2_with fail
    (with_reducible refine C1.out.mono ?_); rintro e w2 ⟨rfl, hb2⟩
    go_wp2_with fail
    go_ret
    exact ⟨by rw [HE2.out]; rfl, by rw [HR2.out]; exact Turned.below H.out ((below_tr hbW hb2).trans ((Below.refl _ _).alloc (below_tr hbW hb2).size _))⟩
def startE (F : FR) : Int := if F.off = true then 0 else 2
def startF (F : FR) : FR := if F.off = true then { F with off := false, starts := wrap64 (F.starts + 1) } else F
set_option maxRecDepth 100000 in
theorem start_any {M : Nat → Prop} {b : Nat} {F : FR} (w : World) (h : FSAt M w b F) (hG : Sound F) :
    Calls Try.prog 27 #[.pointer (some ⟨b, 0, none⟩)] w fun e w' => e = .returned (.int .i64 (startE F)) ∧ Turned M w w' b (startF F) := by
  have C1 := Lib.hid (on_any h hG.lim)
  unfold onE at C1
  obtain ⟨fv, kv, h⟩ := h
  have H := Lib.hid h
  have c1 := h.box.c1
  have c2 := h.box.c2
  have f1 := h.box.free 1
  have f2 := h.box.free 2
  by_cases ho : F.off = true
  · rw [if_pos ho] at C1
    obtain ⟨R, hR⟩ : ∃ R, R = startF F := ⟨_, rfl⟩
    have HR : Hid (R = { F with off := false, starts := wrap64 (F.starts + 1) }) := Lib.hid (by rw [hR, startF, if_pos ho])
    rw [← hR, startE, if_pos ho]
    clear h hG ho hR
    go_enter Try.func27, Try.ntmps27
    go_wp2_with fail
    (with_reducible refine C1.out.mono ?_); rintro e w2 ⟨rfl, rfl⟩
    go_wp2_with fail
    go_ret
    refine ⟨rfl, M, ⟨fv, kv, ?_⟩, fun k hk => .inl hk, ((Out.refl _ _).set (.inl H.out.mb) _ _).set (.inl H.out.mb) _ _⟩
    rw [HR.out]
    exact H.out.turn _ rfl ((H.out.box.s2 _).s1 _) (own_eq H.out.own fun c hc => by rw [setCell_heap_other _ _ _ _ _ (H.out.mf c hc).2, setCell_heap_other _ _ _ _ _ (H.out.mf c hc).2]) (by rw [size_set, size_set]; exact Nat.le_refl _) (fun c _ hc _ => by rw [setCell_heap_other _ _ _ _ _ hc, setCell_heap_other _ _ _ _ _ hc])
  · rw [if_neg ho] at C1
    have hR : startF F = F := by rw [startF, if_neg ho]
    rw [hR, startE, if_neg ho]
    clear h hG ho hR
    go_enter Try.func27, Try.ntmps27
    go_wp2_with fail
    (with_reducible refine C1.out.mono ?_); rintro e w2 ⟨rfl, rfl⟩
    go_wp2_with fail
    go_ret
    exact ⟨rfl, Turned.below ⟨fv, kv, H.out⟩ (Below.refl _ _)⟩
end Go.Proofs.Ytmoaecicibjmnaa

namespace Go.Proofs.Ytmoaecicibjmnaa
open Go.RowKit

def intVs (l : List Int) : List Value := l.map fun n => Value.int .i64 n
theorem ints_of_own {B : Nat} {e : TypeId} {w : World} {v : Value} {l : List Int} (h : w.ownsRow B e 1 v l.length (intVs l)) : IntsIn (fun k => B ≤ k) w v l := by
  rcases h.2 with ⟨rfl, h0⟩ | ⟨g, cap, cu, rfl, hBg, hgg, _, _, _, ht⟩
  · exact ⟨none, 0, by rw [h0], fun hne => absurd (List.eq_nil_of_length_eq_zero h0) hne⟩
  · refine ⟨_, _, rfl, fun _ => ⟨g, 0, rfl, (Array.getElem?_eq_some_iff.1 hgg).1, hBg, fun j hj => ?_⟩⟩
    rw [Nat.zero_add, h.cellAt j (by omega)]
    simp [intVs, hj]
theorem intVs_one (l : List Int) : ∀ u ∈ intVs l, u.oneCell' = true := by
  intro u hu
  obtain ⟨n, _, rfl⟩ := List.mem_map.1 hu
  rfl
set_option maxHeartbeats 2000000 in
set_option maxRecDepth 100000 in
theorem cloneInts_any {P : Nat → Prop} {w : World} {v : Value} {l : List Int} (h : IntsIn P w v l) (hl : l.length ≤ 1000000) :
    Calls Try.prog 53 #[v] w fun e w' => (∃ v', e = .returned v' ∧ IntsIn (fun k => w.heap.size ≤ k) w' v' l) ∧ Below w.heap.size w w' := by
  have qT : ∀ (w : World) (a : Option Addr) (n c n' c' : Nat), (binOp .eql 33 (.slice a n c) (.slice none n' c')).run Try.prog w = .ok (.bool a.isNone) w := fun w a n c n' c' => Lib.run_eql_slice_nil w _ _ a n c n' c' Try.underlying33
  obtain ⟨a, c, rfl, hc⟩ := h
  cases a with
  | none =>
    have h0 : l = [] := by
      by_cases hne : l = []
      · exact hne
      · obtain ⟨_, _, h1, _⟩ := hc hne; cases h1
    subst h0
    clear hc
    go_enter Try.func53, Try.ntmps53
    go_wp2_with fail
    go_ret
    exact ⟨⟨_, rfl, none, 0, rfl, fun h => absurd rfl h⟩, Below.refl _ _⟩
  | some ad =>
    obtain ⟨i0, hi0, hz⟩ := Option.map_eq_some_iff.1 (show (Try.prog.info? 3).map (fun i => (i.zero, i.size, i.bytes)) = some (some (.int .i64 0), 1, 8) by kernel_rfl)
    simp only [Prod.mk.injEq] at hz
    obtain ⟨hz1, hz2, hz3⟩ := hz
    have hmade := World.ownsRow_made (e := 3) (size := 1) (base := w.heap.size) w #[] 0 (Nat.le_refl _) (Nat.zero_le _) rfl
    obtain ⟨v', w', hrun, r1, r2, _⟩ := run_append_own (P := Try.prog) (w.alloc (.cells #[] 3)) w.heap.size 33 33 3 i0 _ 1 8 (by kernel_rfl) hi0 hz1 hz2 hz3 rfl (by decide) (.slice (some ⟨w.heap.size, 0, none⟩) 0 0) 0 [] hmade ad l.length c (intVs l) (by rw [intVs, List.length_map, Nat.mul_one])
      (fun j u hj => by
        have hjl : j < l.length := by have := (List.getElem?_eq_some_iff.1 hj).1; rwa [intVs, List.length_map] at this
        obtain ⟨kb, ko, he, hlt, _, hcell⟩ := hc (by intro e; rw [e] at hjl; simp at hjl)
        injection he with he
        subst he
        rw [add_plain]
        refine Lib.cell?_alloc_some _ ?_
        rw [hcell j hjl]
        simp [intVs, hjl] at hj
        simp [hjl, hj]) (intVs_one l) (by unfold maxLen; omega) (by omega) (by rw [size_alloc]; omega)
    rw [Nat.zero_add, List.nil_append] at r1
    have hb : Below w.heap.size w w' := ((Below.refl _ _).alloc (Nat.le_refl _) _).grown r2 (by rw [size_alloc]; omega) fun k hk => by injection hk with hk; exact Nat.le_of_eq hk
    have HI := Lib.hid (ints_of_own r1)
    have HB := Lib.hid hb
    obtain ⟨fa, fc, rfl⟩ := own_slice r1
    clear r1 r2 hb hmade hc hi0 hz1 hz2 hz3
    go_enter Try.func53, Try.ntmps53
    go_wp2_with (at_builtin; refine Lib.wpList_append_run _ rfl _ _ _ _ rfl _ _ rfl rfl _ _ hrun ?_)
    go_ret
    exact ⟨⟨_, rfl, HI.out⟩, HB.out⟩
def failE (F : FR) (n : Int) : Int := if F.off = true then 51 else if n < 0 then 2 else 0
def failF (F : FR) (n : Int) (l : List Int) : FR := if F.off = true ∨ n < 0 then F else { F with left := n, keep := l }
set_option maxHeartbeats 2000000 in
set_option maxRecDepth 100000 in
theorem fail_any {M P : Nat → Prop} {b : Nat} {F : FR} (w : World) (h : FSAt M w b F) (hG : Sound F) (n : Int) {v : Value} {l : List Int} (hv : IntsIn P w v l) (hl : l.length ≤ 1000000) :
    Calls Try.prog 22 #[.pointer (some ⟨b, 0, none⟩), .int .i64 n, v] w fun e w' => e = .returned (.int .i64 (failE F n)) ∧ Turned M w w' b (failF F n l) := by
  have C1 := Lib.hid (on_any h hG.lim)
  unfold onE at C1
  have C2 := Lib.hid (cloneInts_any hv hl)
  obtain ⟨ka, kc, rfl⟩ := hv.val
  obtain ⟨fv, kv, h⟩ := h
  have H := Lib.hid h
  have c4 := h.box.c4
  have c5 := h.box.c5
  have f4 := h.box.free 4
  have f5 := h.box.free 5
  have hbl := h.box.lt
  obtain ⟨R, hR⟩ : ∃ R, R = failF F n l := ⟨_, rfl⟩
  obtain ⟨E, hE⟩ : ∃ E, E = failE F n := ⟨_, rfl⟩
  have HR := Lib.hid hR
  have HE := Lib.hid hE
  rw [← hR, ← hE]
  clear h hG hv hR hE
  by_cases ho : F.off = true
  · rw [if_pos ho] at C1
    have HE2 : Hid (E = 51) := Lib.hid (by rw [HE.out, failE, if_pos ho])
    have HR2 : Hid (R = F) := Lib.hid (by rw [HR.out, failF, if_pos (.inl ho)])
    clear ho
    go_enter Try.func22, Try.ntmps22
    go_wp2_with fail
    (with_reducible refine C1.out.mono ?_); rintro e w2 ⟨rfl, rfl⟩
    go_wp2_with fail
    go_ret
    exact ⟨by rw [HE2.out]; rfl, by rw [HR2.out]; exact Turned.below ⟨fv, kv, H.out⟩ (Below.refl _ _)⟩
  · rw [if_neg ho] at C1
    by_cases hn : n < 0
    · have HE2 : Hid (E = 2) := Lib.hid (by rw [HE.out, failE, if_neg ho, if_pos hn])
      have HR2 : Hid (R = F) := Lib.hid (by rw [HR.out, failF, if_pos (.inr hn)])
      clear ho
      go_enter Try.func22, Try.ntmps22
      go_wp2_with fail
      (with_reducible refine C1.out.mono ?_); rintro e w2 ⟨rfl, rfl⟩
      go_wp2_with fail
      go_ret
      exact ⟨by rw [HE2.out]; rfl, by rw [HR2.out]; exact Turned.below ⟨fv, kv, H.out⟩ (Below.refl _ _)⟩
    · have HE2 : Hid (E = 0) := Lib.hid (by rw [HE.out, failE, if_neg ho, if_neg hn])
      have HR2 : Hid (R = { F with left := n, keep := l }) := Lib.hid (by rw [HR.out, failF, if_neg (by rintro (h | h); exact ho h; exact hn h)])
      clear ho
      go_enter Try.func22, Try.ntmps22
      go_wp2_with fail
      (with_reducible refine C1.out.mono ?_); rintro e w2 ⟨rfl, rfl⟩
      go_wp2_with fail
      (with_reducible refine C2.out.mono ?_); rintro e w3 ⟨⟨v', rfl, hi3⟩, hb3⟩
      obtain ⟨ka', kc', rfl⟩ := hi3.val
      rw [← hb3.cell (p := ⟨b, 4, none⟩) hbl] at c4
      rw [← hb3.cell (p := ⟨b, 5, none⟩) hbl] at c5
      rw [← hb3.frozen (p := ⟨b, 4, none⟩) hbl] at f4
      rw [← hb3.frozen (p := ⟨b, 5, none⟩) hbl] at f5
      have HI := Lib.hid hi3
      clear hi3
      go_wp2_with fail
      go_ret
      have hs := hb3.size
      have hf3 := H.out.below hb3
      refine ⟨by rw [HE2.out]; rfl, fun k => M k ∨ (w2.heap.size ≤ k ∧ k < w3.heap.size), ⟨fv, .slice ka' l.length kc', ?_⟩, fun k hk => hk.imp id And.left, ((Out.of_below hb3).set (.inl H.out.mb) _ _).set (.inl H.out.mb) _ _⟩
      rw [HR2.out]
      exact {
        box := (hf3.box.s4 _).s5 _
        own := own_eq hf3.own fun c hc => by rw [setCell_heap_other _ _ _ _ _ (H.out.mf c hc).2, setCell_heap_other _ _ _ _ _ (H.out.mf c hc).2]
        ints := HI.out.eq (by rw [size_set, size_set]; exact Nat.le_refl _) fun k hk hm => ⟨by rw [setCell_heap_other _ _ _ _ _ (by omega), setCell_heap_other _ _ _ _ _ (by omega)], .inr ⟨hm, hk⟩, by omega, fun e => by have := H.out.lt k (H.out.mf k e).1; omega⟩
        mb := .inl H.out.mb
        mf := fun k hk => ⟨.inl (H.out.mf k hk).1, (H.out.mf k hk).2⟩
        lt := fun k hk => by rw [size_set, size_set]; rcases hk with hk | hk; have := H.out.lt k hk; omega; exact hk.2 }
end Go.Proofs.Ytmoaecicibjmnaa

namespace Go.Proofs.Ytmoaecicibjmnaa
open Go.RowKit

def crashE (F : FR) : Int := if F.off = true then 51 else 0
def crashG (F : FR) (l : List Int) : FR := if F.off = true then F else crashF F l
theorem crash_any {M : Nat → Prop} {b : Nat} {F : FR} (w : World) (h : FSAt M w b F) (hG : Sound F) {v : Value} {l : List Int} (hv : IntsIn (fun k => ¬ M k) w v l) (hl : l.length ≤ 1000000) :
    Calls Try.prog 36 #[.pointer (some ⟨b, 0, none⟩), v] w fun e w' => e = .returned (.int .i64 (crashE F)) ∧ Turned M w w' b (crashG F l) := by
  by_cases ho : F.off = true
  · rw [crashE, if_pos ho, crashG, if_pos ho]
    refine (crash_off h hG ho v).mono ?_
    rintro e w' ⟨he, rfl⟩
    exact ⟨he, Turned.below h (Below.refl _ _)⟩
  · have ho' : F.off = false := by cases e : F.off; rfl; exact absurd e ho
    rw [crashE, if_neg ho, crashG, if_neg ho]
    obtain ⟨fv, kv, h⟩ := h
    refine (crash_in h hG ho' (hv.eq (Nat.le_refl _) fun k _ hm => ⟨rfl, fun e => hm (by rw [e]; exact h.mb), fun e => hm (h.mf k e).1⟩) (by omega)).mono ?_
    rintro e w' ⟨he, hf, hout⟩
    exact ⟨he, M, ⟨fv, kv, hf⟩, fun k hk => .inl hk, hout⟩

/-- What is done to a file system. -/
structure DoR where
  what : Nat
  A : ByteArray
  B : ByteArray
  S : ByteArray
  N : Int
  K : List Int
def withE (F : FR) (d : DoR) : Int :=
  match d.what % 12 with
  | 3 => strokeE F d.A
  | 4 => strokeE F d.A
  | 5 => cutE F d.A d.N
  | 6 => renE F d.A d.B
  | 7 => strokeE F d.A
  | 8 => crashE F
  | 9 => startE F
  | 10 => startE F
  | 11 => failE F d.N
  | _ => appE F d.A d.S
def withF (F : FR) (d : DoR) : FR :=
  match d.what % 12 with
  | 3 => syncF F d.A
  | 4 => syncF F d.A
  | 5 => cutF F d.A d.N
  | 6 => renameF F d.A d.B
  | 7 => removeF F d.A
  | 8 => crashG F d.K
  | 9 => startF F
  | 10 => startF F
  | 11 => failF F d.N d.K
  | _ => appF F d.A d.S
/-- A value of that kind. -/
def DoAt (P : Nat → Prop) (w : World) (v : Value) (d : DoR) : Prop :=
  ∃ kv, v = .agg #[.int .u8 (d.what : Int), .string d.A, .string d.B, .string d.S, .int .i64 d.N, kv] ∧ IntsIn P w kv d.K
theorem six_new (w : World) (v0 v1 v2 v3 v4 v5 : Value) (t : TypeId) : ∃ W, w.alloc (.cells #[v0, v1, v2, v3, v4, v5] t) = W ∧ Below w.heap.size w W ∧ W.cell? ⟨w.heap.size, 0, none⟩ = some v0 ∧ W.cell? ⟨w.heap.size, 1, none⟩ = some v1 ∧ W.cell? ⟨w.heap.size, 2, none⟩ = some v2 ∧ W.cell? ⟨w.heap.size, 3, none⟩ = some v3 ∧ W.cell? ⟨w.heap.size, 4, none⟩ = some v4 ∧ W.cell? ⟨w.heap.size, 5, none⟩ = some v5 := by
  have h : (w.alloc (.cells #[v0, v1, v2, v3, v4, v5] t)).heap[w.heap.size]? = some (.cells #[v0, v1, v2, v3, v4, v5] t (0, 0)) := by rw [heap_alloc, if_pos rfl]
  exact ⟨_, rfl, (Below.refl _ _).alloc (Nat.le_refl _) _, cell_at h 0, cell_at h 1, cell_at h 2, cell_at h 3, cell_at h 4, cell_at h 5⟩
set_option maxHeartbeats 8000000 in
set_option maxRecDepth 100000 in
theorem with_any {M : Nat → Prop} {b : Nat} {F : FR} (w : World) (h : FSAt M w b F) (hG : Sound F) {v : Value} {d : DoR} (hd : DoAt (fun k => ¬ M k) w v d) (hw : d.what < 256) (hS : d.S.size ≤ 9223372036854775807) (hKl : d.K.length ≤ 1000000) :
    Calls Try.prog 18 #[.pointer (some ⟨b, 0, none⟩), v] w fun e w' => e = .returned (.int .i64 (withE F d)) ∧ Turned M w w' b (withF F d) := by
  obtain ⟨kv, rfl, hk⟩ := hd
  obtain ⟨ka, kc, rfl⟩ := hk.val
  have H := Lib.hid h
  have HG := Lib.hid hG
  have HK := Lib.hid hk
  obtain ⟨R, hR⟩ : ∃ R, R = withF F d := ⟨_, rfl⟩
  obtain ⟨E, hE⟩ : ∃ E, E = withE F d := ⟨_, rfl⟩
  have HR := Lib.hid hR
  have HE := Lib.hid hE
  rw [← hR, ← hE]
  clear h hG hk hR hE
  go_enter Try.func18, Try.ntmps18
  go_upto_region 1 with fail
  obtain ⟨W, hW, hbW, c0, c1, c2, c3, c4, c5⟩ := six_new w (.int .u8 (d.what : Int)) (.string d.A) (.string d.B) (.string d.S) (.int .i64 d.N) (.slice ka d.K.length kc) 35
  rw [hW]
  clear hW
  have hkW : IntsIn (fun k => ¬ M k) W (.slice ka d.K.length kc) d.K := HK.out.eq hbW.size fun k hk hm => ⟨hbW.block k hk, hm⟩
  have hwi : (d.what : Int) % 12 = ((d.what % 12 : Nat) : Int) := by omega
  have h12 : d.what % 12 < 12 := Nat.mod_lt _ (by omega)
  obtain ⟨r, hr⟩ : ∃ r, r = d.what % 12 := ⟨_, rfl⟩
  rw [← hr] at hwi h12
  have HRR := Lib.hid hr
  clear hr
  have HKW := Lib.hid hkW
  clear hkW
  have hcase : r = 0 ∨ r = 1 ∨ r = 2 ∨ r = 3 ∨ r = 4 ∨ r = 5 ∨ r = 6 ∨ r = 7 ∨ r = 8 ∨ r = 9 ∨ r = 10 ∨ r = 11 := by omega
  rcases hcase with rfl | rfl | rfl | rfl | rfl | rfl | rfl | rfl | rfl | rfl | rfl | rfl
  · have C1 := append_any W (H.out.below hbW) HG.out d.A d.S hS
    have e1 : E = appE F d.A d.S := by (rw [HE.out, withE, ← HRR.out]) <;> rfl
    have e2 : R = appF F d.A d.S := by (rw [HR.out, withF, ← HRR.out]) <;> rfl
    rw [← e1, ← e2] at C1
    have C2 := Lib.hid C1
    clear C1 e1 e2
    go_wp2_with fail
    (with_reducible refine C2.out.mono ?_); rintro e w3 ⟨rfl, ht3⟩
    have HT := Lib.hid ht3
    clear ht3
    go_wp2_with fail
    go_ret
    exact ⟨rfl, Turned.trans (fun k hk => .inl hk) (Out.of_below hbW) HT.out⟩
  · have C1 := append_any W (H.out.below hbW) HG.out d.A d.S hS
    have e1 : E = appE F d.A d.S := by (rw [HE.out, withE, ← HRR.out]) <;> rfl
    have e2 : R = appF F d.A d.S := by (rw [HR.out, withF, ← HRR.out]) <;> rfl
    rw [← e1, ← e2] at C1
    have C2 := Lib.hid C1
    clear C1 e1 e2
    go_wp2_with fail
    (with_reducible refine C2.out.mono ?_); rintro e w3 ⟨rfl, ht3⟩
    have HT := Lib.hid ht3
    clear ht3
    go_wp2_with fail
    go_ret
    exact ⟨rfl, Turned.trans (fun k hk => .inl hk) (Out.of_below hbW) HT.out⟩
  · have C1 := append_any W (H.out.below hbW) HG.out d.A d.S hS
    have e1 : E = appE F d.A d.S := by (rw [HE.out, withE, ← HRR.out]) <;> rfl
    have e2 : R = appF F d.A d.S := by (rw [HR.out, withF, ← HRR.out]) <;> rfl
    rw [← e1, ← e2] at C1
    have C2 := Lib.hid C1
    clear C1 e1 e2
    go_wp2_with fail
    (with_reducible refine C2.out.mono ?_); rintro e w3 ⟨rfl, ht3⟩
    have HT := Lib.hid ht3
    clear ht3
    go_wp2_with fail
    go_ret
    exact ⟨rfl, Turned.trans (fun k hk => .inl hk) (Out.of_below hbW) HT.out⟩
  · have C1 := sync_any W (H.out.below hbW) HG.out d.A
    have e1 : E = strokeE F d.A := by (rw [HE.out, withE, ← HRR.out]) <;> rfl
    have e2 : R = syncF F d.A := by (rw [HR.out, withF, ← HRR.out]) <;> rfl
    rw [← e1, ← e2] at C1
    have C2 := Lib.hid C1
    clear C1 e1 e2
    go_wp2_with fail
    (with_reducible refine C2.out.mono ?_); rintro e w3 ⟨rfl, ht3⟩
    have HT := Lib.hid ht3
    clear ht3
    go_wp2_with fail
    go_ret
    exact ⟨rfl, Turned.trans (fun k hk => .inl hk) (Out.of_below hbW) HT.out⟩
  · have C1 := sync_any W (H.out.below hbW) HG.out d.A
    have e1 : E = strokeE F d.A := by (rw [HE.out, withE, ← HRR.out]) <;> rfl
    have e2 : R = syncF F d.A := by (rw [HR.out, withF, ← HRR.out]) <;> rfl
    rw [← e1, ← e2] at C1
    have C2 := Lib.hid C1
    clear C1 e1 e2
    go_wp2_with fail
    (with_reducible refine C2.out.mono ?_); rintro e w3 ⟨rfl, ht3⟩
    have HT := Lib.hid ht3
    clear ht3
    go_wp2_with fail
    go_ret
    exact ⟨rfl, Turned.trans (fun k hk => .inl hk) (Out.of_below hbW) HT.out⟩
  · have C1 := truncate_any W (H.out.below hbW) HG.out d.A d.N
    have e1 : E = cutE F d.A d.N := by (rw [HE.out, withE, ← HRR.out]) <;> rfl
    have e2 : R = cutF F d.A d.N := by (rw [HR.out, withF, ← HRR.out]) <;> rfl
    rw [← e1, ← e2] at C1
    have C2 := Lib.hid C1
    clear C1 e1 e2
    go_wp2_with fail
    (with_reducible refine C2.out.mono ?_); rintro e w3 ⟨rfl, ht3⟩
    have HT := Lib.hid ht3
    clear ht3
    go_wp2_with fail
    go_ret
    exact ⟨rfl, Turned.trans (fun k hk => .inl hk) (Out.of_below hbW) HT.out⟩
  · have C1 := rename_any W (H.out.below hbW) HG.out d.A d.B
    have e1 : E = renE F d.A d.B := by (rw [HE.out, withE, ← HRR.out]) <;> rfl
    have e2 : R = renameF F d.A d.B := by (rw [HR.out, withF, ← HRR.out]) <;> rfl
    rw [← e1, ← e2] at C1
    have C2 := Lib.hid C1
    clear C1 e1 e2
    go_wp2_with fail
    (with_reducible refine C2.out.mono ?_); rintro e w3 ⟨rfl, ht3⟩
    have HT := Lib.hid ht3
    clear ht3
    go_wp2_with fail
    go_ret
    exact ⟨rfl, Turned.trans (fun k hk => .inl hk) (Out.of_below hbW) HT.out⟩
  · have C1 := remove_any W (H.out.below hbW) HG.out d.A
    have e1 : E = strokeE F d.A := by (rw [HE.out, withE, ← HRR.out]) <;> rfl
    have e2 : R = removeF F d.A := by (rw [HR.out, withF, ← HRR.out]) <;> rfl
    rw [← e1, ← e2] at C1
    have C2 := Lib.hid C1
    clear C1 e1 e2
    go_wp2_with fail
    (with_reducible refine C2.out.mono ?_); rintro e w3 ⟨rfl, ht3⟩
    have HT := Lib.hid ht3
    clear ht3
    go_wp2_with fail
    go_ret
    exact ⟨rfl, Turned.trans (fun k hk => .inl hk) (Out.of_below hbW) HT.out⟩
  · have C1 := crash_any W (H.out.below hbW) HG.out HKW.out hKl
    have e1 : E = crashE F := by (rw [HE.out, withE, ← HRR.out]) <;> rfl
    have e2 : R = crashG F d.K := by (rw [HR.out, withF, ← HRR.out]) <;> rfl
    rw [← e1, ← e2] at C1
    have C2 := Lib.hid C1
    clear C1 e1 e2
    go_wp2_with fail
    (with_reducible refine C2.out.mono ?_); rintro e w3 ⟨rfl, ht3⟩
    have HT := Lib.hid ht3
    clear ht3
    go_wp2_with fail
    go_ret
    exact ⟨rfl, Turned.trans (fun k hk => .inl hk) (Out.of_below hbW) HT.out⟩
  · have C1 := start_any W (H.out.below hbW) HG.out
    have e1 : E = startE F := by (rw [HE.out, withE, ← HRR.out]) <;> rfl
    have e2 : R = startF F := by (rw [HR.out, withF, ← HRR.out]) <;> rfl
    rw [← e1, ← e2] at C1
    have C2 := Lib.hid C1
    clear C1 e1 e2
    go_wp2_with fail
    (with_reducible refine C2.out.mono ?_); rintro e w3 ⟨rfl, ht3⟩
    have HT := Lib.hid ht3
    clear ht3
    go_wp2_with fail
    go_ret
    exact ⟨rfl, Turned.trans (fun k hk => .inl hk) (Out.of_below hbW) HT.out⟩
  · have C1 := start_any W (H.out.below hbW) HG.out
    have e1 : E = startE F := by (rw [HE.out, withE, ← HRR.out]) <;> rfl
    have e2 : R = startF F := by (rw [HR.out, withF, ← HRR.out]) <;> rfl
    rw [← e1, ← e2] at C1
    have C2 := Lib.hid C1
    clear C1 e1 e2
    go_wp2_with fail
    (with_reducible refine C2.out.mono ?_); rintro e w3 ⟨rfl, ht3⟩
    have HT := Lib.hid ht3
    clear ht3
    go_wp2_with fail
    go_ret
    exact ⟨rfl, Turned.trans (fun k hk => .inl hk) (Out.of_below hbW) HT.out⟩
  · have C1 := fail_any W (H.out.below hbW) HG.out d.N HKW.out hKl
    have e1 : E = failE F d.N := by (rw [HE.out, withE, ← HRR.out]) <;> rfl
    have e2 : R = failF F d.N d.K := by (rw [HR.out, withF, ← HRR.out]) <;> rfl
    rw [← e1, ← e2] at C1
    have C2 := Lib.hid C1
    clear C1 e1 e2
    go_wp2_with fail
    (with_reducible refine C2.out.mono ?_); rintro e w3 ⟨rfl, ht3⟩
    have HT := Lib.hid ht3
    clear ht3
    go_wp2_with fail
    go_ret
    exact ⟨rfl, Turned.trans (fun k hk => .inl hk) (Out.of_below hbW) HT.out⟩
end Go.Proofs.Ytmoaecicibjmnaa

namespace Go.Proofs.Ytmoaecicibjmnaa
open Go.RowKit

theorem total_map_le (L L' : List PF) (hl : L'.length = L.length) (h : ∀ (i : Nat) (x y : PF), L[i]? = some x → L'[i]? = some y → y.pl.size + y.air.size ≤ x.pl.size + x.air.size) : total L' ≤ total L := by
  induction L generalizing L' with
  | nil => have : L' = [] := List.eq_nil_of_length_eq_zero (by simpa using hl); rw [this]; exact Nat.le_refl _
  | cons x L ih =>
    cases L' with
    | nil => simp at hl
    | cons y L' =>
      rw [total_cons, total_cons]
      have h0 := h 0 x y rfl rfl
      have := ih L' (by simpa using hl) fun i a c ha hc => h (i + 1) a c (by simpa using ha) (by simpa using hc)
      omega
theorem rising_same {L L' : List PF} (hL : Rising L) (h : L'.map PF.name = L.map PF.name) : Rising L' := by
  have h1 : ∀ l : List PF, Rising l ↔ (l.map PF.name).Pairwise fun a b => ltN a b = true := fun l => by unfold Rising; rw [List.pairwise_map]
  rw [h1, h, ← h1]; exact hL
theorem crash_names (L : List PF) (l : List Int) : (crashL L l).map PF.name = L.map PF.name := by
  apply List.ext_getElem?
  intro i
  rw [List.getElem?_map, List.getElem?_map]
  cases h : L[i]? with
  | none =>
    have : (crashL L l)[i]? = none := by
      rw [List.getElem?_eq_none_iff] at h ⊢
      unfold crashL; rw [crashTo_len]; exact h
    rw [this]
  | some x =>
    have := crashTo_get L l L.length i x h
    rw [if_pos (List.getElem?_eq_some_iff.1 h).1] at this
    unfold crashL
    rw [this]; rfl
theorem Sound.crash {F : FR} (h : Sound F) (l : List Int) : Sound (crashF F l) where
  lim1 := h.lim1
  lim2 := h.lim2
  cnt := by show (crashL F.files l).length ≤ 32; unfold crashL; rw [crashTo_len]; exact h.cnt
  asc := rising_same h.asc (crash_names F.files l)
  nam x hx := by
    have hm : x.name ∈ (crashL F.files l).map PF.name := List.mem_map_of_mem hx
    rw [crash_names] at hm
    obtain ⟨y, hy, he⟩ := List.mem_map.1 hm
    rw [← he]; exact h.nam y hy
  sum := by
    have : total (crashL F.files l) ≤ total F.files := total_map_le _ _ (by unfold crashL; rw [crashTo_len]) fun i x y hx hy => by
      have h2 := crashTo_get F.files l F.files.length i x hx
      rw [if_pos (List.getElem?_eq_some_iff.1 hx).1] at h2
      unfold crashL at hy
      rw [h2] at hy
      injection hy with hy
      subst hy
      show (x.pl ++ x.air.extract 0 _).size + ByteArray.empty.size ≤ _
      rw [ByteArray.size_append, ByteArray.size_extract]
      have : ByteArray.empty.size = 0 := rfl
      omega
    have := h.sum
    show ((total (crashL F.files l) : Nat) : Int) ≤ F.limit
    omega
  lf := by show (-1 : Int) ≤ _; omega
  kl := h.kl
theorem Sound.left {F : FR} (h : Sound F) (l : Int) (hl : l ≤ 9223372036854775807) : Sound { F with left := l } := ⟨h.lim1, h.lim2, h.cnt, h.asc, h.nam, h.sum, hl, h.kl⟩
theorem Sound.done {F F2 : FR} (h : Sound F) (h2 : Sound F2) : Sound (doneF F F2) := by
  unfold doneF
  split
  · exact h.crash _
  · split
    · exact h2.left _ (by have := h.lf; omega)
    · exact h2
theorem Sound.doneA {F : FR} (h : Sound F) : Sound (doneA F) := by
  unfold Go.Proofs.Ytmoaecicibjmnaa.doneA
  split
  · exact h.crash _
  · split
    · exact h.left _ (by have := h.lf; omega)
    · exact h
theorem Sound.sync {F : FR} (h : Sound F) (n : ByteArray) (hi : isAt F.files n = true) : Sound (setX F n syncX) := by
  obtain ⟨x, hx, _⟩ := isAt_get hi
  unfold setX
  rw [hx]
  refine h.put hx (syncX x) rfl ?_
  have : (syncX x).pl.size + (syncX x).air.size = x.pl.size + x.air.size := by
    show (x.pl ++ x.air).size + ByteArray.empty.size = _
    rw [ByteArray.size_append]; rfl
  rw [this]
  have := h.sum
  omega
theorem Sound.cut {F : FR} (h : Sound F) (n : ByteArray) (hi : isAt F.files n = true) (k : Int) : Sound (setX F n fun x => cutX x k) := by
  obtain ⟨x, hx, _⟩ := isAt_get hi
  unfold setX
  rw [hx]
  refine h.put hx (cutX x k) rfl ?_
  have : (cutX x k).pl.size + (cutX x k).air.size ≤ x.pl.size + x.air.size := by
    show (x.pl.extract 0 _).size + (x.air.extract 0 _).size ≤ _
    rw [ByteArray.size_extract, ByteArray.size_extract]; omega
  have := h.sum
  omega
/-- No file of a name is left behind a drop. -/
theorem drop_none {L : List PF} (hL : Rising L) (n : ByteArray) : isAt (dropL L n) n = false := by
  have key : ∀ y ∈ dropL L n, y.name ≠ n := by
    unfold dropL
    by_cases hi : isAt L n = true
    · rw [if_pos hi]
      obtain ⟨x, hx, hxn⟩ := isAt_get hi
      intro y hy hyn
      obtain ⟨j, hj⟩ := List.mem_iff_getElem?.1 hy
      rw [List.getElem?_eraseIdx] at hj
      split at hj
      · rename_i hlt
        have := rising_get hL hlt hj hx
        rw [hyn, hxn, ltN_irr] at this; cases this
      · rename_i hge
        have := rising_get hL (by omega) hx hj
        rw [hyn, hxn, ltN_irr] at this; cases this
    · rw [if_neg hi]
      intro y hy hyn
      obtain ⟨j, hj⟩ := List.mem_iff_getElem?.1 hy
      have hjl := (List.getElem?_eq_some_iff.1 hj).1
      have hp : place L n = j := place_eq L n j (Nat.le_of_lt hjl) (fun t x ht hx => by
        have := rising_get hL ht hx hj
        rw [hyn] at this; exact this) (fun x hx => by rw [hj] at hx; injection hx with hx; rw [← hx, hyn]; exact ltN_irr n)
      apply hi
      unfold isAt
      rw [hp, hj]
      exact decide_eq_true hyn
  unfold isAt
  split
  · rename_i x hx
    exact decide_eq_false (key x (List.mem_of_getElem? hx))
  · rfl
theorem Sound.ren {F : FR} (h : Sound F) (a c : ByteArray) (hi : isAt F.files a = true) (hc : namedB c = true) : Sound (renF F a c (fileX F a)) := by
  obtain ⟨x, hx, hxn⟩ := isAt_get hi
  have hfx : fileX F a = x := by unfold fileX; rw [hx]; rfl
  rw [hfx]
  have h2 := (h.drop a).drop c
  have hno : isAt (dropF (dropF F a) c).files c = false := drop_none (h.drop a).asc c
  have hlen1 : (dropF F a).files.length = F.files.length - 1 := by
    show (dropL F.files a).length = _
    unfold dropL; rw [if_pos hi, List.length_eraseIdx, if_pos (isAt_lt hi)]
  have hle : ∀ (G : FR) n, (dropF G n).files.length ≤ G.files.length := fun G n => by
    show (dropL G.files n).length ≤ _
    unfold dropL
    split
    · exact (List.eraseIdx_sublist _ _).length_le
    · exact Nat.le_refl _
  have htle : ∀ (G : FR) n, total (dropF G n).files ≤ total G.files := fun G n => by
    show total (dropL G.files n) ≤ _
    unfold dropL
    split
    · rename_i hg
      obtain ⟨z, hz, _⟩ := isAt_get hg
      have hlt := isAt_lt hg
      generalize place G.files n = k at *
      have e1 : G.files.take k ++ z :: G.files.drop (k + 1) = G.files := by
        rw [← (List.getElem?_eq_some_iff.1 hz).2, ← List.drop_eq_getElem_cons hlt, List.take_append_drop]
      have e3 := congrArg total e1
      rw [total_app, total_cons] at e3
      rw [List.eraseIdx_eq_take_drop_succ, total_app]; omega
    · exact Nat.le_refl _
  have ht1 : total (dropF F a).files + (x.pl.size + x.air.size) = total F.files := by
    show total (dropL F.files a) + _ = _
    unfold dropL
    rw [if_pos hi]
    have hlt := isAt_lt hi
    clear hlen1 htle hle hno h2 hfx
    generalize place F.files a = k at *
    have e1 : F.files.take k ++ x :: F.files.drop (k + 1) = F.files := by
      rw [← (List.getElem?_eq_some_iff.1 hx).2, ← List.drop_eq_getElem_cons hlt, List.take_append_drop]
    have e3 := congrArg total e1
    rw [total_app, total_cons] at e3
    rw [List.eraseIdx_eq_take_drop_succ, total_app]; omega
  have hcn := hle (dropF F a) c
  have htc := htle (dropF F a) c
  have hlt := isAt_lt hi
  have hcnt := h.cnt
  have hsum := h.sum
  unfold renF
  exact {
    lim1 := h.lim1
    lim2 := h.lim2
    cnt := by
      show (insL (dropF (dropF F a) c).files _ _).length ≤ 32
      unfold insL
      rw [List.length_append, List.length_cons, List.length_take, List.length_drop]; omega
    asc := rising_ins h2.asc (renX x c) hno
    nam := fun z hz => by
      rcases mem_ins hz with rfl | hz
      · unfold namedB at hc
        simp only [Bool.and_eq_true, decide_eq_true_eq] at hc
        exact ⟨hc.1, hc.2⟩
      · exact h2.nam z hz
    sum := by
      show ((total (insL (dropF (dropF F a) c).files _ (renX x c)) : Nat) : Int) ≤ F.limit
      rw [total_ins]
      show ((total (dropF (dropF F a) c).files + (x.pl.size + x.air.size) : Nat) : Int) ≤ F.limit
      omega
    lf := h.lf
    kl := h.kl }
theorem Sound.with' {F : FR} (h : Sound F) (d : DoR) (hN : d.N ≤ 9223372036854775807) (hK : d.K.length ≤ 1000000) : Sound (withF F d) := by
  have hst : ∀ n, hasE F n = 0 → isAt F.files n = true := fun n hz => (hasE_ok hz).2
  have happ : Sound (appF F d.A d.S) := by
    unfold appF
    split
    · exact h
    · rename_i hn
      have hn1 : namedB d.A = true := by cases e : namedB d.A; exact absurd (.inr (.inl e)) hn; rfl
      have hf : fullB F d.A d.S = false := by cases e : fullB F d.A d.S; rfl; exact absurd (.inr (.inr e)) hn
      unfold fullB at hf
      simp only [Bool.or_eq_false_iff, decide_eq_false_iff_not] at hf
      refine (h.app d.A d.S hn1 (fun h0 => ?_) (by omega)).doneA
      have := hf.1
      rw [h0] at this
      simpa using this
  have hsync : Sound (syncF F d.A) := by
    unfold syncF
    split
    · rename_i hz; exact h.done (h.sync d.A (hst _ hz))
    · exact h
  have hcut : Sound (cutF F d.A d.N) := by
    unfold cutF
    split
    · rename_i hz; exact h.done (h.cut d.A (hst _ hz.1) d.N)
    · exact h
  have hren : Sound (renameF F d.A d.B) := by
    unfold renameF
    split
    · rename_i hz; exact h.done (h.ren d.A d.B (hst _ hz.1) hz.2)
    · exact h
  have hrem : Sound (removeF F d.A) := by
    unfold removeF
    split
    · exact h.done (h.drop d.A)
    · exact h
  have hcr : Sound (crashG F d.K) := by
    unfold crashG
    split
    · exact h
    · exact h.crash _
  have hsta : Sound (startF F) := by
    unfold startF
    split
    · exact ⟨h.lim1, h.lim2, h.cnt, h.asc, h.nam, h.sum, h.lf, h.kl⟩
    · exact h
  have hfa : Sound (failF F d.N d.K) := by
    unfold failF
    split
    · exact h
    · exact ⟨h.lim1, h.lim2, h.cnt, h.asc, h.nam, h.sum, hN, Nat.le_trans hK (by omega)⟩
  unfold withF
  split <;> assumption
end Go.Proofs.Ytmoaecicibjmnaa

namespace Go.Proofs.Ytmoaecicibjmnaa
open Go.RowKit

theorem take_step {α : Type} [DecidableEq α] (L1 L2 : List α) (k : Nat) (h1 : k < L1.length) (h2 : k < L2.length) (he : L1.take k = L2.take k) : (L1.take (k + 1) = L2.take (k + 1)) ↔ L1[k]? = L2[k]? := by
  rw [List.take_add_one, List.take_add_one, he]
  constructor
  · intro h
    have := List.append_cancel_left h
    rw [List.getElem?_eq_getElem h1, List.getElem?_eq_getElem h2] at this ⊢
    simpa using this
  · intro h; rw [h]
/-- A slice of texts. -/
def TextsAt (w : World) (v : Value) (T : List ByteArray) : Prop :=
  ∃ a c, v = .slice a T.length c ∧ (T ≠ [] → ∃ b o, a = some ⟨b, o, none⟩ ∧ b < w.heap.size ∧ ∀ j, (h : j < T.length) → w.cell? ⟨b, o + j, none⟩ = some (.string T[j]))

set_option maxRecDepth 100000 in
set_option maxHeartbeats 2000000 in
theorem tsame_any (v1 v2 : Value) (T1 T2 : List ByteArray) (w : World) (h1 : TextsAt w v1 T1) (h2 : TextsAt w v2 T2) (hb : T1.length ≤ 1000000) (hb2 : T2.length ≤ 1000000) :
    Calls Try.prog 19 #[v1, v2] w fun e w' => e = .returned (.bool (decide (T1 = T2))) ∧ Below w.heap.size w w' := by
  obtain ⟨a1, k1, rfl, hc1⟩ := h1
  obtain ⟨a2, k2, rfl, hc2⟩ := h2
  have Hc1 := Lib.hid hc1
  have Hc2 := Lib.hid hc2
  clear hc1 hc2
  obtain ⟨n1, hn1⟩ : ∃ n, n = T1.length := ⟨_, rfl⟩
  obtain ⟨n2, hn2⟩ : ∃ n, n = T2.length := ⟨_, rfl⟩
  have H1 := Lib.hid hn1
  have H2 := Lib.hid hn2
  rw [← hn1] at hb ⊢
  rw [← hn2] at hb2 ⊢
  clear hn1 hn2
  go_enter Try.func19, Try.ntmps19
  by_cases hn : n1 = n2
  · subst hn
    go_wp2_with fail
    go_loopw [5] (fun i wr => ∃ k : Nat, k ≤ n1 ∧ i = .int .i64 k ∧ Hid (T1.take k = T2.take k) ∧ Below w.heap.size w wr) (fun i _ => n1 - (intOf i).toNat)
    case atStart => exact ⟨0, Nat.zero_le _, rfl, Lib.hid rfl, Below.refl _ _⟩
    case round =>
      obtain ⟨k, hk, rfl, he, hbel⟩ := hrel
      by_cases h : k < n1
      · obtain ⟨b1, o1, rfl, s1, hr1⟩ := Hc1.out (by intro e; rw [H1.out, e] at h; simp at h)
        obtain ⟨b2, o2, rfl, s2, hr2⟩ := Hc2.out (by intro e; rw [H2.out, e] at h; simp at h)
        have l1 : k < T1.length := by rw [← H1.out]; exact h
        have l2 : k < T2.length := by rw [← H2.out]; exact h
        have m1 := (hbel.cell (p := ⟨b1, o1 + k, none⟩) s1).trans (hr1 k l1)
        have m2 := (hbel.cell (p := ⟨b2, o2 + k, none⟩) s2).trans (hr2 k l2)
        have hst : (T1.take (k + 1) = T2.take (k + 1)) ↔ T1[k]? = T2[k]? := take_step T1 T2 k l1 l2 he.out
        rw [List.getElem?_eq_getElem l1, List.getElem?_eq_getElem l2] at hst
        clear hr1 hr2
        obtain ⟨x1, hx1⟩ : ∃ x, x = T1[k] := ⟨_, rfl⟩
        obtain ⟨x2, hx2⟩ : ∃ x, x = T2[k] := ⟨_, rfl⟩
        rw [← hx1] at m1 hst
        rw [← hx2] at m2 hst
        by_cases hd : x1 = x2
        · have hnext := Lib.hid (hst.2 (by rw [hd]))
          clear hst hx1 hx2
          subst hd
          go_wp2_with fail
          go_region
          all_goals
            go_wp2_with fail
            refine ⟨⟨k + 1, by omega, by go_num, hnext, hbel.drew⟩, ?_⟩
            simp [intOf]; omega
        · have hne : T1 ≠ T2 := fun e => hd (by rw [hx1, hx2]; subst e; rfl)
          have Hne := Lib.hid hne
          have hd2 : (x1.toList == x2.toList) = false := by
            cases hb : (x1.toList == x2.toList) with
            | false => rfl
            | true =>
              exfalso; apply hd
              rw [ByteArray.toList_eq, ByteArray.toList_eq] at hb
              cases x1; cases x2
              congr 1
              simpa using hb
          clear hst hx1 hx2 hne
          go_wp2_with fail
          go_region
          all_goals
            go_wp2_with fail
            go_ret
            exact ⟨by simp [Hne.out], hbel.drew⟩
      · have hL : T1 = T2 := by
          have hx := he.out
          rwa [List.take_of_length_le (by rw [← H1.out]; omega), List.take_of_length_le (by rw [← H2.out]; omega)] at hx
        have HL := Lib.hid hL
        clear hL
        go_wp2_with fail
        go_ret
        exact ⟨by rw [HL.out]; simp, hbel⟩
  · have hne : T1 ≠ T2 := fun e => hn (by rw [H1.out, H2.out, e])
    go_wp2_with fail
    go_ret
    exact ⟨by simp [hne], by go_grown⟩
set_option maxRecDepth 100000 in
set_option maxHeartbeats 2000000 in
theorem numbers_any {P1 P2 : Nat → Prop} (v1 v2 : Value) (T1 T2 : List Int) (w : World) (h1 : IntsIn P1 w v1 T1) (h2 : IntsIn P2 w v2 T2) (hb : T1.length ≤ 1000000) (hb2 : T2.length ≤ 1000000) :
    Calls Try.prog 31 #[v1, v2] w fun e w' => e = .returned (.bool (decide (T1 = T2))) ∧ Below w.heap.size w w' := by
  obtain ⟨a1, k1, rfl, hc1⟩ := h1
  obtain ⟨a2, k2, rfl, hc2⟩ := h2
  have Hc1 := Lib.hid hc1
  have Hc2 := Lib.hid hc2
  clear hc1 hc2
  obtain ⟨n1, hn1⟩ : ∃ n, n = T1.length := ⟨_, rfl⟩
  obtain ⟨n2, hn2⟩ : ∃ n, n = T2.length := ⟨_, rfl⟩
  have H1 := Lib.hid hn1
  have H2 := Lib.hid hn2
  rw [← hn1] at hb ⊢
  rw [← hn2] at hb2 ⊢
  clear hn1 hn2
  go_enter Try.func31, Try.ntmps31
  by_cases hn : n1 = n2
  · subst hn
    go_wp2_with fail
    go_loopw [5] (fun i wr => ∃ k : Nat, k ≤ n1 ∧ i = .int .i64 k ∧ Hid (T1.take k = T2.take k) ∧ Below w.heap.size w wr) (fun i _ => n1 - (intOf i).toNat)
    case atStart => exact ⟨0, Nat.zero_le _, rfl, Lib.hid rfl, Below.refl _ _⟩
    case round =>
      obtain ⟨k, hk, rfl, he, hbel⟩ := hrel
      by_cases h : k < n1
      · obtain ⟨b1, o1, rfl, s1, _, hr1⟩ := Hc1.out (by intro e; rw [H1.out, e] at h; simp at h)
        obtain ⟨b2, o2, rfl, s2, _, hr2⟩ := Hc2.out (by intro e; rw [H2.out, e] at h; simp at h)
        have l1 : k < T1.length := by rw [← H1.out]; exact h
        have l2 : k < T2.length := by rw [← H2.out]; exact h
        have m1 := (hbel.cell (p := ⟨b1, o1 + k, none⟩) s1).trans (hr1 k l1)
        have m2 := (hbel.cell (p := ⟨b2, o2 + k, none⟩) s2).trans (hr2 k l2)
        rw [List.getElem?_eq_getElem l1, Option.getD_some] at m1
        rw [List.getElem?_eq_getElem l2, Option.getD_some] at m2
        have hst : (T1.take (k + 1) = T2.take (k + 1)) ↔ T1[k]? = T2[k]? := take_step T1 T2 k l1 l2 he.out
        rw [List.getElem?_eq_getElem l1, List.getElem?_eq_getElem l2] at hst
        clear hr1 hr2
        obtain ⟨x1, hx1⟩ : ∃ x, x = T1[k] := ⟨_, rfl⟩
        obtain ⟨x2, hx2⟩ : ∃ x, x = T2[k] := ⟨_, rfl⟩
        rw [← hx1] at m1 hst
        rw [← hx2] at m2 hst
        by_cases hd : x1 = x2
        · have hnext := Lib.hid (hst.2 (by rw [hd]))
          clear hst hx1 hx2
          subst hd
          go_wp2_with fail
          go_region
          all_goals
            go_wp2_with fail
            refine ⟨⟨k + 1, by omega, by go_num, hnext, hbel.drew⟩, ?_⟩
            simp [intOf]; omega
        · have hne : T1 ≠ T2 := fun e => hd (by rw [hx1, hx2]; subst e; rfl)
          have Hne := Lib.hid hne
          have hd2 : (x1 == x2) = false := by simpa using hd
          clear hst hx1 hx2 hne
          go_wp2_with fail
          go_region
          all_goals
            go_wp2_with fail
            go_ret
            exact ⟨by simp [Hne.out], hbel.drew⟩
      · have hL : T1 = T2 := by
          have hx := he.out
          rwa [List.take_of_length_le (by rw [← H1.out]; omega), List.take_of_length_le (by rw [← H2.out]; omega)] at hx
        have HL := Lib.hid hL
        clear hL
        go_wp2_with fail
        go_ret
        exact ⟨by rw [HL.out]; simp, hbel⟩
  · have hne : T1 ≠ T2 := fun e => hn (by rw [H1.out, H2.out, e])
    go_wp2_with fail
    go_ret
    exact ⟨by simp [hne], by go_grown⟩
end Go.Proofs.Ytmoaecicibjmnaa

namespace Go.Proofs.Ytmoaecicibjmnaa
open Go.RowKit

/-- A list of what is done, in blocks of P. -/
def DosAt (P : Nat → Prop) (w : World) (v : Value) (L : List DoR) : Prop :=
  ∃ a c, v = .slice a L.length c ∧ (L ≠ [] → ∃ b o, a = some ⟨b, o, none⟩ ∧ b < w.heap.size ∧ P b ∧ ∀ (j : Nat) (d : DoR), L[j]? = some d → ∃ kv, IntsIn P w kv d.K ∧ w.cell? ⟨b, o + j * 6, none⟩ = some (.int .u8 (d.what : Int)) ∧ w.cell? ⟨b, o + j * 6 + 1, none⟩ = some (.string d.A) ∧ w.cell? ⟨b, o + j * 6 + 2, none⟩ = some (.string d.B) ∧ w.cell? ⟨b, o + j * 6 + 3, none⟩ = some (.string d.S) ∧ w.cell? ⟨b, o + j * 6 + 4, none⟩ = some (.int .i64 d.N) ∧ w.cell? ⟨b, o + j * 6 + 5, none⟩ = some kv)
theorem DosAt.eq {M M' : Nat → Prop} {w w' : World} {v : Value} {l : List DoR} (h : DosAt M w v l) (hs : w.heap.size ≤ w'.heap.size) (he : ∀ k, k < w.heap.size → M k → w'.heap[k]? = w.heap[k]? ∧ M' k) : DosAt M' w' v l := by
  obtain ⟨a, c, hv, h⟩ := h
  refine ⟨a, c, hv, fun hne => ?_⟩
  obtain ⟨b, o, ha, hlt, hm, hc⟩ := h hne
  refine ⟨b, o, ha, Nat.lt_of_lt_of_le hlt hs, (he b hlt hm).2, fun j d hj => ?_⟩
  obtain ⟨kv, hk, h0, h1, h2, h3, h4, h5⟩ := hc j d hj
  have e := fun i => World.cell?_of_block (a := ⟨b, i, none⟩) (he b hlt hm).1
  exact ⟨kv, hk.eq hs he, (e _).trans h0, (e _).trans h1, (e _).trans h2, (e _).trans h3, (e _).trans h4, (e _).trans h5⟩
/-- What may stand in one that is handed in. -/
structure DoOK (d : DoR) : Prop where
  what : d.what < 256
  A : d.A.size ≤ 9223372036854775807
  B : d.B.size ≤ 9223372036854775807
  S : d.S.size ≤ 9223372036854775807
  N1 : -9223372036854775808 ≤ d.N
  N2 : d.N ≤ 9223372036854775807
  K : d.K.length ≤ 9223372036854775807
  each : ∀ x ∈ d.K, -9223372036854775808 ≤ x ∧ x ≤ 9223372036854775807
structure DoSmall (d : DoR) : Prop where
  A : d.A.size ≤ 300
  B : d.B.size ≤ 300
  S : d.S.size ≤ 50000
  K : d.K.length ≤ 60

set_option maxRecDepth 100000 in
set_option maxHeartbeats 8000000 in
theorem much5_any {P : Nat → Prop} (v : Value) (L : List DoR) (w : World) (h : DosAt P w v L) (hb : L.length ≤ 9223372036854775807) (hd : ∀ d ∈ L, DoOK d) :
    Calls Try.prog 14 #[v] w fun e w' => (∃ q : Bool, e = .returned (.bool q) ∧ (q = false → L.length ≤ 120 ∧ ∀ d ∈ L, DoSmall d)) ∧ Below w.heap.size w w' := by
  obtain ⟨a, c, rfl, hc⟩ := h
  have HC := Lib.hid hc
  have HD := Lib.hid hd
  clear hc hd
  obtain ⟨n, hn⟩ : ∃ n, n = L.length := ⟨_, rfl⟩
  have HN := Lib.hid hn
  rw [← hn] at hb ⊢
  clear hn
  obtain ⟨K, hK⟩ : ∃ K : Ending → World → Prop, K = fun e w' => (∃ q : Bool, e = .returned (.bool q) ∧ (q = false → n ≤ 120 ∧ ∀ d ∈ L, DoSmall d)) ∧ Below w.heap.size w w' := ⟨_, rfl⟩
  have HK := Lib.hid hK
  rw [← hK]
  clear hK
  go_enter Try.func14, Try.ntmps14
  go_wp2_with fail
  go_loopw [3, 4] (fun s i wr => ∃ k m : Nat, k ≤ n ∧ m ≤ 50000 ∧ i = .int .i64 (k : Nat) ∧ s = .int .i64 (m : Nat) ∧ Hid (∀ j d, j < k → L[j]? = some d → DoSmall d) ∧ Below w.heap.size w wr) (fun _ i _ => n - (intOf i).toNat)
  case atStart => exact ⟨0, 50000, Nat.zero_le _, Nat.le_refl _, rfl, rfl, Lib.hid (fun j _ hj => by omega), Below.refl _ _⟩
  case round =>
    obtain ⟨k, m, hk, hm, rfl, rfl, hs, hbel⟩ := hrel
    by_cases hlt : k < n
    · have hlt2 : k < L.length := by rw [← HN.out]; exact hlt
      obtain ⟨d, hd⟩ : ∃ d, L[k]? = some d := ⟨_, List.getElem?_eq_getElem hlt2⟩
      obtain ⟨b, o, rfl, hbl, _, hr⟩ := HC.out (by intro e; rw [e] at hlt2; simp at hlt2)
      obtain ⟨kv, hkv, q0, q1, q2, q3, q4, q5⟩ := hr k d hd
      obtain ⟨ka, kc, rfl⟩ := hkv.val
      have hdo := HD.out d (List.mem_of_getElem? hd)
      have bw := hdo.what
      have bA := hdo.A
      have bB := hdo.B
      have bS := hdo.S
      have bN1 := hdo.N1
      have bN2 := hdo.N2
      have bK := hdo.K
      have e := fun i => World.cell?_of_block (a := ⟨b, i, none⟩) (hbel.block b hbl)
      have p0 := (e _).trans q0
      have p1 := (e _).trans q1
      have p2 := (e _).trans q2
      have p3 := (e _).trans q3
      have p4 := (e _).trans q4
      have p5 := (e _).trans q5
      have hgot := Lib.hid hd
      clear e q0 q1 q2 q3 q4 q5 hr hkv hdo hd hlt2
      generalize d.what = dw at *
      go_wp2_with fail
      case roundEnd =>
        refine ⟨⟨k + 1, m - min d.S.size 60000, by omega, by omega, by go_num, ?_, ?_, hbel.alloc hbel.size _⟩, ?_⟩
        · congr 1; omega
        · refine Lib.hid fun j d' hj hd' => ?_
          by_cases hjk : j < k
          · exact hs.out j d' hjk hd'
          · obtain rfl : j = k := by omega
            have := hgot.out
            rw [hd'] at this
            injection this with this
            subst this
            exact ⟨by omega, by omega, by omega, by omega⟩
        · simp [intOf]; omega
      all_goals
        rw [HK.out]
        exact ⟨⟨true, rfl, by simp⟩, hbel.alloc hbel.size _⟩
    · obtain rfl : k = n := by omega
      go_wp2_with fail
      rw [HK.out]
      refine ⟨⟨decide (120 < (k : Int)), rfl, fun hq => ⟨by simp at hq; omega, fun d hd => ?_⟩⟩, hbel⟩
      obtain ⟨j, hj⟩ := List.mem_iff_getElem?.1 hd
      exact hs.out j d (by rw [HN.out]; exact (List.getElem?_eq_some_iff.1 hj).1) hj
end Go.Proofs.Ytmoaecicibjmnaa

namespace Go.Proofs.Ytmoaecicibjmnaa
open Go.RowKit

abbrev tx (l : List UInt8) : ByteArray := ⟨l.toArray⟩
def dsL : List DoR := [⟨0, tx [98], tx [], tx [120, 121, 122], 0, []⟩, ⟨3, tx [98], tx [], tx [], 0, []⟩, ⟨0, tx [98], tx [], tx [117, 118], 0, []⟩, ⟨0, tx [97], tx [], tx [49, 50, 51, 52, 53], 0, []⟩, ⟨0, tx [97], tx [], tx [54], 0, []⟩,
  ⟨8, tx [], tx [], tx [], 0, [3, 1]⟩, ⟨9, tx [], tx [], tx [], 0, []⟩, ⟨11, tx [], tx [], tx [], 1, [0, 9]⟩, ⟨5, tx [98], tx [], tx [], 2, []⟩, ⟨0, tx [98], tx [], tx [113], 0, []⟩, ⟨9, tx [], tx [], tx [], 0, []⟩]
def dsW : List Int := [0, 0, 0, 0, 50, 0, 0, 0, 0, 51, 0]
def dsF (k : Nat) : FR := (dsL.take k).foldl withF (newF 10)
theorem ds_want : (List.range 11).map (fun k => withE (dsF k) (dsL[k]?.getD ⟨0, tx [], tx [], tx [], 0, []⟩)) = dsW := by decide +kernel
theorem ds_air : (dsF 5).files.map (fun x => x.air.size) = [5, 2] := by decide +kernel
theorem ds_a : hasE (dsF 11) (tx [97]) = 0 := by decide +kernel
theorem ds_b : hasE (dsF 11) (tx [98]) = 0 := by decide +kernel
theorem ds_ra : readS (dsF 11) (tx [97]) = tx [49, 50, 51] := by decide +kernel
theorem ds_rb : readS (dsF 11) (tx [98]) = tx [120, 121, 113] := by decide +kernel
theorem ds_st : (dsF 11).starts = 2 := by decide +kernel
theorem dsF_succ (k : Nat) (d : DoR) (h : dsL[k]? = some d) : dsF (k + 1) = withF (dsF k) d := by
  unfold dsF
  rw [List.take_add_one, h, List.foldl_append]; rfl
theorem Sound.new (c : Int) (h1 : 1 ≤ c) (h2 : c ≤ 1048576) : Sound (newF c) where
  lim1 := h1
  lim2 := h2
  cnt := Nat.zero_le _
  asc := List.Pairwise.nil
  nam := fun x hx => by cases hx
  sum := by show ((0 : Nat) : Int) ≤ c; omega
  lf := by show (-1 : Int) ≤ 9223372036854775807; omega
  kl := Nat.zero_le _
theorem ds_sound : ∀ k, Sound (dsF k) := by
  have : ∀ (L : List DoR) (F : FR), (∀ d ∈ L, d.N ≤ 9223372036854775807 ∧ d.K.length ≤ 1000000) → Sound F → Sound (L.foldl withF F) := by
    intro L
    induction L with
    | nil => intro F _ h; exact h
    | cons d L ih => intro F hd h; exact ih _ (fun x hx => hd x (List.mem_cons_of_mem _ hx)) (h.with' d (hd d (by simp)).1 (hd d (by simp)).2)
  intro k
  refine this _ _ (fun d hd => ?_) (Sound.new 10 (by omega) (by omega))
  have hd := List.mem_of_mem_take hd
  have : dsL.all fun d => decide (d.N ≤ 9223372036854775807 ∧ d.K.length ≤ 1000000) := by decide +kernel
  exact of_decide_eq_true (List.all_eq_true.1 this d hd)
theorem name_world {P : World → Prop} (w0 : World) (h : ∀ W, W = w0 → P W) : P w0 := h w0 rfl
set_option maxRecDepth 100000 in
set_option maxHeartbeats 4000000 in
theorem ds_world (w W : World) (hW : W = ((((w.alloc (.cells #[.int .i64 3, .int .i64 1] 3)).alloc (.cells #[.int .i64 0, .int .i64 9] 3)).alloc (.cells #[.int .u8 0, .string ⟨#[98]⟩, .string ⟨#[]⟩, .string ⟨#[120, 121, 122]⟩, .int .i64 0, .slice none 0 0, .int .u8 3, .string ⟨#[98]⟩, .string ⟨#[]⟩, .string ⟨#[]⟩, .int .i64 0, .slice none 0 0, .int .u8 0, .string ⟨#[98]⟩, .string ⟨#[]⟩, .string ⟨#[117, 118]⟩, .int .i64 0, .slice none 0 0, .int .u8 0, .string ⟨#[97]⟩, .string ⟨#[]⟩, .string ⟨#[49, 50, 51, 52, 53]⟩, .int .i64 0, .slice none 0 0, .int .u8 0, .string ⟨#[97]⟩, .string ⟨#[]⟩, .string ⟨#[54]⟩, .int .i64 0, .slice none 0 0, .int .u8 8, .string ⟨#[]⟩, .string ⟨#[]⟩, .string ⟨#[]⟩, .int .i64 0, .slice (some ⟨w.heap.size, 0, none⟩) 2 2, .int .u8 9, .string ⟨#[]⟩, .string ⟨#[]⟩, .string ⟨#[]⟩, .int .i64 0, .slice none 0 0, .int .u8 11, .string ⟨#[]⟩, .string ⟨#[]⟩, .string ⟨#[]⟩, .int .i64 1, .slice (some ⟨(w.heap.size + 1), 0, none⟩) 2 2, .int .u8 5, .string ⟨#[98]⟩, .string ⟨#[]⟩, .string ⟨#[]⟩, .int .i64 2, .slice none 0 0, .int .u8 0, .string ⟨#[98]⟩, .string ⟨#[]⟩, .string ⟨#[113]⟩, .int .i64 0, .slice none 0 0, .int .u8 9, .string ⟨#[]⟩, .string ⟨#[]⟩, .string ⟨#[]⟩, .int .i64 0, .slice none 0 0] 35)).alloc (.cells #[.int .i64 0, .int .i64 0, .int .i64 0, .int .i64 0, .int .i64 50, .int .i64 0, .int .i64 0, .int .i64 0, .int .i64 0, .int .i64 51, .int .i64 0] 26))) :
    Below w.heap.size w W ∧ W.heap.size = w.heap.size + 4 ∧ DosAt (fun k => w.heap.size ≤ k ∧ k < W.heap.size) W (.slice (some ⟨w.heap.size + 1 + 1, 0, none⟩) 11 11) dsL ∧ (∀ (k : Nat) n, dsW[k]? = some n → W.cell? ⟨w.heap.size + 1 + 1 + 1, k, none⟩ = some (.int .i64 n)) := by
  have hs : W.heap.size = w.heap.size + 4 := by rw [hW]; simp only [size_alloc]
  have e0 : W.heap[w.heap.size]? = some (.cells #[.int .i64 3, .int .i64 1] 3 (0, 0)) := by
    rw [hW, heap_alloc, if_neg (by simp only [size_alloc]; omega), heap_alloc, if_neg (by simp only [size_alloc]; omega), heap_alloc, if_neg (by simp only [size_alloc]; omega), heap_alloc, if_pos rfl]
  have e1 : W.heap[w.heap.size + 1]? = some (.cells #[.int .i64 0, .int .i64 9] 3 (0, 0)) := by
    rw [hW, heap_alloc, if_neg (by simp only [size_alloc]; omega), heap_alloc, if_neg (by simp only [size_alloc]; omega), heap_alloc, if_pos (by simp only [size_alloc])]
  have e2 : W.heap[w.heap.size + 1 + 1]? = some (.cells #[.int .u8 0, .string ⟨#[98]⟩, .string ⟨#[]⟩, .string ⟨#[120, 121, 122]⟩, .int .i64 0, .slice none 0 0, .int .u8 3, .string ⟨#[98]⟩, .string ⟨#[]⟩, .string ⟨#[]⟩, .int .i64 0, .slice none 0 0, .int .u8 0, .string ⟨#[98]⟩, .string ⟨#[]⟩, .string ⟨#[117, 118]⟩, .int .i64 0, .slice none 0 0, .int .u8 0, .string ⟨#[97]⟩, .string ⟨#[]⟩, .string ⟨#[49, 50, 51, 52, 53]⟩, .int .i64 0, .slice none 0 0, .int .u8 0, .string ⟨#[97]⟩, .string ⟨#[]⟩, .string ⟨#[54]⟩, .int .i64 0, .slice none 0 0, .int .u8 8, .string ⟨#[]⟩, .string ⟨#[]⟩, .string ⟨#[]⟩, .int .i64 0, .slice (some ⟨w.heap.size, 0, none⟩) 2 2, .int .u8 9, .string ⟨#[]⟩, .string ⟨#[]⟩, .string ⟨#[]⟩, .int .i64 0, .slice none 0 0, .int .u8 11, .string ⟨#[]⟩, .string ⟨#[]⟩, .string ⟨#[]⟩, .int .i64 1, .slice (some ⟨(w.heap.size + 1), 0, none⟩) 2 2, .int .u8 5, .string ⟨#[98]⟩, .string ⟨#[]⟩, .string ⟨#[]⟩, .int .i64 2, .slice none 0 0, .int .u8 0, .string ⟨#[98]⟩, .string ⟨#[]⟩, .string ⟨#[113]⟩, .int .i64 0, .slice none 0 0, .int .u8 9, .string ⟨#[]⟩, .string ⟨#[]⟩, .string ⟨#[]⟩, .int .i64 0, .slice none 0 0] 35 (0, 0)) := by
    rw [hW, heap_alloc, if_neg (by simp only [size_alloc]; omega), heap_alloc, if_pos (by simp only [size_alloc])]
  have e3 : W.heap[w.heap.size + 1 + 1 + 1]? = some (.cells #[.int .i64 0, .int .i64 0, .int .i64 0, .int .i64 0, .int .i64 50, .int .i64 0, .int .i64 0, .int .i64 0, .int .i64 0, .int .i64 51, .int .i64 0] 26 (0, 0)) := by
    rw [hW, heap_alloc, if_pos (by simp only [size_alloc])]
  have hb : Below w.heap.size w W := by
    rw [hW]
    exact ((((Below.refl _ _).alloc (Nat.le_refl _) _).alloc (by simp only [size_alloc]; omega) _).alloc (by simp only [size_alloc]; omega) _).alloc (by simp only [size_alloc]; omega) _
  clear hW
  refine ⟨hb, hs, ⟨_, 11, rfl, fun _ => ⟨_, 0, rfl, by omega, by omega, fun j d hj => ?_⟩⟩, fun k n hn => ?_⟩
  · have hj11 : j < 11 := (List.getElem?_eq_some_iff.1 hj).1
    have hno : IntsIn (fun k => w.heap.size ≤ k ∧ k < W.heap.size) W (.slice none 0 0) [] := ⟨none, 0, rfl, fun h => absurd rfl h⟩
    have hK0 : IntsIn (fun k => w.heap.size ≤ k ∧ k < W.heap.size) W (.slice (some ⟨w.heap.size, 0, none⟩) 2 2) [3, 1] := ⟨_, 2, rfl, fun _ => ⟨_, 0, rfl, by omega, by omega, fun j hj => by
      have hj : j < 2 := hj
      rw [cell_at e0]
      rcases (show j = 0 ∨ j = 1 by omega) with rfl | rfl <;> rfl⟩⟩
    have hK1 : IntsIn (fun k => w.heap.size ≤ k ∧ k < W.heap.size) W (.slice (some ⟨w.heap.size + 1, 0, none⟩) 2 2) [0, 9] := ⟨_, 2, rfl, fun _ => ⟨_, 0, rfl, by omega, by omega, fun j hj => by
      have hj : j < 2 := hj
      rw [cell_at e1]
      rcases (show j = 0 ∨ j = 1 by omega) with rfl | rfl <;> rfl⟩⟩
    rcases (show j = 0 ∨ j = 1 ∨ j = 2 ∨ j = 3 ∨ j = 4 ∨ j = 5 ∨ j = 6 ∨ j = 7 ∨ j = 8 ∨ j = 9 ∨ j = 10 by omega) with rfl | rfl | rfl | rfl | rfl | rfl | rfl | rfl | rfl | rfl | rfl
    all_goals
      injection hj with hj
      subst hj
      first
        | exact ⟨_, hno, by rw [cell_at e2]; rfl, by rw [cell_at e2]; rfl, by rw [cell_at e2]; rfl, by rw [cell_at e2]; rfl, by rw [cell_at e2]; rfl, by rw [cell_at e2]; rfl⟩
        | exact ⟨_, hK0, by rw [cell_at e2]; rfl, by rw [cell_at e2]; rfl, by rw [cell_at e2]; rfl, by rw [cell_at e2]; rfl, by rw [cell_at e2]; rfl, by rw [cell_at e2]; rfl⟩
        | exact ⟨_, hK1, by rw [cell_at e2]; rfl, by rw [cell_at e2]; rfl, by rw [cell_at e2]; rfl, by rw [cell_at e2]; rfl, by rw [cell_at e2]; rfl, by rw [cell_at e2]; rfl⟩
  · have hk : k < 11 := (List.getElem?_eq_some_iff.1 hn).1
    rw [cell_at e3]
    rcases (show k = 0 ∨ k = 1 ∨ k = 2 ∨ k = 3 ∨ k = 4 ∨ k = 5 ∨ k = 6 ∨ k = 7 ∨ k = 8 ∨ k = 9 ∨ k = 10 by omega) with rfl | rfl | rfl | rfl | rfl | rfl | rfl | rfl | rfl | rfl | rfl
    all_goals
      injection hn with hn
      subst hn
      rfl
end Go.Proofs.Ytmoaecicibjmnaa
