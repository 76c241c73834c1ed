/- FilesTell: the walk. -/
import Derived.Test.YtmoaecicibjmnaaRQ
import Derived.BigQuiet
import Derived.Laws.Cover1
namespace Go.Proofs.Ytmoaecicibjmnaa
open Go.RowKit

theorem DosAt.old' {W w' : World} {v : Value} {l : List DoR} (h : DosAt (fun k => k < W.heap.size) W v l) (hb : Below W.heap.size W w') : DosAt (fun k => k < w'.heap.size) w' v l :=
  h.eq hb.size fun k hk _ => ⟨hb.block k hk, Nat.lt_of_lt_of_le hk hb.size⟩
set_option maxRecDepth 100000 in
set_option maxHeartbeats 16000000 in
theorem filesTell_walk (c : Int) (v : Value) (L : List DoR) (w : World) (h : DosAt (fun k => k < w.heap.size) w v L) (hb : L.length ≤ 9223372036854775807) (hd : ∀ d ∈ L, DoOK d) :
    Calls Try.prog 5 #[.int .i64 c, v] w fun e w' => e = .returned (.bool true) ∧ Below w.heap.size w w' := by
  have CM := Lib.hid (much5_any v L w h hb hd)
  have HL := Lib.hid h
  have HD := Lib.hid hd
  obtain ⟨a, lc, rfl, hcc⟩ := h
  clear hcc hd
  obtain ⟨n, hn⟩ : ∃ n, n = L.length := ⟨_, rfl⟩
  have HN := Lib.hid hn
  rw [← hn] at hb CM HL ⊢
  clear hn
  go_enter Try.func5, Try.ntmps5
  go_wp2_with fail
  (with_reducible refine CM.out.mono ?_); rintro e w1 ⟨⟨q, rfl, hq⟩, hb1⟩
  clear CM
  cases q with
  | true =>
    clear hq
    go_wp2_with fail
    go_ret
    exact ⟨rfl, hb1⟩
  | false =>
    have HQ := Lib.hid (hq rfl)
    clear hq
    by_cases hbad : c < 1 ∨ 1048576 < c
    · have CN := Lib.hid (new_bad c w1 hbad)
      have CR := fun wx => Lib.hid (rnew_bad c wx hbad)
      clear hbad
      go_wp2_with fail
      (with_reducible refine CN.out.mono ?_); rintro e w2 ⟨rfl, hb2⟩
      go_wp2_with fail
      (with_reducible refine (CR w2).out.mono ?_); rintro e w3 ⟨rfl, hb3⟩
      have hbel : Below w.heap.size w w3 := below_tr (below_tr hb1 hb2) hb3
      clear CN CR hb2 hb3
      go_wp2_with fail
      go_loopw [9] (fun i wr => i = .int .i64 0 ∧ Below w.heap.size w wr) (fun i _ => 0)
      case atStart => exact ⟨rfl, hbel⟩
      case round =>
        obtain ⟨rfl, hbel⟩ := hrel
        have CD := Lib.hid (does_any wr)
        by_cases hlt : (0 : Int) < (n : Int)
        · go_wp2_with fail
          (with_reducible refine CD.out.mono ?_); rintro e w4 ⟨rfl, hb4⟩
          go_wp2_with fail
          go_ret
          exact ⟨rfl, below_tr hbel hb4⟩
        · go_wp2_with fail
          (with_reducible refine CD.out.mono ?_); rintro e w4 ⟨rfl, hb4⟩
          go_wp2_with fail
          go_ret
          exact ⟨rfl, below_tr hbel hb4⟩
    · have CN := Lib.hid (new_any c w1 (by omega) (by omega))
      have CR := fun wx => Lib.hid (rnew_any c wx (by omega) (by omega))
      have HS0 := Lib.hid (Sound.new c (by omega) (by omega))
      clear hbad
      go_wp2_with fail
      (with_reducible refine CN.out.mono ?_); rintro e w2 ⟨bf, rfl, Mf, hf, hMf, hb2⟩
      have HF2 := Lib.hid hf
      have HM2 := Lib.hid hMf
      clear hf hMf
      go_wp2_with fail
      (with_reducible refine (CR w2).out.mono ?_); rintro e w3 ⟨br, rfl, Mr, hr, hMr, hb3⟩
      have HF3 := Lib.hid (HF2.out.below hb3)
      have HR3 := Lib.hid hr
      have HDJ3 : Hid (∀ x, Mf x → ¬ Mr x) := Lib.hid (fun x hx hy => by have := HF2.out.lt x hx; have := hMr x hy; omega)
      have HMf3 : Hid (∀ x, Mf x → w.heap.size ≤ x) := Lib.hid (fun x hx => Nat.le_trans hb1.size (HM2.out x hx))
      have HMr3 : Hid (∀ x, Mr x → w.heap.size ≤ x) := Lib.hid (fun x hx => Nat.le_trans (Nat.le_trans hb1.size hb2.size) (hMr x hx))
      have hbel : Below w.heap.size w w3 := below_tr (below_tr hb1 hb2) hb3
      clear CN CR hr hMr hb1 hb2 hb3 HF2 HM2
      go_wp2_with fail
      go_loopw [9] (fun i wr => ∃ (k : Nat) (F : FR) (Mf Mr : Nat → Prop), k ≤ n ∧ i = .int .i64 (k : Nat) ∧ Hid (FSAt Mf wr bf F) ∧ Hid (RAt Mr wr br F) ∧ Hid (Sound F) ∧ Hid (F.keep.length ≤ 1000000) ∧ Hid (∀ x, Mf x → ¬ Mr x) ∧ Hid (∀ x, Mf x → w.heap.size ≤ x) ∧ Hid (∀ x, Mr x → w.heap.size ≤ x) ∧ Below w.heap.size w wr) (fun i _ => n - (intOf i).toNat)
      case atStart => exact ⟨0, newF c, Mf, Mr, Nat.zero_le _, rfl, HF3, HR3, HS0, Lib.hid (Nat.zero_le _), HDJ3, HMf3, HMr3, hbel⟩
      case round =>
        obtain ⟨k, F, Mf, Mr, hk, rfl, HF, HR, HS, HKL, HDJ, HMf, HMr, hbel⟩ := hrel
        by_cases hlt : k < n
        · obtain ⟨d, hd⟩ : ∃ d, L[k]? = some d := ⟨_, List.getElem?_eq_getElem (show k < L.length by rw [← HN.out]; exact hlt)⟩
          have HOK := Lib.hid (HD.out d (List.mem_of_getElem? hd))
          have HSM := Lib.hid (HQ.out.2 d (List.mem_of_getElem? hd))
          obtain ⟨a', c', hv', hcc⟩ := HL.out
          obtain ⟨lb, lo, ha, hlb, _, hcc2⟩ := hcc (by intro e; rw [e] at hd; simp at hd)
          injection hv' with e1 e2 e3
          subst e1 e3
          clear e2
          subst ha
          obtain ⟨kv, hkv, p0, p1, p2, p3, p4, p5⟩ := hcc2 k d hd
          obtain ⟨ia, ic, rfl⟩ := hkv.val
          obtain ⟨p, hp⟩ : ∃ p, p = d.K.length := ⟨_, rfl⟩
          rw [← hp] at p5 hkv
          have hp60 : p ≤ 60 := by rw [hp]; exact HSM.out.K
          have HP := Lib.hid hp
          have HKW : Hid (∀ (M : Nat → Prop) (wx : World), Below w.heap.size w wx → (∀ x, M x → w.heap.size ≤ x) → IntsIn (fun x => ¬ M x) wx (.slice ia p ic) d.K) := Lib.hid (fun M wx hbx hM => hkv.eq hbx.size fun x hx _ => ⟨hbx.block x hx, fun hm => by have := hM x hm; omega⟩)
          have hQ : ∀ wx, Below w.heap.size w wx → (wx.cell? ⟨lb, lo + k * 6, none⟩ = some (.int .u8 (d.what : Int)) ∧ wx.cell? ⟨lb, lo + k * 6 + 1, none⟩ = some (.string d.A) ∧ wx.cell? ⟨lb, lo + k * 6 + 2, none⟩ = some (.string d.B) ∧ wx.cell? ⟨lb, lo + k * 6 + 3, none⟩ = some (.string d.S) ∧ wx.cell? ⟨lb, lo + k * 6 + 4, none⟩ = some (.int .i64 d.N) ∧ wx.cell? ⟨lb, lo + k * 6 + 5, none⟩ = some (.slice ia p ic)) := fun wx hbx => by
            have e := fun i => World.cell?_of_block (a := ⟨lb, i, none⟩) (hbx.block lb hlb)
            exact ⟨(e _).trans p0, (e _).trans p1, (e _).trans p2, (e _).trans p3, (e _).trans p4, (e _).trans p5⟩
          have HQC := Lib.hid hQ
          clear hQ hkv p0 p1 p2 p3 p4 p5 hcc hcc2 hd hp
          obtain ⟨q0, q1, q2, q3, q4, q5⟩ := HQC.out wr hbel
          obtain ⟨dw, hdw⟩ : ∃ x, x = d.what := ⟨_, rfl⟩
          have HDW := Lib.hid hdw
          rw [← hdw] at q0 HQC
          clear hdw
          have hwp : IntKind.i64.wrap ((p : Int) + 1) = (p : Int) + 1 := IntWalk.i64_in _ ⟨by omega, by omega⟩
          have htn : ((p : Int) + 1).toNat = p + 1 := by omega
          have hpp : (p : Int) ≤ (p : Int) + 1 := by omega
          have hp0 : (0 : Int) ≤ (p : Int) + 1 := by omega
          have hp1 : (p : Int) < (p : Int) + 1 := by omega
          go_upto_region 11 with fail
          generalize hWa : World.alloc wr _ = Wa
          have hba : Below wr.heap.size wr Wa := by rw [← hWa]; exact (Below.refl _ _).alloc (Nat.le_refl _) _
          have hbox : Box6 Wa wr.heap.size 35 (.int .u8 (dw : Int)) (.string d.A) (.string d.B) (.string d.S) (.int .i64 d.N) (.slice ia p ic) := by
            rw [← hWa]; unfold Box6; rw [heap_alloc, if_pos rfl]
          have hsa : wr.heap.size < Wa.heap.size := by rw [← hWa, size_alloc]; omega
          have HBox := Lib.hid hbox
          clear hWa hbox q0 q1 q2 q3 q4 q5
          obtain ⟨B, hB⟩ : ∃ B, B = wr.heap.size := ⟨_, rfl⟩
          rw [← hB] at HBox hsa ⊢
          have HB := Lib.hid hB
          have hbelA : Below w.heap.size w Wa := below_tr hbel hba
          have HBA := Lib.hid hba
          clear hB hba
          refine wp_region_held_drew (S := fun w' => w'.cell? ⟨lb, lo + k * 6 + 5, none⟩ = some (.slice ia p ic) ∧ Below w.heap.size w w') (by kernel_rfl) ⟨(HQC.out _ hbelA.drew).2.2.2.2.2, hbelA.drew⟩ (fun hH => ?_)
          (refine hTake (i := 0) (v := ?_) rfl (by kernel_rfl) (by kernel_rfl) (by kernel_rfl) (fun _ _ _ h => h) (by kernel_rfl) ?_ (by assumption) ?_; rotate_left; focus (intro w' hS'; (try dsimp only at hS'); go_split_ands; (try go_simp); (try (with_reducible rfl)); done); try simp only [Act.put, List.setIfInBounds_toArray, List.set_cons_zero, List.set_cons_succ]); (refine hTake (i := 1) (v := ?_) rfl (by kernel_rfl) (by kernel_rfl) (by kernel_rfl) (fun _ _ _ h => h) (by kernel_rfl) ?_ (by assumption) ?_; rotate_left; focus (intro w' hS'; (try dsimp only at hS'); go_split_ands; (try go_simp); (try (with_reducible rfl)); done); try simp only [Act.put, List.setIfInBounds_toArray, List.set_cons_zero, List.set_cons_succ]); (refine hTake (i := 2) (v := ?_) rfl (by kernel_rfl) (by kernel_rfl) (by kernel_rfl) (fun _ _ _ h => h) (by kernel_rfl) ?_ (by assumption) ?_; rotate_left; focus (intro w' hS'; (try dsimp only at hS'); go_split_ands; (try go_simp); (try (with_reducible rfl)); done); try simp only [Act.put, List.setIfInBounds_toArray, List.set_cons_zero, List.set_cons_succ]); (refine hTake (i := 3) (v := ?_) rfl (by kernel_rfl) (by kernel_rfl) (by kernel_rfl) (fun _ _ _ h => h) (by kernel_rfl) ?_ (by assumption) ?_; rotate_left; focus (intro w' hS'; (try dsimp only at hS'); go_split_ands; (try go_simp); (try (with_reducible rfl)); done); try simp only [Act.put, List.setIfInBounds_toArray, List.set_cons_zero, List.set_cons_succ]); (refine hTake (i := 4) (v := ?_) rfl (by kernel_rfl) (by kernel_rfl) (by kernel_rfl) (fun _ _ _ h => h) (by kernel_rfl) ?_ (by assumption) ?_; rotate_left; focus (intro w' hS'; (try dsimp only at hS'); go_split_ands; (try go_simp); (try (with_reducible rfl)); done); try simp only [Act.put, List.setIfInBounds_toArray, List.set_cons_zero, List.set_cons_succ]); (refine hTake (i := 5) (v := ?_) rfl (by kernel_rfl) (by kernel_rfl) (by kernel_rfl) (fun _ _ _ h => h) (by kernel_rfl) ?_ (by assumption) ?_; rotate_left; focus (intro w' hS'; (try dsimp only at hS'); go_split_ands; (try go_simp); (try (with_reducible rfl)); done); try simp only [Act.put, List.setIfInBounds_toArray, List.set_cons_zero, List.set_cons_succ]); (refine hTake (i := 6) (v := ?_) rfl (by kernel_rfl) (by kernel_rfl) (by kernel_rfl) (fun _ _ _ h => h) (by kernel_rfl) ?_ (by assumption) ?_; rotate_left; focus (intro w' hS'; (try dsimp only at hS'); go_split_ands; (try go_simp); (try (with_reducible rfl)); done); try simp only [Act.put, List.setIfInBounds_toArray, List.set_cons_zero, List.set_cons_succ]); (refine hTake (i := 8) (v := ?_) rfl (by kernel_rfl) (by kernel_rfl) (by kernel_rfl) (fun _ _ _ h => h) (by kernel_rfl) ?_ (by assumption) ?_; rotate_left; focus (intro w' hS'; (try dsimp only at hS'); go_split_ands; (try go_simp); (try (with_reducible rfl)); done); try simp only [Act.put, List.setIfInBounds_toArray, List.set_cons_zero, List.set_cons_succ]); (refine hTake (i := 9) (v := ?_) rfl (by kernel_rfl) (by kernel_rfl) (by kernel_rfl) (fun _ _ _ h => h) (by kernel_rfl) ?_ (by assumption) ?_; rotate_left; focus (intro w' hS'; (try dsimp only at hS'); go_split_ands; (try go_simp); (try (with_reducible rfl)); done); try simp only [Act.put, List.setIfInBounds_toArray, List.set_cons_zero, List.set_cons_succ]); (refine hTake (i := 10) (v := ?_) rfl (by kernel_rfl) (by kernel_rfl) (by kernel_rfl) (fun _ _ _ h => h) (by kernel_rfl) ?_ (by assumption) ?_; rotate_left; focus (intro w' hS'; (try dsimp only at hS'); go_split_ands; (try go_simp); (try (with_reducible rfl)); done); try simp only [Act.put, List.setIfInBounds_toArray, List.set_cons_zero, List.set_cons_succ]); (refine hTake (i := 11) (v := ?_) rfl (by kernel_rfl) (by kernel_rfl) (by kernel_rfl) (fun _ _ _ h => h) (by kernel_rfl) ?_ (by assumption) ?_; rotate_left; focus (intro w' hS'; (try dsimp only at hS'); go_split_ands; (try go_simp); (try (with_reducible rfl)); done); try simp only [Act.put, List.setIfInBounds_toArray, List.set_cons_zero, List.set_cons_succ]); (refine hTake (i := 12) (v := ?_) rfl (by kernel_rfl) (by kernel_rfl) (by kernel_rfl) (fun _ _ _ h => h) (by kernel_rfl) ?_ (by assumption) ?_; rotate_left; focus (intro w' hS'; (try dsimp only at hS'); go_split_ands; (try go_simp); (try (with_reducible rfl)); done); try simp only [Act.put, List.setIfInBounds_toArray, List.set_cons_zero, List.set_cons_succ]); (refine hTake (i := 16) (v := ?_) rfl (by kernel_rfl) (by kernel_rfl) (by kernel_rfl) (fun _ _ _ h => h) (by kernel_rfl) ?_ (by assumption) ?_; rotate_left; focus (intro w' hS'; (try dsimp only at hS'); go_split_ands; (try go_simp); (try (with_reducible rfl)); done); try simp only [Act.put, List.setIfInBounds_toArray, List.set_cons_zero, List.set_cons_succ]); (refine hTake (i := 17) (v := ?_) rfl (by kernel_rfl) (by kernel_rfl) (by kernel_rfl) (fun _ _ _ h => h) (by kernel_rfl) ?_ (by assumption) ?_; rotate_left; focus (intro w' hS'; (try dsimp only at hS'); go_split_ands; (try go_simp); (try (with_reducible rfl)); done); try simp only [Act.put, List.setIfInBounds_toArray, List.set_cons_zero, List.set_cons_succ]); (refine hTake (i := 18) (v := ?_) rfl (by kernel_rfl) (by kernel_rfl) (by kernel_rfl) (fun _ _ _ h => h) (by kernel_rfl) ?_ (by assumption) ?_; rotate_left; focus (intro w' hS'; (try dsimp only at hS'); go_split_ands; (try go_simp); (try (with_reducible rfl)); done); try simp only [Act.put, List.setIfInBounds_toArray, List.set_cons_zero, List.set_cons_succ]); (refine hTake (i := 19) (v := ?_) rfl (by kernel_rfl) (by kernel_rfl) (by kernel_rfl) (fun _ _ _ h => h) (by kernel_rfl) ?_ (by assumption) ?_; rotate_left; focus (intro w' hS'; (try dsimp only at hS'); go_split_ands; (try go_simp); (try (with_reducible rfl)); done); try simp only [Act.put, List.setIfInBounds_toArray, List.set_cons_zero, List.set_cons_succ]); (refine hTake (i := 20) (v := ?_) rfl (by kernel_rfl) (by kernel_rfl) (by kernel_rfl) (fun _ _ _ h => h) (by kernel_rfl) ?_ (by assumption) ?_; rotate_left; focus (intro w' hS'; (try dsimp only at hS'); go_split_ands; (try go_simp); (try (with_reducible rfl)); done); try simp only [Act.put, List.setIfInBounds_toArray, List.set_cons_zero, List.set_cons_succ]); (refine hTake (i := 21) (v := ?_) rfl (by kernel_rfl) (by kernel_rfl) (by kernel_rfl) (fun _ _ _ h => h) (by kernel_rfl) ?_ (by assumption) ?_; rotate_left; focus (intro w' hS'; (try dsimp only at hS'); go_split_ands; (try go_simp); (try (with_reducible rfl)); done); try simp only [Act.put, List.setIfInBounds_toArray, List.set_cons_zero, List.set_cons_succ])
          refine hTwo (i := 7) (j := 14) rfl rfl (by kernel_rfl) (fun K hK => ?_) (fun K hK => ?_)
          · go_simp
            obtain ⟨WM, hrun, hownM, hbM⟩ := make_ints Wa.drew p (by omega)
            rw [hrun]
            go_simp
            clear hrun
            obtain ⟨g, hg⟩ : ∃ g, g = Wa.heap.size := ⟨_, rfl⟩
            have HGW := Lib.hid hg
            have hown7 : Hid (WM.ownsRow Wa.heap.size 3 1 (.slice (some ⟨g, 0, none⟩) 0 (p + 1)) 0 []) := by rw [hg]; exact hownM
            have hb7 : Below Wa.heap.size Wa WM := (Below.refl _ _).drew.trans hbM
            have hgW : Wa.heap.size ≤ g := by omega
            rw [← hg]
            clear hownM hbM hg
            refine hK.out _ _ ⟨(HQC.out _ (below_tr hbelA hb7)).2.2.2.2.2, below_tr hbelA hb7⟩ (fun hH => ?_)
            clear hK K
            refine hTwo (i := 13) (j := 14) rfl rfl (by kernel_rfl) (fun K hK => ?_) (fun K hK => ?_)
            · refine step_append_ints rfl (.tmp 55) (.tmp 60) rfl Wa.heap.size g 0 (p + 1) [] (by simp [Act.eval]) hown7.out ia d.K ic p (by simp [Act.eval]) HP.out.symm (HKW.out (fun _ => False) _ (below_tr hbelA hb7) (fun _ h => h.elim)) p (Nat.zero_add p) (by omega) ?_
              intro WN hownN hgN
              have hbN : Below Wa.heap.size Wa WN := Below.grown hb7 hgN hb7.size (fun k hk => by injection hk with hk; omega)
              refine hK.out _ _ ⟨(HQC.out _ (below_tr hbelA hbN)).2.2.2.2.2, below_tr hbelA hbN⟩ (fun hH => ?_)
              clear hK K
              refine hOne (i := 14) rfl (by kernel_rfl) (fun K hK => ?_)
              go_simp
              have hbO : Below Wa.heap.size Wa (WN.alloc (.cells #[.int .i64 99] 3)) := hbN.alloc hbN.size _
              have hownO := hownN.out.alloc (.cells #[.int .i64 99] 3)
              have hi99 := ints_99 WN 3
              refine hK.out _ _ ⟨(HQC.out _ (below_tr hbelA hbO)).2.2.2.2.2, below_tr hbelA hbO⟩ (fun hH => ?_)
              clear hK K
              refine hOne (i := 15) rfl (by kernel_rfl) (fun K hK => ?_)
              refine step_append_ints rfl (.tmp 61) (.tmp 62) rfl Wa.heap.size g p (p + 1) _ (by simp [Act.eval]) hownO _ [99] 1 1 (by simp [Act.eval]) rfl hi99 (p + 1) rfl (Nat.le_refl _) ?_
              intro WE hownE hgE
              have HBE : Below Wa.heap.size Wa WE := Below.grown hbO hgE hbO.size (fun k hk => by injection hk with hk; omega)
              refine hK.out _ _ ⟨(HQC.out _ (below_tr hbelA HBE)).2.2.2.2.2, below_tr hbelA HBE⟩ (fun hH => ?_)
              clear hK K
              clear hown7 hownN hownO hi99 hbO hbN hb7 hgN hgE
              (refine hTake (i := 22) (v := ?_) rfl (by kernel_rfl) (by kernel_rfl) (by kernel_rfl) (fun _ _ _ h => h) (by kernel_rfl) ?_ (by assumption) ?_; rotate_left; focus (intro w' hS'; (try dsimp only at hS'); go_split_ands; (try go_simp); (try (with_reducible rfl)); done); try simp only [Act.put, List.setIfInBounds_toArray, List.set_cons_zero, List.set_cons_succ]); (refine hTake (i := 23) (v := ?_) rfl (by kernel_rfl) (by kernel_rfl) (by kernel_rfl) (fun _ _ _ h => h) (by kernel_rfl) ?_ (by assumption) ?_; rotate_left; focus (intro w' hS'; (try dsimp only at hS'); go_split_ands; (try go_simp); (try (with_reducible rfl)); done); try simp only [Act.put, List.setIfInBounds_toArray, List.set_cons_zero, List.set_cons_succ])
              have hgl : Wa.heap.size ≤ g ∧ g < WE.heap.size := hownE.out.lt g rfl
              have hbE : Box6 WE B 35 (.int .u8 (dw : Int)) (.string d.A) (.string d.B) (.string d.S) (.int .i64 d.N) (.slice ia p ic) := HBox.out.eq (HBE.block B HBox.out.lt)
              have c5 := hbE.c5
              have f5 := hbE.free 5
              have h12 := setCell_heap_same WE B 5 (.slice (some ⟨g, 0, none⟩) p (p + 1)) _ _ hbE
              obtain ⟨cur, hcur, hcs, hints, h99⟩ := row99 hownE.out HP.out.symm
              have hgB : g ≠ B := by omega
              have hBr : B ≤ wr.heap.size := Nat.le_of_eq HB.out
              have hbW : Below wr.heap.size wr (WE.setCell ⟨B, 5, none⟩ (.slice (some ⟨g, 0, none⟩) p (p + 1))) := (HBA.out.trans (HBE.mono HBA.out.size)).setCell (p := ⟨B, 5, none⟩) (Nat.le_of_eq HB.out.symm) _
              have hcur2 : (WE.setCell ⟨B, 5, none⟩ (.slice (some ⟨g, 0, none⟩) p (p + 1))).heap[g]? = some (.cells cur 3 (0, 0)) := (setCell_heap_other _ _ _ _ _ hgB).trans hcur
              have hints2 : IntsIn (fun k => k = g) (WE.setCell ⟨B, 5, none⟩ (.slice (some ⟨g, 0, none⟩) p (p + 1))) (.slice (some ⟨g, 0, none⟩) p (p + 1)) d.K := hints.eq (by rw [size_set]; exact Nat.le_refl _) fun k _ hk => ⟨setCell_heap_other _ _ _ _ _ (by rw [hk]; exact hgB), hk⟩
              have h992 : (WE.setCell ⟨B, 5, none⟩ (.slice (some ⟨g, 0, none⟩) p (p + 1))).cell? ⟨g, p, none⟩ = some (.int .i64 99) := (World.cell?_of_block (a := ⟨g, p, none⟩) (setCell_heap_other _ _ _ _ _ hgB)).trans h99
              have hgs : g < (WE.setCell ⟨B, 5, none⟩ (.slice (some ⟨g, 0, none⟩) p (p + 1))).heap.size := by rw [size_set]; exact hgl.2
              have hgr : wr.heap.size ≤ g := Nat.le_trans HBA.out.size hgl.1
              refine hOne (i := 24) rfl (by kernel_rfl) (fun K hK => ?_)
              go_simp
              refine hK.out _ _ ⟨(HQC.out _ (below_tr hbel hbW)).2.2.2.2.2, below_tr hbel hbW⟩ (fun hH => ?_)
              clear hK K
              refine wpAnyH_done (by kernel_rfl) ?_ _
              clear hcur hints h99 hownE HBE hbE c5 f5 hgl hH
              generalize WE.setCell ⟨B, 5, none⟩ (.slice (some ⟨g, 0, none⟩) p (p + 1)) = W12 at *
              have hbel12 : Below w.heap.size w W12 := below_tr hbel hbW
              have HF12 := Lib.hid (HF.out.below hbW)
              have HR12 := Lib.hid (HR.out.below hbW)
              have nFB : ¬ Mf B := fun h => by have := HF.out.lt B h; have := HB.out; omega
              have nRB : ¬ Mr B := fun h => by have := HR.out.lt B h; have := HB.out; omega
              have nFg : ¬ Mf g := fun h => by have := HF.out.lt g h; omega
              have nRg : ¬ Mr g := fun h => by have := HR.out.lt g h; omega
              have b6 : Box6 W12 B 35 (.int .u8 (dw : Int)) (.string d.A) (.string d.B) (.string d.S) (.int .i64 d.N) (.slice (some ⟨g, 0, none⟩) p (p + 1)) := h12
              have hB12 : B < W12.heap.size := b6.lt
              have HKS : Hid (∀ wx, wx.heap[B]? = W12.heap[B]? → wx.heap[g]? = W12.heap[g]? → Below w.heap.size w wx → ((wx.cell? ⟨lb, lo + k * 6, none⟩ = some (.int .u8 (dw : Int)) ∧ wx.cell? ⟨lb, lo + k * 6 + 1, none⟩ = some (.string d.A) ∧ wx.cell? ⟨lb, lo + k * 6 + 2, none⟩ = some (.string d.B) ∧ wx.cell? ⟨lb, lo + k * 6 + 3, none⟩ = some (.string d.S) ∧ wx.cell? ⟨lb, lo + k * 6 + 4, none⟩ = some (.int .i64 d.N) ∧ wx.cell? ⟨lb, lo + k * 6 + 5, none⟩ = some (.slice ia p ic)) ∧ wx.cell? ⟨B, 0, none⟩ = some (.int .u8 (dw : Int)) ∧ wx.cell? ⟨B, 1, none⟩ = some (.string d.A) ∧ wx.cell? ⟨B, 2, none⟩ = some (.string d.B) ∧ wx.cell? ⟨B, 3, none⟩ = some (.string d.S) ∧ wx.cell? ⟨B, 4, none⟩ = some (.int .i64 d.N) ∧ wx.cell? ⟨B, 5, none⟩ = some (.slice (some ⟨g, 0, none⟩) p (p + 1)) ∧ wx.cell? ⟨g, p, none⟩ = some (.int .i64 99))) := Lib.hid (fun wx hB hg hbx => by
                have bx := b6.eq hB
                exact ⟨HQC.out wx hbx, bx.c0, bx.c1, bx.c2, bx.c3, bx.c4, bx.c5, (World.cell?_of_block (a := ⟨g, p, none⟩) hg).trans h992⟩)
              have HI12 : Hid (∀ (M : Nat → Prop) (wx : World), wx.heap[g]? = W12.heap[g]? → W12.heap.size ≤ wx.heap.size → ¬ M g → IntsIn (fun x => ¬ M x) wx (.slice (some ⟨g, 0, none⟩) p (p + 1)) d.K) := Lib.hid (fun M wx hg hs hm => hints2.eq hs fun x _ hx => ⟨by rw [hx]; exact hg, by rw [hx]; exact hm⟩)
              have HCUR := Lib.hid hcur2
              have HCS := Lib.hid hcs
              have hKb : d.K.length ≤ 1000000 := by rw [← HP.out]; omega
              have CW := with_any W12.drew (HF12.out.out (Out.refl (fun _ => False) _).drew (fun _ _ h => h)) HS.out (d := d) ⟨_, rfl, HI12.out Mf W12.drew rfl (Nat.le_refl _) nFg⟩ HOK.out.what HOK.out.S hKb
              have CB : ∀ w13, RAt Mr w13 br F → Below w.heap.size w w13 → Hid (Calls Try.prog 30 #[.pointer (some ⟨br, 0, none⟩), .agg #[.int .u8 (d.what : Int), .string d.A, .string d.B, .string d.S, .int .i64 d.N, .slice ia p ic]] w13 fun e w' => e = .returned (.int .i64 (withE F d)) ∧ RTurned Mr w13 w' br (withF F d)) := fun w13 h13 hb13 =>
                Lib.hid (by_any w13 h13 HS.out (d := d) ⟨_, rfl, HKW.out Mr w13 hb13 HMr.out⟩ HOK.out.what HKL.out (by have := HSM.out.A; omega) (by have := HSM.out.B; omega) (by have := HSM.out.S; omega) hKb)
              rw [← HDW.out] at CW CB
              have CW2 := Lib.hid CW
              have HS2 := Lib.hid (HS.out.with' d HOK.out.N2 hKb)
              have HKL2 : Hid ((withF F d).keep.length ≤ 1000000) := Lib.hid (by rcases with_keep F d with h | h <;> rw [h]; exact HKL.out; exact hKb)
              generalize withE F d = E at *
              generalize withF F d = F2 at *
              have enn : (E == E) = true := by simp
              have HBW := Lib.hid hbW
              clear CW hcs h12 b6 hints2 h992 hcur2 hKb hbW
              go_upto_region 12 with fail
              refine wp_region_held_drew (S := fun wx => ((wx.cell? ⟨lb, lo + k * 6, none⟩ = some (.int .u8 (dw : Int)) ∧ wx.cell? ⟨lb, lo + k * 6 + 1, none⟩ = some (.string d.A) ∧ wx.cell? ⟨lb, lo + k * 6 + 2, none⟩ = some (.string d.B) ∧ wx.cell? ⟨lb, lo + k * 6 + 3, none⟩ = some (.string d.S) ∧ wx.cell? ⟨lb, lo + k * 6 + 4, none⟩ = some (.int .i64 d.N) ∧ wx.cell? ⟨lb, lo + k * 6 + 5, none⟩ = some (.slice ia p ic)) ∧ wx.cell? ⟨B, 0, none⟩ = some (.int .u8 (dw : Int)) ∧ wx.cell? ⟨B, 1, none⟩ = some (.string d.A) ∧ wx.cell? ⟨B, 2, none⟩ = some (.string d.B) ∧ wx.cell? ⟨B, 3, none⟩ = some (.string d.S) ∧ wx.cell? ⟨B, 4, none⟩ = some (.int .i64 d.N) ∧ wx.cell? ⟨B, 5, none⟩ = some (.slice (some ⟨g, 0, none⟩) p (p + 1)) ∧ wx.cell? ⟨g, p, none⟩ = some (.int .i64 99))) (by kernel_rfl) (HKS.out _ rfl rfl hbel12.drew) (fun hH => ?_)
              (refine hTake (i := 0) (v := ?_) rfl (by kernel_rfl) (by kernel_rfl) (by kernel_rfl) (fun _ _ _ h => h) (by kernel_rfl) ?_ (by assumption) ?_; rotate_left; focus (intro w' hS'; (try dsimp only at hS'); go_split_ands; (try go_simp); (try (with_reducible rfl)); done); try simp only [Act.put, List.setIfInBounds_toArray, List.set_cons_zero, List.set_cons_succ]); (refine hTake (i := 1) (v := ?_) rfl (by kernel_rfl) (by kernel_rfl) (by kernel_rfl) (fun _ _ _ h => h) (by kernel_rfl) ?_ (by assumption) ?_; rotate_left; focus (intro w' hS'; (try dsimp only at hS'); go_split_ands; (try go_simp); (try (with_reducible rfl)); done); try simp only [Act.put, List.setIfInBounds_toArray, List.set_cons_zero, List.set_cons_succ]); (refine hTake (i := 3) (v := ?_) rfl (by kernel_rfl) (by kernel_rfl) (by kernel_rfl) (fun _ _ _ h => h) (by kernel_rfl) ?_ (by assumption) ?_; rotate_left; focus (intro w' hS'; (try dsimp only at hS'); go_split_ands; (try go_simp); (try (with_reducible rfl)); done); try simp only [Act.put, List.setIfInBounds_toArray, List.set_cons_zero, List.set_cons_succ]); (refine hTake (i := 4) (v := ?_) rfl (by kernel_rfl) (by kernel_rfl) (by kernel_rfl) (fun _ _ _ h => h) (by kernel_rfl) ?_ (by assumption) ?_; rotate_left; focus (intro w' hS'; (try dsimp only at hS'); go_split_ands; (try go_simp); (try (with_reducible rfl)); done); try simp only [Act.put, List.setIfInBounds_toArray, List.set_cons_zero, List.set_cons_succ]); (refine hTake (i := 5) (v := ?_) rfl (by kernel_rfl) (by kernel_rfl) (by kernel_rfl) (fun _ _ _ h => h) (by kernel_rfl) ?_ (by assumption) ?_; rotate_left; focus (intro w' hS'; (try dsimp only at hS'); go_split_ands; (try go_simp); (try (with_reducible rfl)); done); try simp only [Act.put, List.setIfInBounds_toArray, List.set_cons_zero, List.set_cons_succ]); (refine hTake (i := 6) (v := ?_) rfl (by kernel_rfl) (by kernel_rfl) (by kernel_rfl) (fun _ _ _ h => h) (by kernel_rfl) ?_ (by assumption) ?_; rotate_left; focus (intro w' hS'; (try dsimp only at hS'); go_split_ands; (try go_simp); (try (with_reducible rfl)); done); try simp only [Act.put, List.setIfInBounds_toArray, List.set_cons_zero, List.set_cons_succ]); (refine hTake (i := 7) (v := ?_) rfl (by kernel_rfl) (by kernel_rfl) (by kernel_rfl) (fun _ _ _ h => h) (by kernel_rfl) ?_ (by assumption) ?_; rotate_left; focus (intro w' hS'; (try dsimp only at hS'); go_split_ands; (try go_simp); (try (with_reducible rfl)); done); try simp only [Act.put, List.setIfInBounds_toArray, List.set_cons_zero, List.set_cons_succ])
              refine hOne (i := 2) rfl (by kernel_rfl) (fun K hK => ?_)
              go_simp
              refine CW2.out.mono ?_
              rintro e w13 ⟨rfl, Mf2, hf13, hM13, ho13⟩
              have ho13 := ho13.drewL
              have hb13 : Below w.heap.size w w13 := hbel12.trans (ho13.below hbel12.size HMf.out)
              have HF13 := Lib.hid hf13
              have HM13 : Hid (∀ x, Mf2 x → Mf x ∨ W12.heap.size ≤ x) := Lib.hid hM13
              have HO13 := Lib.hid ho13
              have HR13 := Lib.hid (HR12.out.out ho13 (fun x hx hm => HDJ.out x hm hx))
              clear hf13 hM13 CW2
              go_wp2_with fail
              refine hK.out _ _ (HKS.out _ (ho13.block B hB12 nFB) (ho13.block g hgs nFg) hb13) (fun hH => ?_)
              clear hK K
              refine hOne (i := 8) rfl (by kernel_rfl) (fun K hK => ?_)
              go_simp
              refine (CB w13 HR13.out hb13).out.mono ?_
              rintro e w14 ⟨rfl, Mr2, hr14, hM14, ho14⟩
              have hs13 := ho13.size
              have hb14 : Below w.heap.size w w14 := hb13.trans (ho14.below hb13.size HMr.out)
              have HR14 := Lib.hid hr14
              have HF14 := Lib.hid (HF13.out.out ho14 (fun x hx hm => (HM13.out x hx).elim (fun h => HDJ.out x h hm) (fun h => by have := HR12.out.lt x hm; omega)))
              have HDJ2 : Hid (∀ x, Mf2 x → ¬ Mr2 x) := Lib.hid (fun x hx hy => by
                have h1 := HF13.out.lt x hx
                rcases hM14 x hy with h | h
                · rcases HM13.out x hx with h2 | h2
                  · exact HDJ.out x h2 h
                  · have := HR12.out.lt x h; omega
                · omega)
              have HMf2 : Hid (∀ x, Mf2 x → w.heap.size ≤ x) := Lib.hid (fun x hx => (HM13.out x hx).elim (HMf.out x) fun h => by have := hbel12.size; omega)
              have HMr2 : Hid (∀ x, Mr2 x → w.heap.size ≤ x) := Lib.hid (fun x hx => (hM14 x hx).elim (HMr.out x) fun h => by have := hb13.size; omega)
              have nF2g : ¬ Mf2 g := fun h => by rcases HM13.out g h with h | h; exact nFg h; omega
              have nR2g : ¬ Mr2 g := fun h => by rcases hM14 g h with h | h; exact nRg h; omega
              have eB14 : w14.heap[B]? = W12.heap[B]? := (ho14.block B (by omega) nRB).trans (ho13.block B hB12 nFB)
              have eg14 : w14.heap[g]? = W12.heap[g]? := (ho14.block g (by omega) nRg).trans (ho13.block g hgs nFg)
              have hs14 : W12.heap.size ≤ w14.heap.size := Nat.le_trans hs13 ho14.size
              clear CB hr14 hM14 ho14 ho13 hs13
              go_wp2_with fail
              refine hK.out _ _ (HKS.out _ eB14 eg14 hb14) (fun hH => ?_)
              clear hK K
              (refine hTake (i := 9) (v := ?_) rfl (by kernel_rfl) (by kernel_rfl) (by kernel_rfl) (fun _ _ _ h => h) (by kernel_rfl) ?_ (by assumption) ?_; rotate_left; focus (intro w' hS'; (try dsimp only at hS'); go_split_ands; (try go_simp); (try (with_reducible rfl)); done); try simp only [Act.put, List.setIfInBounds_toArray, List.set_cons_zero, List.set_cons_succ]); (refine hTake (i := 10) (v := ?_) rfl (by kernel_rfl) (by kernel_rfl) (by kernel_rfl) (fun _ _ _ h => h) (by kernel_rfl) ?_ (by assumption) ?_; rotate_left; focus (intro w' hS'; (try dsimp only at hS'); go_split_ands; (try go_simp); (try (with_reducible rfl)); done); try simp only [Act.put, List.setIfInBounds_toArray, List.set_cons_zero, List.set_cons_succ]); (refine hTake (i := 11) (v := ?_) rfl (by kernel_rfl) (by kernel_rfl) (by kernel_rfl) (fun _ _ _ h => h) (by kernel_rfl) ?_ (by assumption) ?_; rotate_left; focus (intro w' hS'; (try dsimp only at hS'); go_split_ands; (try go_simp); (try (with_reducible rfl)); done); try simp only [Act.put, List.setIfInBounds_toArray, List.set_cons_zero, List.set_cons_succ]); (refine hTake (i := 12) (v := ?_) rfl (by kernel_rfl) (by kernel_rfl) (by kernel_rfl) (fun _ _ _ h => h) (by kernel_rfl) ?_ (by assumption) ?_; rotate_left; focus (intro w' hS'; (try dsimp only at hS'); go_split_ands; (try go_simp); (try (with_reducible rfl)); done); try simp only [Act.put, List.setIfInBounds_toArray, List.set_cons_zero, List.set_cons_succ]); (refine hTake (i := 13) (v := ?_) rfl (by kernel_rfl) (by kernel_rfl) (by kernel_rfl) (fun _ _ _ h => h) (by kernel_rfl) ?_ (by assumption) ?_; rotate_left; focus (intro w' hS'; (try dsimp only at hS'); go_split_ands; (try go_simp); (try (with_reducible rfl)); done); try simp only [Act.put, List.setIfInBounds_toArray, List.set_cons_zero, List.set_cons_succ]); (refine hTake (i := 14) (v := ?_) rfl (by kernel_rfl) (by kernel_rfl) (by kernel_rfl) (fun _ _ _ h => h) (by kernel_rfl) ?_ (by assumption) ?_; rotate_left; focus (intro w' hS'; (try dsimp only at hS'); go_split_ands; (try go_simp); (try (with_reducible rfl)); done); try simp only [Act.put, List.setIfInBounds_toArray, List.set_cons_zero, List.set_cons_succ]); (refine hTake (i := 15) (v := ?_) rfl (by kernel_rfl) (by kernel_rfl) (by kernel_rfl) (fun _ _ _ h => h) (by kernel_rfl) ?_ (by assumption) ?_; rotate_left; focus (intro w' hS'; (try dsimp only at hS'); go_split_ands; (try go_simp); (try (with_reducible rfl)); done); try simp only [Act.put, List.setIfInBounds_toArray, List.set_cons_zero, List.set_cons_succ]); (refine hTake (i := 16) (v := ?_) rfl (by kernel_rfl) (by kernel_rfl) (by kernel_rfl) (fun _ _ _ h => h) (by kernel_rfl) ?_ (by assumption) ?_; rotate_left; focus (intro w' hS'; (try dsimp only at hS'); go_split_ands; (try go_simp); (try (with_reducible rfl)); done); try simp only [Act.put, List.setIfInBounds_toArray, List.set_cons_zero, List.set_cons_succ]); (refine hTake (i := 17) (v := ?_) rfl (by kernel_rfl) (by kernel_rfl) (by kernel_rfl) (fun _ _ _ h => h) (by kernel_rfl) ?_ (by assumption) ?_; rotate_left; focus (intro w' hS'; (try dsimp only at hS'); go_split_ands; (try go_simp); (try (with_reducible rfl)); done); try simp only [Act.put, List.setIfInBounds_toArray, List.set_cons_zero, List.set_cons_succ])
              refine hOne (i := 18) rfl (by kernel_rfl) (fun K hK => ?_)
              go_simp
              have CI := numbers_any _ _ _ _ w14 (HI12.out Mf2 w14 eg14 hs14 nF2g) (HKW.out Mf2 w14 hb14 HMf2.out) (by rw [← HP.out]; omega) (by rw [← HP.out]; omega)
              rw [decide_eq_true (show d.K = d.K from rfl)] at CI
              refine CI.mono ?_
              rintro e w15 ⟨rfl, hb15⟩
              clear CI
              have hbel15 : Below w.heap.size w w15 := below_tr hb14 hb15
              have eB15 : w15.heap[B]? = W12.heap[B]? := (hb15.block B (by omega)).trans eB14
              have eg15 : w15.heap[g]? = W12.heap[g]? := (hb15.block g (by omega)).trans eg14
              have HF15 := Lib.hid (HF14.out.below hb15)
              have HR15 := Lib.hid (HR14.out.below hb15)
              have hs15 : W12.heap.size ≤ w15.heap.size := Nat.le_trans hs14 hb15.size
              clear hb15 eB14 eg14 hb14 hb13 hs14
              go_wp2_with fail
              refine hK.out _ _ (HKS.out _ eB15 eg15 hbel15) (fun hH => ?_)
              clear hK K
              (refine hTake (i := 19) (v := ?_) rfl (by kernel_rfl) (by kernel_rfl) (by kernel_rfl) (fun _ _ _ h => h) (by kernel_rfl) ?_ (by assumption) ?_; rotate_left; focus (intro w' hS'; (try dsimp only at hS'); go_split_ands; (try go_simp); (try (with_reducible rfl)); done); try simp only [Act.put, List.setIfInBounds_toArray, List.set_cons_zero, List.set_cons_succ]); (refine hTake (i := 20) (v := ?_) rfl (by kernel_rfl) (by kernel_rfl) (by kernel_rfl) (fun _ _ _ h => h) (by kernel_rfl) ?_ (by assumption) ?_; rotate_left; focus (intro w' hS'; (try dsimp only at hS'); go_split_ands; (try go_simp); (try (with_reducible rfl)); done); try simp only [Act.put, List.setIfInBounds_toArray, List.set_cons_zero, List.set_cons_succ]); (refine hTake (i := 21) (v := ?_) rfl (by kernel_rfl) (by kernel_rfl) (by kernel_rfl) (fun _ _ _ h => h) (by kernel_rfl) ?_ (by assumption) ?_; rotate_left; focus (intro w' hS'; (try dsimp only at hS'); go_split_ands; (try go_simp); (try (with_reducible rfl)); done); try simp only [Act.put, List.setIfInBounds_toArray, List.set_cons_zero, List.set_cons_succ]); (refine hTake (i := 22) (v := ?_) rfl (by kernel_rfl) (by kernel_rfl) (by kernel_rfl) (fun _ _ _ h => h) (by kernel_rfl) ?_ (by assumption) ?_; rotate_left; focus (intro w' hS'; (try dsimp only at hS'); go_split_ands; (try go_simp); (try (with_reducible rfl)); done); try simp only [Act.put, List.setIfInBounds_toArray, List.set_cons_zero, List.set_cons_succ]); (refine hTake (i := 23) (v := ?_) rfl (by kernel_rfl) (by kernel_rfl) (by kernel_rfl) (fun _ _ _ h => h) (by kernel_rfl) ?_ (by assumption) ?_; rotate_left; focus (intro w' hS'; (try dsimp only at hS'); go_split_ands; (try go_simp); (try (with_reducible rfl)); done); try simp only [Act.put, List.setIfInBounds_toArray, List.set_cons_zero, List.set_cons_succ]); (refine hTake (i := 24) (v := ?_) rfl (by kernel_rfl) (by kernel_rfl) (by kernel_rfl) (fun _ _ _ h => h) (by kernel_rfl) ?_ (by assumption) ?_; rotate_left; focus (intro w' hS'; (try dsimp only at hS'); go_split_ands; (try go_simp); (try (with_reducible rfl)); done); try simp only [Act.put, List.setIfInBounds_toArray, List.set_cons_zero, List.set_cons_succ]); (refine hTake (i := 25) (v := ?_) rfl (by kernel_rfl) (by kernel_rfl) (by kernel_rfl) (fun _ _ _ h => h) (by kernel_rfl) ?_ (by assumption) ?_; rotate_left; focus (intro w' hS'; (try dsimp only at hS'); go_split_ands; (try go_simp); (try (with_reducible rfl)); done); try simp only [Act.put, List.setIfInBounds_toArray, List.set_cons_zero, List.set_cons_succ]); (refine hTake (i := 26) (v := ?_) rfl (by kernel_rfl) (by kernel_rfl) (by kernel_rfl) (fun _ _ _ h => h) (by kernel_rfl) ?_ (by assumption) ?_; rotate_left; focus (intro w' hS'; (try dsimp only at hS'); go_split_ands; (try go_simp); (try (with_reducible rfl)); done); try simp only [Act.put, List.setIfInBounds_toArray, List.set_cons_zero, List.set_cons_succ]); (refine hTake (i := 27) (v := ?_) rfl (by kernel_rfl) (by kernel_rfl) (by kernel_rfl) (fun _ _ _ h => h) (by kernel_rfl) ?_ (by assumption) ?_; rotate_left; focus (intro w' hS'; (try dsimp only at hS'); go_split_ands; (try go_simp); (try (with_reducible rfl)); done); try simp only [Act.put, List.setIfInBounds_toArray, List.set_cons_zero, List.set_cons_succ]); (refine hTake (i := 28) (v := ?_) rfl (by kernel_rfl) (by kernel_rfl) (by kernel_rfl) (fun _ _ _ h => h) (by kernel_rfl) ?_ (by assumption) ?_; rotate_left; focus (intro w' hS'; (try dsimp only at hS'); go_split_ands; (try go_simp); (try (with_reducible rfl)); done); try simp only [Act.put, List.setIfInBounds_toArray, List.set_cons_zero, List.set_cons_succ]); (refine hTake (i := 29) (v := ?_) rfl (by kernel_rfl) (by kernel_rfl) (by kernel_rfl) (fun _ _ _ h => h) (by kernel_rfl) ?_ (by assumption) ?_; rotate_left; focus (intro w' hS'; (try dsimp only at hS'); go_split_ands; (try go_simp); (try (with_reducible rfl)); done); try simp only [Act.put, List.setIfInBounds_toArray, List.set_cons_zero, List.set_cons_succ]); (refine hTake (i := 30) (v := ?_) rfl (by kernel_rfl) (by kernel_rfl) (by kernel_rfl) (fun _ _ _ h => h) (by kernel_rfl) ?_ (by assumption) ?_; rotate_left; focus (intro w' hS'; (try dsimp only at hS'); go_split_ands; (try go_simp); (try (with_reducible rfl)); done); try simp only [Act.put, List.setIfInBounds_toArray, List.set_cons_zero, List.set_cons_succ]); (refine hTake (i := 31) (v := ?_) rfl (by kernel_rfl) (by kernel_rfl) (by kernel_rfl) (fun _ _ _ h => h) (by kernel_rfl) ?_ (by assumption) ?_; rotate_left; focus (intro w' hS'; (try dsimp only at hS'); go_split_ands; (try go_simp); (try (with_reducible rfl)); done); try simp only [Act.put, List.setIfInBounds_toArray, List.set_cons_zero, List.set_cons_succ]); (refine hTake (i := 32) (v := ?_) rfl (by kernel_rfl) (by kernel_rfl) (by kernel_rfl) (fun _ _ _ h => h) (by kernel_rfl) ?_ (by assumption) ?_; rotate_left; focus (intro w' hS'; (try dsimp only at hS'); go_split_ands; (try go_simp); (try (with_reducible rfl)); done); try simp only [Act.put, List.setIfInBounds_toArray, List.set_cons_zero, List.set_cons_succ]); (refine hTake (i := 33) (v := ?_) rfl (by kernel_rfl) (by kernel_rfl) (by kernel_rfl) (fun _ _ _ h => h) (by kernel_rfl) ?_ (by assumption) ?_; rotate_left; focus (intro w' hS'; (try dsimp only at hS'); go_split_ands; (try go_simp); (try (with_reducible rfl)); done); try simp only [Act.put, List.setIfInBounds_toArray, List.set_cons_zero, List.set_cons_succ]); (refine hTake (i := 34) (v := ?_) rfl (by kernel_rfl) (by kernel_rfl) (by kernel_rfl) (fun _ _ _ h => h) (by kernel_rfl) ?_ (by assumption) ?_; rotate_left; focus (intro w' hS'; (try dsimp only at hS'); go_split_ands; (try go_simp); (try (with_reducible rfl)); done); try simp only [Act.put, List.setIfInBounds_toArray, List.set_cons_zero, List.set_cons_succ]); (refine hTake (i := 35) (v := ?_) rfl (by kernel_rfl) (by kernel_rfl) (by kernel_rfl) (fun _ _ _ h => h) (by kernel_rfl) ?_ (by assumption) ?_; rotate_left; focus (intro w' hS'; (try dsimp only at hS'); go_split_ands; (try go_simp); (try (with_reducible rfl)); done); try simp only [Act.put, List.setIfInBounds_toArray, List.set_cons_zero, List.set_cons_succ]); (refine hTake (i := 36) (v := ?_) rfl (by kernel_rfl) (by kernel_rfl) (by kernel_rfl) (fun _ _ _ h => h) (by kernel_rfl) ?_ (by assumption) ?_; rotate_left; focus (intro w' hS'; (try dsimp only at hS'); go_split_ands; (try go_simp); (try (with_reducible rfl)); done); try simp only [Act.put, List.setIfInBounds_toArray, List.set_cons_zero, List.set_cons_succ]); (refine hTake (i := 37) (v := ?_) rfl (by kernel_rfl) (by kernel_rfl) (by kernel_rfl) (fun _ _ _ h => h) (by kernel_rfl) ?_ (by assumption) ?_; rotate_left; focus (intro w' hS'; (try dsimp only at hS'); go_split_ands; (try go_simp); (try (with_reducible rfl)); done); try simp only [Act.put, List.setIfInBounds_toArray, List.set_cons_zero, List.set_cons_succ]); (refine hTake (i := 38) (v := ?_) rfl (by kernel_rfl) (by kernel_rfl) (by kernel_rfl) (fun _ _ _ h => h) (by kernel_rfl) ?_ (by assumption) ?_; rotate_left; focus (intro w' hS'; (try dsimp only at hS'); go_split_ands; (try go_simp); (try (with_reducible rfl)); done); try simp only [Act.put, List.setIfInBounds_toArray, List.set_cons_zero, List.set_cons_succ])
              refine hOne (i := 39) rfl (by kernel_rfl) (fun K hK => ?_)
              go_simp
              refine (one_any w15 HF15.out HR15.out HS2.out).mono ?_
              rintro e w16 ⟨rfl, hb16⟩
              have hbel16 : Below w.heap.size w w16 := below_tr hbel15 hb16
              have eB16 : w16.heap[B]? = W12.heap[B]? := (hb16.block B (by omega)).trans eB15
              have eg16 : w16.heap[g]? = W12.heap[g]? := (hb16.block g (by omega)).trans eg15
              have HF16 := Lib.hid (HF15.out.below hb16)
              have HR16 := Lib.hid (HR15.out.below hb16)
              have hs16 : W12.heap.size ≤ w16.heap.size := Nat.le_trans hs15 hb16.size
              have HKS16 := Lib.hid (HKS.out w16 eB16 eg16 hbel16)
              have HC16 : Hid (w16.heap[g]? = some (.cells cur 3 (0, 0)) ∧ cur.size = p + 1) := Lib.hid ⟨eg16.trans HCUR.out, HCS.out⟩
              clear hb16 eB15 eg15 hbel15 hs15
              go_wp2_with fail
              refine hK.out _ _ HKS16.out (fun hH => ?_)
              clear hK K
              (refine hTake (i := 40) (v := ?_) rfl (by kernel_rfl) (by kernel_rfl) (by kernel_rfl) (fun _ _ _ h => h) (by kernel_rfl) ?_ (by assumption) ?_; rotate_left; focus (intro w' hS'; (try dsimp only at hS'); go_split_ands; (try go_simp); (try (with_reducible rfl)); done); try simp only [Act.put, List.setIfInBounds_toArray, List.set_cons_zero, List.set_cons_succ]); (refine hTake (i := 41) (v := ?_) rfl (by kernel_rfl) (by kernel_rfl) (by kernel_rfl) (fun _ _ _ h => h) (by kernel_rfl) ?_ (by assumption) ?_; rotate_left; focus (intro w' hS'; (try dsimp only at hS'); go_split_ands; (try go_simp); (try (with_reducible rfl)); done); try simp only [Act.put, List.setIfInBounds_toArray, List.set_cons_zero, List.set_cons_succ])
              refine wpAnyH_done (by kernel_rfl) ?_ _
              clear hH eB16 eg16
              go_wp2_with fail
              go_loopw [11] (fun j wl => ∃ m : Nat, m ≤ p ∧ j = .int .i64 (m : Nat) ∧ Hid (Out (fun x => x = g) w16 wl) ∧ Hid (∃ cur, wl.heap[g]? = some (.cells cur 3 (0, 0)) ∧ cur.size = p + 1)) (fun j _ => p - (intOf j).toNat)
              case atStart => exact ⟨0, Nat.zero_le _, rfl, Lib.hid (Out.refl _ _), Lib.hid ⟨cur, HC16.out⟩⟩
              case round =>
                obtain ⟨m, hm, rfl, HO, HCU⟩ := hrel
                have x5 : wr.cell? ⟨B, 5, none⟩ = some (.slice (some ⟨g, 0, none⟩) p (p + 1)) := (HO.out.cell (by omega) (fun e => hgB e.symm) 5).trans HKS16.out.2.2.2.2.2.2.1
                by_cases hmp : m < p
                · obtain ⟨cur2, hcu, hcs2⟩ := HCU.out
                  obtain ⟨um, xm⟩ : ∃ u, wr.cell? ⟨g, m, none⟩ = some u := ⟨_, (cell_at hcu m).trans (Array.getElem?_eq_getElem (show m < cur2.size by omega))⟩
                  have fm := free_at hcu m
                  have hst := setCell_heap_same wr g m (.int .i64 7) _ _ hcu
                  have HST := Lib.hid hst
                  have HCS2 := Lib.hid hcs2
                  clear hst hcu hcs2
                  go_wp2_with fail
                  exact ⟨⟨m + 1, by omega, by go_num, Lib.hid (HO.out.set (.inl rfl) _ _), Lib.hid ⟨_, HST.out, by simpa using HCS2.out⟩⟩, by simp [intOf]; omega⟩
                · obtain rfl : m = p := by omega
                  go_wp2_with fail
                  exact ⟨⟨k + 1, F2, Mf2, Mr2, by omega, by go_num, Lib.hid (HF16.out.out HO.out (fun x hx e => nF2g (e ▸ hx))), Lib.hid (HR16.out.out HO.out (fun x hx e => nR2g (e ▸ hx))), HS2, HKL2, HDJ2, HMf2, HMr2, hbel16.trans (HO.out.below hbel16.size (fun x hx => by rw [hx]; have := hbel.size; omega))⟩, by simp [intOf]; omega⟩
            · go_simp
              have hbO : Below Wa.heap.size Wa (WM.alloc (.cells #[.int .i64 99] 3)) := hb7.alloc hb7.size _
              have hownO := hown7.out.alloc (.cells #[.int .i64 99] 3)
              have hi99 := ints_99 WM 3
              have hg2 : WM.heap.size ≠ g := by have := (hown7.out.lt g rfl).2; omega
              refine hK.out _ _ ⟨(HQC.out _ (below_tr hbelA hbO)).2.2.2.2.2, below_tr hbelA hbO⟩ (fun hH => ?_)
              clear hK K
              refine hOne (i := 13) rfl (by kernel_rfl) (fun K hK => ?_)
              refine step_append_ints rfl (.tmp 55) (.tmp 60) rfl Wa.heap.size g 0 (p + 1) [] (by simp [Act.eval]) hownO ia d.K ic p (by simp [Act.eval]) HP.out.symm (HKW.out (fun _ => False) _ (below_tr hbelA hbO) (fun _ h => h.elim)) p (Nat.zero_add p) (by omega) ?_
              intro WN hownN hgN
              have hbN : Below Wa.heap.size Wa WN := Below.grown hbO hgN hbO.size (fun k hk => by injection hk with hk; omega)
              have hi99N := hi99.eq (M' := fun _ => True) hgN.size fun x hx e => ⟨hgN.block x hx (by rw [e]; intro h; injection h with h; exact hg2 h), trivial⟩
              refine hK.out _ _ ⟨(HQC.out _ (below_tr hbelA hbN)).2.2.2.2.2, below_tr hbelA hbN⟩ (fun hH => ?_)
              clear hK K
              refine hOne (i := 15) rfl (by kernel_rfl) (fun K hK => ?_)
              refine step_append_ints rfl (.tmp 61) (.tmp 62) rfl Wa.heap.size g p (p + 1) _ (by simp [Act.eval, Act.put]) hownN.out _ [99] 1 1 (by simp [Act.eval, Act.put]) rfl hi99N (p + 1) rfl (Nat.le_refl _) ?_
              intro WE hownE hgE
              have HBE : Below Wa.heap.size Wa WE := Below.grown hbN hgE hbN.size (fun k hk => by injection hk with hk; omega)
              refine hK.out _ _ ⟨(HQC.out _ (below_tr hbelA HBE)).2.2.2.2.2, below_tr hbelA HBE⟩ (fun hH => ?_)
              clear hK K
              clear hown7 hownN hownO hi99 hi99N hbO hbN hb7 hgN hgE hg2
              (refine hTake (i := 22) (v := ?_) rfl (by kernel_rfl) (by kernel_rfl) (by kernel_rfl) (fun _ _ _ h => h) (by kernel_rfl) ?_ (by assumption) ?_; rotate_left; focus (intro w' hS'; (try dsimp only at hS'); go_split_ands; (try go_simp); (try (with_reducible rfl)); done); try simp only [Act.put, List.setIfInBounds_toArray, List.set_cons_zero, List.set_cons_succ]); (refine hTake (i := 23) (v := ?_) rfl (by kernel_rfl) (by kernel_rfl) (by kernel_rfl) (fun _ _ _ h => h) (by kernel_rfl) ?_ (by assumption) ?_; rotate_left; focus (intro w' hS'; (try dsimp only at hS'); go_split_ands; (try go_simp); (try (with_reducible rfl)); done); try simp only [Act.put, List.setIfInBounds_toArray, List.set_cons_zero, List.set_cons_succ])
              have hgl : Wa.heap.size ≤ g ∧ g < WE.heap.size := hownE.out.lt g rfl
              have hbE : Box6 WE B 35 (.int .u8 (dw : Int)) (.string d.A) (.string d.B) (.string d.S) (.int .i64 d.N) (.slice ia p ic) := HBox.out.eq (HBE.block B HBox.out.lt)
              have c5 := hbE.c5
              have f5 := hbE.free 5
              have h12 := setCell_heap_same WE B 5 (.slice (some ⟨g, 0, none⟩) p (p + 1)) _ _ hbE
              obtain ⟨cur, hcur, hcs, hints, h99⟩ := row99 hownE.out HP.out.symm
              have hgB : g ≠ B := by omega
              have hBr : B ≤ wr.heap.size := Nat.le_of_eq HB.out
              have hbW : Below wr.heap.size wr (WE.setCell ⟨B, 5, none⟩ (.slice (some ⟨g, 0, none⟩) p (p + 1))) := (HBA.out.trans (HBE.mono HBA.out.size)).setCell (p := ⟨B, 5, none⟩) (Nat.le_of_eq HB.out.symm) _
              have hcur2 : (WE.setCell ⟨B, 5, none⟩ (.slice (some ⟨g, 0, none⟩) p (p + 1))).heap[g]? = some (.cells cur 3 (0, 0)) := (setCell_heap_other _ _ _ _ _ hgB).trans hcur
              have hints2 : IntsIn (fun k => k = g) (WE.setCell ⟨B, 5, none⟩ (.slice (some ⟨g, 0, none⟩) p (p + 1))) (.slice (some ⟨g, 0, none⟩) p (p + 1)) d.K := hints.eq (by rw [size_set]; exact Nat.le_refl _) fun k _ hk => ⟨setCell_heap_other _ _ _ _ _ (by rw [hk]; exact hgB), hk⟩
              have h992 : (WE.setCell ⟨B, 5, none⟩ (.slice (some ⟨g, 0, none⟩) p (p + 1))).cell? ⟨g, p, none⟩ = some (.int .i64 99) := (World.cell?_of_block (a := ⟨g, p, none⟩) (setCell_heap_other _ _ _ _ _ hgB)).trans h99
              have hgs : g < (WE.setCell ⟨B, 5, none⟩ (.slice (some ⟨g, 0, none⟩) p (p + 1))).heap.size := by rw [size_set]; exact hgl.2
              have hgr : wr.heap.size ≤ g := Nat.le_trans HBA.out.size hgl.1
              refine hOne (i := 24) rfl (by kernel_rfl) (fun K hK => ?_)
              go_simp
              refine hK.out _ _ ⟨(HQC.out _ (below_tr hbel hbW)).2.2.2.2.2, below_tr hbel hbW⟩ (fun hH => ?_)
              clear hK K
              refine wpAnyH_done (by kernel_rfl) ?_ _
              clear hcur hints h99 hownE HBE hbE c5 f5 hgl hH
              generalize WE.setCell ⟨B, 5, none⟩ (.slice (some ⟨g, 0, none⟩) p (p + 1)) = W12 at *
              have hbel12 : Below w.heap.size w W12 := below_tr hbel hbW
              have HF12 := Lib.hid (HF.out.below hbW)
              have HR12 := Lib.hid (HR.out.below hbW)
              have nFB : ¬ Mf B := fun h => by have := HF.out.lt B h; have := HB.out; omega
              have nRB : ¬ Mr B := fun h => by have := HR.out.lt B h; have := HB.out; omega
              have nFg : ¬ Mf g := fun h => by have := HF.out.lt g h; omega
              have nRg : ¬ Mr g := fun h => by have := HR.out.lt g h; omega
              have b6 : Box6 W12 B 35 (.int .u8 (dw : Int)) (.string d.A) (.string d.B) (.string d.S) (.int .i64 d.N) (.slice (some ⟨g, 0, none⟩) p (p + 1)) := h12
              have hB12 : B < W12.heap.size := b6.lt
              have HKS : Hid (∀ wx, wx.heap[B]? = W12.heap[B]? → wx.heap[g]? = W12.heap[g]? → Below w.heap.size w wx → ((wx.cell? ⟨lb, lo + k * 6, none⟩ = some (.int .u8 (dw : Int)) ∧ wx.cell? ⟨lb, lo + k * 6 + 1, none⟩ = some (.string d.A) ∧ wx.cell? ⟨lb, lo + k * 6 + 2, none⟩ = some (.string d.B) ∧ wx.cell? ⟨lb, lo + k * 6 + 3, none⟩ = some (.string d.S) ∧ wx.cell? ⟨lb, lo + k * 6 + 4, none⟩ = some (.int .i64 d.N) ∧ wx.cell? ⟨lb, lo + k * 6 + 5, none⟩ = some (.slice ia p ic)) ∧ wx.cell? ⟨B, 0, none⟩ = some (.int .u8 (dw : Int)) ∧ wx.cell? ⟨B, 1, none⟩ = some (.string d.A) ∧ wx.cell? ⟨B, 2, none⟩ = some (.string d.B) ∧ wx.cell? ⟨B, 3, none⟩ = some (.string d.S) ∧ wx.cell? ⟨B, 4, none⟩ = some (.int .i64 d.N) ∧ wx.cell? ⟨B, 5, none⟩ = some (.slice (some ⟨g, 0, none⟩) p (p + 1)) ∧ wx.cell? ⟨g, p, none⟩ = some (.int .i64 99))) := Lib.hid (fun wx hB hg hbx => by
                have bx := b6.eq hB
                exact ⟨HQC.out wx hbx, bx.c0, bx.c1, bx.c2, bx.c3, bx.c4, bx.c5, (World.cell?_of_block (a := ⟨g, p, none⟩) hg).trans h992⟩)
              have HI12 : Hid (∀ (M : Nat → Prop) (wx : World), wx.heap[g]? = W12.heap[g]? → W12.heap.size ≤ wx.heap.size → ¬ M g → IntsIn (fun x => ¬ M x) wx (.slice (some ⟨g, 0, none⟩) p (p + 1)) d.K) := Lib.hid (fun M wx hg hs hm => hints2.eq hs fun x _ hx => ⟨by rw [hx]; exact hg, by rw [hx]; exact hm⟩)
              have HCUR := Lib.hid hcur2
              have HCS := Lib.hid hcs
              have hKb : d.K.length ≤ 1000000 := by rw [← HP.out]; omega
              have CW := with_any W12.drew (HF12.out.out (Out.refl (fun _ => False) _).drew (fun _ _ h => h)) HS.out (d := d) ⟨_, rfl, HI12.out Mf W12.drew rfl (Nat.le_refl _) nFg⟩ HOK.out.what HOK.out.S hKb
              have CB : ∀ w13, RAt Mr w13 br F → Below w.heap.size w w13 → Hid (Calls Try.prog 30 #[.pointer (some ⟨br, 0, none⟩), .agg #[.int .u8 (d.what : Int), .string d.A, .string d.B, .string d.S, .int .i64 d.N, .slice ia p ic]] w13 fun e w' => e = .returned (.int .i64 (withE F d)) ∧ RTurned Mr w13 w' br (withF F d)) := fun w13 h13 hb13 =>
                Lib.hid (by_any w13 h13 HS.out (d := d) ⟨_, rfl, HKW.out Mr w13 hb13 HMr.out⟩ HOK.out.what HKL.out (by have := HSM.out.A; omega) (by have := HSM.out.B; omega) (by have := HSM.out.S; omega) hKb)
              rw [← HDW.out] at CW CB
              have CW2 := Lib.hid CW
              have HS2 := Lib.hid (HS.out.with' d HOK.out.N2 hKb)
              have HKL2 : Hid ((withF F d).keep.length ≤ 1000000) := Lib.hid (by rcases with_keep F d with h | h <;> rw [h]; exact HKL.out; exact hKb)
              generalize withE F d = E at *
              generalize withF F d = F2 at *
              have enn : (E == E) = true := by simp
              have HBW := Lib.hid hbW
              clear CW hcs h12 b6 hints2 h992 hcur2 hKb hbW
              go_upto_region 12 with fail
              refine wp_region_held_drew (S := fun wx => ((wx.cell? ⟨lb, lo + k * 6, none⟩ = some (.int .u8 (dw : Int)) ∧ wx.cell? ⟨lb, lo + k * 6 + 1, none⟩ = some (.string d.A) ∧ wx.cell? ⟨lb, lo + k * 6 + 2, none⟩ = some (.string d.B) ∧ wx.cell? ⟨lb, lo + k * 6 + 3, none⟩ = some (.string d.S) ∧ wx.cell? ⟨lb, lo + k * 6 + 4, none⟩ = some (.int .i64 d.N) ∧ wx.cell? ⟨lb, lo + k * 6 + 5, none⟩ = some (.slice ia p ic)) ∧ wx.cell? ⟨B, 0, none⟩ = some (.int .u8 (dw : Int)) ∧ wx.cell? ⟨B, 1, none⟩ = some (.string d.A) ∧ wx.cell? ⟨B, 2, none⟩ = some (.string d.B) ∧ wx.cell? ⟨B, 3, none⟩ = some (.string d.S) ∧ wx.cell? ⟨B, 4, none⟩ = some (.int .i64 d.N) ∧ wx.cell? ⟨B, 5, none⟩ = some (.slice (some ⟨g, 0, none⟩) p (p + 1)) ∧ wx.cell? ⟨g, p, none⟩ = some (.int .i64 99))) (by kernel_rfl) (HKS.out _ rfl rfl hbel12.drew) (fun hH => ?_)
              (refine hTake (i := 0) (v := ?_) rfl (by kernel_rfl) (by kernel_rfl) (by kernel_rfl) (fun _ _ _ h => h) (by kernel_rfl) ?_ (by assumption) ?_; rotate_left; focus (intro w' hS'; (try dsimp only at hS'); go_split_ands; (try go_simp); (try (with_reducible rfl)); done); try simp only [Act.put, List.setIfInBounds_toArray, List.set_cons_zero, List.set_cons_succ]); (refine hTake (i := 1) (v := ?_) rfl (by kernel_rfl) (by kernel_rfl) (by kernel_rfl) (fun _ _ _ h => h) (by kernel_rfl) ?_ (by assumption) ?_; rotate_left; focus (intro w' hS'; (try dsimp only at hS'); go_split_ands; (try go_simp); (try (with_reducible rfl)); done); try simp only [Act.put, List.setIfInBounds_toArray, List.set_cons_zero, List.set_cons_succ]); (refine hTake (i := 3) (v := ?_) rfl (by kernel_rfl) (by kernel_rfl) (by kernel_rfl) (fun _ _ _ h => h) (by kernel_rfl) ?_ (by assumption) ?_; rotate_left; focus (intro w' hS'; (try dsimp only at hS'); go_split_ands; (try go_simp); (try (with_reducible rfl)); done); try simp only [Act.put, List.setIfInBounds_toArray, List.set_cons_zero, List.set_cons_succ]); (refine hTake (i := 4) (v := ?_) rfl (by kernel_rfl) (by kernel_rfl) (by kernel_rfl) (fun _ _ _ h => h) (by kernel_rfl) ?_ (by assumption) ?_; rotate_left; focus (intro w' hS'; (try dsimp only at hS'); go_split_ands; (try go_simp); (try (with_reducible rfl)); done); try simp only [Act.put, List.setIfInBounds_toArray, List.set_cons_zero, List.set_cons_succ]); (refine hTake (i := 5) (v := ?_) rfl (by kernel_rfl) (by kernel_rfl) (by kernel_rfl) (fun _ _ _ h => h) (by kernel_rfl) ?_ (by assumption) ?_; rotate_left; focus (intro w' hS'; (try dsimp only at hS'); go_split_ands; (try go_simp); (try (with_reducible rfl)); done); try simp only [Act.put, List.setIfInBounds_toArray, List.set_cons_zero, List.set_cons_succ]); (refine hTake (i := 6) (v := ?_) rfl (by kernel_rfl) (by kernel_rfl) (by kernel_rfl) (fun _ _ _ h => h) (by kernel_rfl) ?_ (by assumption) ?_; rotate_left; focus (intro w' hS'; (try dsimp only at hS'); go_split_ands; (try go_simp); (try (with_reducible rfl)); done); try simp only [Act.put, List.setIfInBounds_toArray, List.set_cons_zero, List.set_cons_succ]); (refine hTake (i := 7) (v := ?_) rfl (by kernel_rfl) (by kernel_rfl) (by kernel_rfl) (fun _ _ _ h => h) (by kernel_rfl) ?_ (by assumption) ?_; rotate_left; focus (intro w' hS'; (try dsimp only at hS'); go_split_ands; (try go_simp); (try (with_reducible rfl)); done); try simp only [Act.put, List.setIfInBounds_toArray, List.set_cons_zero, List.set_cons_succ])
              refine hOne (i := 2) rfl (by kernel_rfl) (fun K hK => ?_)
              go_simp
              refine CW2.out.mono ?_
              rintro e w13 ⟨rfl, Mf2, hf13, hM13, ho13⟩
              have ho13 := ho13.drewL
              have hb13 : Below w.heap.size w w13 := hbel12.trans (ho13.below hbel12.size HMf.out)
              have HF13 := Lib.hid hf13
              have HM13 : Hid (∀ x, Mf2 x → Mf x ∨ W12.heap.size ≤ x) := Lib.hid hM13
              have HO13 := Lib.hid ho13
              have HR13 := Lib.hid (HR12.out.out ho13 (fun x hx hm => HDJ.out x hm hx))
              clear hf13 hM13 CW2
              go_wp2_with fail
              refine hK.out _ _ (HKS.out _ (ho13.block B hB12 nFB) (ho13.block g hgs nFg) hb13) (fun hH => ?_)
              clear hK K
              refine hOne (i := 8) rfl (by kernel_rfl) (fun K hK => ?_)
              go_simp
              refine (CB w13 HR13.out hb13).out.mono ?_
              rintro e w14 ⟨rfl, Mr2, hr14, hM14, ho14⟩
              have hs13 := ho13.size
              have hb14 : Below w.heap.size w w14 := hb13.trans (ho14.below hb13.size HMr.out)
              have HR14 := Lib.hid hr14
              have HF14 := Lib.hid (HF13.out.out ho14 (fun x hx hm => (HM13.out x hx).elim (fun h => HDJ.out x h hm) (fun h => by have := HR12.out.lt x hm; omega)))
              have HDJ2 : Hid (∀ x, Mf2 x → ¬ Mr2 x) := Lib.hid (fun x hx hy => by
                have h1 := HF13.out.lt x hx
                rcases hM14 x hy with h | h
                · rcases HM13.out x hx with h2 | h2
                  · exact HDJ.out x h2 h
                  · have := HR12.out.lt x h; omega
                · omega)
              have HMf2 : Hid (∀ x, Mf2 x → w.heap.size ≤ x) := Lib.hid (fun x hx => (HM13.out x hx).elim (HMf.out x) fun h => by have := hbel12.size; omega)
              have HMr2 : Hid (∀ x, Mr2 x → w.heap.size ≤ x) := Lib.hid (fun x hx => (hM14 x hx).elim (HMr.out x) fun h => by have := hb13.size; omega)
              have nF2g : ¬ Mf2 g := fun h => by rcases HM13.out g h with h | h; exact nFg h; omega
              have nR2g : ¬ Mr2 g := fun h => by rcases hM14 g h with h | h; exact nRg h; omega
              have eB14 : w14.heap[B]? = W12.heap[B]? := (ho14.block B (by omega) nRB).trans (ho13.block B hB12 nFB)
              have eg14 : w14.heap[g]? = W12.heap[g]? := (ho14.block g (by omega) nRg).trans (ho13.block g hgs nFg)
              have hs14 : W12.heap.size ≤ w14.heap.size := Nat.le_trans hs13 ho14.size
              clear CB hr14 hM14 ho14 ho13 hs13
              go_wp2_with fail
              refine hK.out _ _ (HKS.out _ eB14 eg14 hb14) (fun hH => ?_)
              clear hK K
              (refine hTake (i := 9) (v := ?_) rfl (by kernel_rfl) (by kernel_rfl) (by kernel_rfl) (fun _ _ _ h => h) (by kernel_rfl) ?_ (by assumption) ?_; rotate_left; focus (intro w' hS'; (try dsimp only at hS'); go_split_ands; (try go_simp); (try (with_reducible rfl)); done); try simp only [Act.put, List.setIfInBounds_toArray, List.set_cons_zero, List.set_cons_succ]); (refine hTake (i := 10) (v := ?_) rfl (by kernel_rfl) (by kernel_rfl) (by kernel_rfl) (fun _ _ _ h => h) (by kernel_rfl) ?_ (by assumption) ?_; rotate_left; focus (intro w' hS'; (try dsimp only at hS'); go_split_ands; (try go_simp); (try (with_reducible rfl)); done); try simp only [Act.put, List.setIfInBounds_toArray, List.set_cons_zero, List.set_cons_succ]); (refine hTake (i := 11) (v := ?_) rfl (by kernel_rfl) (by kernel_rfl) (by kernel_rfl) (fun _ _ _ h => h) (by kernel_rfl) ?_ (by assumption) ?_; rotate_left; focus (intro w' hS'; (try dsimp only at hS'); go_split_ands; (try go_simp); (try (with_reducible rfl)); done); try simp only [Act.put, List.setIfInBounds_toArray, List.set_cons_zero, List.set_cons_succ]); (refine hTake (i := 12) (v := ?_) rfl (by kernel_rfl) (by kernel_rfl) (by kernel_rfl) (fun _ _ _ h => h) (by kernel_rfl) ?_ (by assumption) ?_; rotate_left; focus (intro w' hS'; (try dsimp only at hS'); go_split_ands; (try go_simp); (try (with_reducible rfl)); done); try simp only [Act.put, List.setIfInBounds_toArray, List.set_cons_zero, List.set_cons_succ]); (refine hTake (i := 13) (v := ?_) rfl (by kernel_rfl) (by kernel_rfl) (by kernel_rfl) (fun _ _ _ h => h) (by kernel_rfl) ?_ (by assumption) ?_; rotate_left; focus (intro w' hS'; (try dsimp only at hS'); go_split_ands; (try go_simp); (try (with_reducible rfl)); done); try simp only [Act.put, List.setIfInBounds_toArray, List.set_cons_zero, List.set_cons_succ]); (refine hTake (i := 14) (v := ?_) rfl (by kernel_rfl) (by kernel_rfl) (by kernel_rfl) (fun _ _ _ h => h) (by kernel_rfl) ?_ (by assumption) ?_; rotate_left; focus (intro w' hS'; (try dsimp only at hS'); go_split_ands; (try go_simp); (try (with_reducible rfl)); done); try simp only [Act.put, List.setIfInBounds_toArray, List.set_cons_zero, List.set_cons_succ]); (refine hTake (i := 15) (v := ?_) rfl (by kernel_rfl) (by kernel_rfl) (by kernel_rfl) (fun _ _ _ h => h) (by kernel_rfl) ?_ (by assumption) ?_; rotate_left; focus (intro w' hS'; (try dsimp only at hS'); go_split_ands; (try go_simp); (try (with_reducible rfl)); done); try simp only [Act.put, List.setIfInBounds_toArray, List.set_cons_zero, List.set_cons_succ]); (refine hTake (i := 16) (v := ?_) rfl (by kernel_rfl) (by kernel_rfl) (by kernel_rfl) (fun _ _ _ h => h) (by kernel_rfl) ?_ (by assumption) ?_; rotate_left; focus (intro w' hS'; (try dsimp only at hS'); go_split_ands; (try go_simp); (try (with_reducible rfl)); done); try simp only [Act.put, List.setIfInBounds_toArray, List.set_cons_zero, List.set_cons_succ]); (refine hTake (i := 17) (v := ?_) rfl (by kernel_rfl) (by kernel_rfl) (by kernel_rfl) (fun _ _ _ h => h) (by kernel_rfl) ?_ (by assumption) ?_; rotate_left; focus (intro w' hS'; (try dsimp only at hS'); go_split_ands; (try go_simp); (try (with_reducible rfl)); done); try simp only [Act.put, List.setIfInBounds_toArray, List.set_cons_zero, List.set_cons_succ])
              refine hOne (i := 18) rfl (by kernel_rfl) (fun K hK => ?_)
              go_simp
              have CI := numbers_any _ _ _ _ w14 (HI12.out Mf2 w14 eg14 hs14 nF2g) (HKW.out Mf2 w14 hb14 HMf2.out) (by rw [← HP.out]; omega) (by rw [← HP.out]; omega)
              rw [decide_eq_true (show d.K = d.K from rfl)] at CI
              refine CI.mono ?_
              rintro e w15 ⟨rfl, hb15⟩
              clear CI
              have hbel15 : Below w.heap.size w w15 := below_tr hb14 hb15
              have eB15 : w15.heap[B]? = W12.heap[B]? := (hb15.block B (by omega)).trans eB14
              have eg15 : w15.heap[g]? = W12.heap[g]? := (hb15.block g (by omega)).trans eg14
              have HF15 := Lib.hid (HF14.out.below hb15)
              have HR15 := Lib.hid (HR14.out.below hb15)
              have hs15 : W12.heap.size ≤ w15.heap.size := Nat.le_trans hs14 hb15.size
              clear hb15 eB14 eg14 hb14 hb13 hs14
              go_wp2_with fail
              refine hK.out _ _ (HKS.out _ eB15 eg15 hbel15) (fun hH => ?_)
              clear hK K
              (refine hTake (i := 19) (v := ?_) rfl (by kernel_rfl) (by kernel_rfl) (by kernel_rfl) (fun _ _ _ h => h) (by kernel_rfl) ?_ (by assumption) ?_; rotate_left; focus (intro w' hS'; (try dsimp only at hS'); go_split_ands; (try go_simp); (try (with_reducible rfl)); done); try simp only [Act.put, List.setIfInBounds_toArray, List.set_cons_zero, List.set_cons_succ]); (refine hTake (i := 20) (v := ?_) rfl (by kernel_rfl) (by kernel_rfl) (by kernel_rfl) (fun _ _ _ h => h) (by kernel_rfl) ?_ (by assumption) ?_; rotate_left; focus (intro w' hS'; (try dsimp only at hS'); go_split_ands; (try go_simp); (try (with_reducible rfl)); done); try simp only [Act.put, List.setIfInBounds_toArray, List.set_cons_zero, List.set_cons_succ]); (refine hTake (i := 21) (v := ?_) rfl (by kernel_rfl) (by kernel_rfl) (by kernel_rfl) (fun _ _ _ h => h) (by kernel_rfl) ?_ (by assumption) ?_; rotate_left; focus (intro w' hS'; (try dsimp only at hS'); go_split_ands; (try go_simp); (try (with_reducible rfl)); done); try simp only [Act.put, List.setIfInBounds_toArray, List.set_cons_zero, List.set_cons_succ]); (refine hTake (i := 22) (v := ?_) rfl (by kernel_rfl) (by kernel_rfl) (by kernel_rfl) (fun _ _ _ h => h) (by kernel_rfl) ?_ (by assumption) ?_; rotate_left; focus (intro w' hS'; (try dsimp only at hS'); go_split_ands; (try go_simp); (try (with_reducible rfl)); done); try simp only [Act.put, List.setIfInBounds_toArray, List.set_cons_zero, List.set_cons_succ]); (refine hTake (i := 23) (v := ?_) rfl (by kernel_rfl) (by kernel_rfl) (by kernel_rfl) (fun _ _ _ h => h) (by kernel_rfl) ?_ (by assumption) ?_; rotate_left; focus (intro w' hS'; (try dsimp only at hS'); go_split_ands; (try go_simp); (try (with_reducible rfl)); done); try simp only [Act.put, List.setIfInBounds_toArray, List.set_cons_zero, List.set_cons_succ]); (refine hTake (i := 24) (v := ?_) rfl (by kernel_rfl) (by kernel_rfl) (by kernel_rfl) (fun _ _ _ h => h) (by kernel_rfl) ?_ (by assumption) ?_; rotate_left; focus (intro w' hS'; (try dsimp only at hS'); go_split_ands; (try go_simp); (try (with_reducible rfl)); done); try simp only [Act.put, List.setIfInBounds_toArray, List.set_cons_zero, List.set_cons_succ]); (refine hTake (i := 25) (v := ?_) rfl (by kernel_rfl) (by kernel_rfl) (by kernel_rfl) (fun _ _ _ h => h) (by kernel_rfl) ?_ (by assumption) ?_; rotate_left; focus (intro w' hS'; (try dsimp only at hS'); go_split_ands; (try go_simp); (try (with_reducible rfl)); done); try simp only [Act.put, List.setIfInBounds_toArray, List.set_cons_zero, List.set_cons_succ]); (refine hTake (i := 26) (v := ?_) rfl (by kernel_rfl) (by kernel_rfl) (by kernel_rfl) (fun _ _ _ h => h) (by kernel_rfl) ?_ (by assumption) ?_; rotate_left; focus (intro w' hS'; (try dsimp only at hS'); go_split_ands; (try go_simp); (try (with_reducible rfl)); done); try simp only [Act.put, List.setIfInBounds_toArray, List.set_cons_zero, List.set_cons_succ]); (refine hTake (i := 27) (v := ?_) rfl (by kernel_rfl) (by kernel_rfl) (by kernel_rfl) (fun _ _ _ h => h) (by kernel_rfl) ?_ (by assumption) ?_; rotate_left; focus (intro w' hS'; (try dsimp only at hS'); go_split_ands; (try go_simp); (try (with_reducible rfl)); done); try simp only [Act.put, List.setIfInBounds_toArray, List.set_cons_zero, List.set_cons_succ]); (refine hTake (i := 28) (v := ?_) rfl (by kernel_rfl) (by kernel_rfl) (by kernel_rfl) (fun _ _ _ h => h) (by kernel_rfl) ?_ (by assumption) ?_; rotate_left; focus (intro w' hS'; (try dsimp only at hS'); go_split_ands; (try go_simp); (try (with_reducible rfl)); done); try simp only [Act.put, List.setIfInBounds_toArray, List.set_cons_zero, List.set_cons_succ]); (refine hTake (i := 29) (v := ?_) rfl (by kernel_rfl) (by kernel_rfl) (by kernel_rfl) (fun _ _ _ h => h) (by kernel_rfl) ?_ (by assumption) ?_; rotate_left; focus (intro w' hS'; (try dsimp only at hS'); go_split_ands; (try go_simp); (try (with_reducible rfl)); done); try simp only [Act.put, List.setIfInBounds_toArray, List.set_cons_zero, List.set_cons_succ]); (refine hTake (i := 30) (v := ?_) rfl (by kernel_rfl) (by kernel_rfl) (by kernel_rfl) (fun _ _ _ h => h) (by kernel_rfl) ?_ (by assumption) ?_; rotate_left; focus (intro w' hS'; (try dsimp only at hS'); go_split_ands; (try go_simp); (try (with_reducible rfl)); done); try simp only [Act.put, List.setIfInBounds_toArray, List.set_cons_zero, List.set_cons_succ]); (refine hTake (i := 31) (v := ?_) rfl (by kernel_rfl) (by kernel_rfl) (by kernel_rfl) (fun _ _ _ h => h) (by kernel_rfl) ?_ (by assumption) ?_; rotate_left; focus (intro w' hS'; (try dsimp only at hS'); go_split_ands; (try go_simp); (try (with_reducible rfl)); done); try simp only [Act.put, List.setIfInBounds_toArray, List.set_cons_zero, List.set_cons_succ]); (refine hTake (i := 32) (v := ?_) rfl (by kernel_rfl) (by kernel_rfl) (by kernel_rfl) (fun _ _ _ h => h) (by kernel_rfl) ?_ (by assumption) ?_; rotate_left; focus (intro w' hS'; (try dsimp only at hS'); go_split_ands; (try go_simp); (try (with_reducible rfl)); done); try simp only [Act.put, List.setIfInBounds_toArray, List.set_cons_zero, List.set_cons_succ]); (refine hTake (i := 33) (v := ?_) rfl (by kernel_rfl) (by kernel_rfl) (by kernel_rfl) (fun _ _ _ h => h) (by kernel_rfl) ?_ (by assumption) ?_; rotate_left; focus (intro w' hS'; (try dsimp only at hS'); go_split_ands; (try go_simp); (try (with_reducible rfl)); done); try simp only [Act.put, List.setIfInBounds_toArray, List.set_cons_zero, List.set_cons_succ]); (refine hTake (i := 34) (v := ?_) rfl (by kernel_rfl) (by kernel_rfl) (by kernel_rfl) (fun _ _ _ h => h) (by kernel_rfl) ?_ (by assumption) ?_; rotate_left; focus (intro w' hS'; (try dsimp only at hS'); go_split_ands; (try go_simp); (try (with_reducible rfl)); done); try simp only [Act.put, List.setIfInBounds_toArray, List.set_cons_zero, List.set_cons_succ]); (refine hTake (i := 35) (v := ?_) rfl (by kernel_rfl) (by kernel_rfl) (by kernel_rfl) (fun _ _ _ h => h) (by kernel_rfl) ?_ (by assumption) ?_; rotate_left; focus (intro w' hS'; (try dsimp only at hS'); go_split_ands; (try go_simp); (try (with_reducible rfl)); done); try simp only [Act.put, List.setIfInBounds_toArray, List.set_cons_zero, List.set_cons_succ]); (refine hTake (i := 36) (v := ?_) rfl (by kernel_rfl) (by kernel_rfl) (by kernel_rfl) (fun _ _ _ h => h) (by kernel_rfl) ?_ (by assumption) ?_; rotate_left; focus (intro w' hS'; (try dsimp only at hS'); go_split_ands; (try go_simp); (try (with_reducible rfl)); done); try simp only [Act.put, List.setIfInBounds_toArray, List.set_cons_zero, List.set_cons_succ]); (refine hTake (i := 37) (v := ?_) rfl (by kernel_rfl) (by kernel_rfl) (by kernel_rfl) (fun _ _ _ h => h) (by kernel_rfl) ?_ (by assumption) ?_; rotate_left; focus (intro w' hS'; (try dsimp only at hS'); go_split_ands; (try go_simp); (try (with_reducible rfl)); done); try simp only [Act.put, List.setIfInBounds_toArray, List.set_cons_zero, List.set_cons_succ]); (refine hTake (i := 38) (v := ?_) rfl (by kernel_rfl) (by kernel_rfl) (by kernel_rfl) (fun _ _ _ h => h) (by kernel_rfl) ?_ (by assumption) ?_; rotate_left; focus (intro w' hS'; (try dsimp only at hS'); go_split_ands; (try go_simp); (try (with_reducible rfl)); done); try simp only [Act.put, List.setIfInBounds_toArray, List.set_cons_zero, List.set_cons_succ])
              refine hOne (i := 39) rfl (by kernel_rfl) (fun K hK => ?_)
              go_simp
              refine (one_any w15 HF15.out HR15.out HS2.out).mono ?_
              rintro e w16 ⟨rfl, hb16⟩
              have hbel16 : Below w.heap.size w w16 := below_tr hbel15 hb16
              have eB16 : w16.heap[B]? = W12.heap[B]? := (hb16.block B (by omega)).trans eB15
              have eg16 : w16.heap[g]? = W12.heap[g]? := (hb16.block g (by omega)).trans eg15
              have HF16 := Lib.hid (HF15.out.below hb16)
              have HR16 := Lib.hid (HR15.out.below hb16)
              have hs16 : W12.heap.size ≤ w16.heap.size := Nat.le_trans hs15 hb16.size
              have HKS16 := Lib.hid (HKS.out w16 eB16 eg16 hbel16)
              have HC16 : Hid (w16.heap[g]? = some (.cells cur 3 (0, 0)) ∧ cur.size = p + 1) := Lib.hid ⟨eg16.trans HCUR.out, HCS.out⟩
              clear hb16 eB15 eg15 hbel15 hs15
              go_wp2_with fail
              refine hK.out _ _ HKS16.out (fun hH => ?_)
              clear hK K
              (refine hTake (i := 40) (v := ?_) rfl (by kernel_rfl) (by kernel_rfl) (by kernel_rfl) (fun _ _ _ h => h) (by kernel_rfl) ?_ (by assumption) ?_; rotate_left; focus (intro w' hS'; (try dsimp only at hS'); go_split_ands; (try go_simp); (try (with_reducible rfl)); done); try simp only [Act.put, List.setIfInBounds_toArray, List.set_cons_zero, List.set_cons_succ]); (refine hTake (i := 41) (v := ?_) rfl (by kernel_rfl) (by kernel_rfl) (by kernel_rfl) (fun _ _ _ h => h) (by kernel_rfl) ?_ (by assumption) ?_; rotate_left; focus (intro w' hS'; (try dsimp only at hS'); go_split_ands; (try go_simp); (try (with_reducible rfl)); done); try simp only [Act.put, List.setIfInBounds_toArray, List.set_cons_zero, List.set_cons_succ])
              refine wpAnyH_done (by kernel_rfl) ?_ _
              clear hH eB16 eg16
              go_wp2_with fail
              go_loopw [11] (fun j wl => ∃ m : Nat, m ≤ p ∧ j = .int .i64 (m : Nat) ∧ Hid (Out (fun x => x = g) w16 wl) ∧ Hid (∃ cur, wl.heap[g]? = some (.cells cur 3 (0, 0)) ∧ cur.size = p + 1)) (fun j _ => p - (intOf j).toNat)
              case atStart => exact ⟨0, Nat.zero_le _, rfl, Lib.hid (Out.refl _ _), Lib.hid ⟨cur, HC16.out⟩⟩
              case round =>
                obtain ⟨m, hm, rfl, HO, HCU⟩ := hrel
                have x5 : wr.cell? ⟨B, 5, none⟩ = some (.slice (some ⟨g, 0, none⟩) p (p + 1)) := (HO.out.cell (by omega) (fun e => hgB e.symm) 5).trans HKS16.out.2.2.2.2.2.2.1
                by_cases hmp : m < p
                · obtain ⟨cur2, hcu, hcs2⟩ := HCU.out
                  obtain ⟨um, xm⟩ : ∃ u, wr.cell? ⟨g, m, none⟩ = some u := ⟨_, (cell_at hcu m).trans (Array.getElem?_eq_getElem (show m < cur2.size by omega))⟩
                  have fm := free_at hcu m
                  have hst := setCell_heap_same wr g m (.int .i64 7) _ _ hcu
                  have HST := Lib.hid hst
                  have HCS2 := Lib.hid hcs2
                  clear hst hcu hcs2
                  go_wp2_with fail
                  exact ⟨⟨m + 1, by omega, by go_num, Lib.hid (HO.out.set (.inl rfl) _ _), Lib.hid ⟨_, HST.out, by simpa using HCS2.out⟩⟩, by simp [intOf]; omega⟩
                · obtain rfl : m = p := by omega
                  go_wp2_with fail
                  exact ⟨⟨k + 1, F2, Mf2, Mr2, by omega, by go_num, Lib.hid (HF16.out.out HO.out (fun x hx e => nF2g (e ▸ hx))), Lib.hid (HR16.out.out HO.out (fun x hx e => nR2g (e ▸ hx))), HS2, HKL2, HDJ2, HMf2, HMr2, hbel16.trans (HO.out.below hbel16.size (fun x hx => by rw [hx]; have := hbel.size; omega))⟩, by simp [intOf]; omega⟩
          · go_simp
            have hb14a : Below Wa.heap.size Wa (Wa.alloc (.cells #[.int .i64 99] 3)).drew := ((Below.refl _ _).alloc (Nat.le_refl _) _).drew
            have hi99 := (ints_99 Wa 3).eq (w' := (Wa.alloc (.cells #[.int .i64 99] 3)).drew) (M' := fun k => k = Wa.heap.size) (Nat.le_refl _) fun _ _ h => ⟨rfl, h⟩
            have hsO : Wa.heap.size < (Wa.alloc (.cells #[.int .i64 99] 3)).drew.heap.size := by show _ < (Wa.alloc _).heap.size; rw [size_alloc]; omega
            generalize World.drew (World.alloc Wa _) = WO at *
            refine hK.out _ _ ⟨(HQC.out _ (below_tr hbelA hb14a)).2.2.2.2.2, below_tr hbelA hb14a⟩ (fun hH => ?_)
            clear hK K
            refine hOne (i := 7) rfl (by kernel_rfl) (fun K hK => ?_)
            go_simp
            obtain ⟨WM, hrun, hownM, hbM⟩ := make_ints WO p (by omega)
            rw [hrun]
            go_simp
            clear hrun
            obtain ⟨g, hg⟩ : ∃ g, g = WO.heap.size := ⟨_, rfl⟩
            have hown7 : Hid (WM.ownsRow Wa.heap.size 3 1 (.slice (some ⟨g, 0, none⟩) 0 (p + 1)) 0 []) := Lib.hid (by rw [hg]; exact own_mono hownM.out (by omega))
            have hb7 : Below Wa.heap.size Wa WM := hb14a.trans (hbM.mono (by omega))
            have hgW : Wa.heap.size ≤ g := by omega
            have hi99M := hi99.eq (M' := fun k => k = Wa.heap.size) hbM.size fun x hx e => ⟨hbM.block x hx, e⟩
            have hg2 : Wa.heap.size ≠ g := by omega
            rw [← hg]
            clear hownM hbM hg hi99
            refine hK.out _ _ ⟨(HQC.out _ (below_tr hbelA hb7)).2.2.2.2.2, below_tr hbelA hb7⟩ (fun hH => ?_)
            clear hK K
            refine hOne (i := 13) rfl (by kernel_rfl) (fun K hK => ?_)
            refine step_append_ints rfl (.tmp 55) (.tmp 60) rfl Wa.heap.size g 0 (p + 1) [] (by simp [Act.eval]) hown7.out ia d.K ic p (by simp [Act.eval]) HP.out.symm (HKW.out (fun _ => False) _ (below_tr hbelA hb7) (fun _ h => h.elim)) p (Nat.zero_add p) (by omega) ?_
            intro WN hownN hgN
            have hbN : Below Wa.heap.size Wa WN := Below.grown hb7 hgN hb7.size (fun k hk => by injection hk with hk; omega)
            have hi99N := hi99M.eq (M' := fun _ => True) hgN.size fun x hx e => ⟨hgN.block x hx (by rw [e]; intro h; injection h with h; exact hg2 h), trivial⟩
            refine hK.out _ _ ⟨(HQC.out _ (below_tr hbelA hbN)).2.2.2.2.2, below_tr hbelA hbN⟩ (fun hH => ?_)
            clear hK K
            refine hOne (i := 15) rfl (by kernel_rfl) (fun K hK => ?_)
            refine step_append_ints rfl (.tmp 61) (.tmp 62) rfl Wa.heap.size g p (p + 1) _ (by simp [Act.eval, Act.put]) hownN.out _ [99] 1 1 (by simp [Act.eval, Act.put]) rfl hi99N (p + 1) rfl (Nat.le_refl _) ?_
            intro WE hownE hgE
            have HBE : Below Wa.heap.size Wa WE := Below.grown hbN hgE hbN.size (fun k hk => by injection hk with hk; omega)
            refine hK.out _ _ ⟨(HQC.out _ (below_tr hbelA HBE)).2.2.2.2.2, below_tr hbelA HBE⟩ (fun hH => ?_)
            clear hK K
            clear hown7 hownN hi99M hi99N hbN hb7 hgN hgE hg2 hb14a hsO
            (refine hTake (i := 22) (v := ?_) rfl (by kernel_rfl) (by kernel_rfl) (by kernel_rfl) (fun _ _ _ h => h) (by kernel_rfl) ?_ (by assumption) ?_; rotate_left; focus (intro w' hS'; (try dsimp only at hS'); go_split_ands; (try go_simp); (try (with_reducible rfl)); done); try simp only [Act.put, List.setIfInBounds_toArray, List.set_cons_zero, List.set_cons_succ]); (refine hTake (i := 23) (v := ?_) rfl (by kernel_rfl) (by kernel_rfl) (by kernel_rfl) (fun _ _ _ h => h) (by kernel_rfl) ?_ (by assumption) ?_; rotate_left; focus (intro w' hS'; (try dsimp only at hS'); go_split_ands; (try go_simp); (try (with_reducible rfl)); done); try simp only [Act.put, List.setIfInBounds_toArray, List.set_cons_zero, List.set_cons_succ])
            have hgl : Wa.heap.size ≤ g ∧ g < WE.heap.size := hownE.out.lt g rfl
            have hbE : Box6 WE B 35 (.int .u8 (dw : Int)) (.string d.A) (.string d.B) (.string d.S) (.int .i64 d.N) (.slice ia p ic) := HBox.out.eq (HBE.block B HBox.out.lt)
            have c5 := hbE.c5
            have f5 := hbE.free 5
            have h12 := setCell_heap_same WE B 5 (.slice (some ⟨g, 0, none⟩) p (p + 1)) _ _ hbE
            obtain ⟨cur, hcur, hcs, hints, h99⟩ := row99 hownE.out HP.out.symm
            have hgB : g ≠ B := by omega
            have hBr : B ≤ wr.heap.size := Nat.le_of_eq HB.out
            have hbW : Below wr.heap.size wr (WE.setCell ⟨B, 5, none⟩ (.slice (some ⟨g, 0, none⟩) p (p + 1))) := (HBA.out.trans (HBE.mono HBA.out.size)).setCell (p := ⟨B, 5, none⟩) (Nat.le_of_eq HB.out.symm) _
            have hcur2 : (WE.setCell ⟨B, 5, none⟩ (.slice (some ⟨g, 0, none⟩) p (p + 1))).heap[g]? = some (.cells cur 3 (0, 0)) := (setCell_heap_other _ _ _ _ _ hgB).trans hcur
            have hints2 : IntsIn (fun k => k = g) (WE.setCell ⟨B, 5, none⟩ (.slice (some ⟨g, 0, none⟩) p (p + 1))) (.slice (some ⟨g, 0, none⟩) p (p + 1)) d.K := hints.eq (by rw [size_set]; exact Nat.le_refl _) fun k _ hk => ⟨setCell_heap_other _ _ _ _ _ (by rw [hk]; exact hgB), hk⟩
            have h992 : (WE.setCell ⟨B, 5, none⟩ (.slice (some ⟨g, 0, none⟩) p (p + 1))).cell? ⟨g, p, none⟩ = some (.int .i64 99) := (World.cell?_of_block (a := ⟨g, p, none⟩) (setCell_heap_other _ _ _ _ _ hgB)).trans h99
            have hgs : g < (WE.setCell ⟨B, 5, none⟩ (.slice (some ⟨g, 0, none⟩) p (p + 1))).heap.size := by rw [size_set]; exact hgl.2
            have hgr : wr.heap.size ≤ g := Nat.le_trans HBA.out.size hgl.1
            refine hOne (i := 24) rfl (by kernel_rfl) (fun K hK => ?_)
            go_simp
            refine hK.out _ _ ⟨(HQC.out _ (below_tr hbel hbW)).2.2.2.2.2, below_tr hbel hbW⟩ (fun hH => ?_)
            clear hK K
            refine wpAnyH_done (by kernel_rfl) ?_ _
            clear hcur hints h99 hownE HBE hbE c5 f5 hgl hH
            generalize WE.setCell ⟨B, 5, none⟩ (.slice (some ⟨g, 0, none⟩) p (p + 1)) = W12 at *
            have hbel12 : Below w.heap.size w W12 := below_tr hbel hbW
            have HF12 := Lib.hid (HF.out.below hbW)
            have HR12 := Lib.hid (HR.out.below hbW)
            have nFB : ¬ Mf B := fun h => by have := HF.out.lt B h; have := HB.out; omega
            have nRB : ¬ Mr B := fun h => by have := HR.out.lt B h; have := HB.out; omega
            have nFg : ¬ Mf g := fun h => by have := HF.out.lt g h; omega
            have nRg : ¬ Mr g := fun h => by have := HR.out.lt g h; omega
            have b6 : Box6 W12 B 35 (.int .u8 (dw : Int)) (.string d.A) (.string d.B) (.string d.S) (.int .i64 d.N) (.slice (some ⟨g, 0, none⟩) p (p + 1)) := h12
            have hB12 : B < W12.heap.size := b6.lt
            have HKS : Hid (∀ wx, wx.heap[B]? = W12.heap[B]? → wx.heap[g]? = W12.heap[g]? → Below w.heap.size w wx → ((wx.cell? ⟨lb, lo + k * 6, none⟩ = some (.int .u8 (dw : Int)) ∧ wx.cell? ⟨lb, lo + k * 6 + 1, none⟩ = some (.string d.A) ∧ wx.cell? ⟨lb, lo + k * 6 + 2, none⟩ = some (.string d.B) ∧ wx.cell? ⟨lb, lo + k * 6 + 3, none⟩ = some (.string d.S) ∧ wx.cell? ⟨lb, lo + k * 6 + 4, none⟩ = some (.int .i64 d.N) ∧ wx.cell? ⟨lb, lo + k * 6 + 5, none⟩ = some (.slice ia p ic)) ∧ wx.cell? ⟨B, 0, none⟩ = some (.int .u8 (dw : Int)) ∧ wx.cell? ⟨B, 1, none⟩ = some (.string d.A) ∧ wx.cell? ⟨B, 2, none⟩ = some (.string d.B) ∧ wx.cell? ⟨B, 3, none⟩ = some (.string d.S) ∧ wx.cell? ⟨B, 4, none⟩ = some (.int .i64 d.N) ∧ wx.cell? ⟨B, 5, none⟩ = some (.slice (some ⟨g, 0, none⟩) p (p + 1)) ∧ wx.cell? ⟨g, p, none⟩ = some (.int .i64 99))) := Lib.hid (fun wx hB hg hbx => by
              have bx := b6.eq hB
              exact ⟨HQC.out wx hbx, bx.c0, bx.c1, bx.c2, bx.c3, bx.c4, bx.c5, (World.cell?_of_block (a := ⟨g, p, none⟩) hg).trans h992⟩)
            have HI12 : Hid (∀ (M : Nat → Prop) (wx : World), wx.heap[g]? = W12.heap[g]? → W12.heap.size ≤ wx.heap.size → ¬ M g → IntsIn (fun x => ¬ M x) wx (.slice (some ⟨g, 0, none⟩) p (p + 1)) d.K) := Lib.hid (fun M wx hg hs hm => hints2.eq hs fun x _ hx => ⟨by rw [hx]; exact hg, by rw [hx]; exact hm⟩)
            have HCUR := Lib.hid hcur2
            have HCS := Lib.hid hcs
            have hKb : d.K.length ≤ 1000000 := by rw [← HP.out]; omega
            have CW := with_any W12.drew (HF12.out.out (Out.refl (fun _ => False) _).drew (fun _ _ h => h)) HS.out (d := d) ⟨_, rfl, HI12.out Mf W12.drew rfl (Nat.le_refl _) nFg⟩ HOK.out.what HOK.out.S hKb
            have CB : ∀ w13, RAt Mr w13 br F → Below w.heap.size w w13 → Hid (Calls Try.prog 30 #[.pointer (some ⟨br, 0, none⟩), .agg #[.int .u8 (d.what : Int), .string d.A, .string d.B, .string d.S, .int .i64 d.N, .slice ia p ic]] w13 fun e w' => e = .returned (.int .i64 (withE F d)) ∧ RTurned Mr w13 w' br (withF F d)) := fun w13 h13 hb13 =>
              Lib.hid (by_any w13 h13 HS.out (d := d) ⟨_, rfl, HKW.out Mr w13 hb13 HMr.out⟩ HOK.out.what HKL.out (by have := HSM.out.A; omega) (by have := HSM.out.B; omega) (by have := HSM.out.S; omega) hKb)
            rw [← HDW.out] at CW CB
            have CW2 := Lib.hid CW
            have HS2 := Lib.hid (HS.out.with' d HOK.out.N2 hKb)
            have HKL2 : Hid ((withF F d).keep.length ≤ 1000000) := Lib.hid (by rcases with_keep F d with h | h <;> rw [h]; exact HKL.out; exact hKb)
            generalize withE F d = E at *
            generalize withF F d = F2 at *
            have enn : (E == E) = true := by simp
            have HBW := Lib.hid hbW
            clear CW hcs h12 b6 hints2 h992 hcur2 hKb hbW
            go_upto_region 12 with fail
            refine wp_region_held_drew (S := fun wx => ((wx.cell? ⟨lb, lo + k * 6, none⟩ = some (.int .u8 (dw : Int)) ∧ wx.cell? ⟨lb, lo + k * 6 + 1, none⟩ = some (.string d.A) ∧ wx.cell? ⟨lb, lo + k * 6 + 2, none⟩ = some (.string d.B) ∧ wx.cell? ⟨lb, lo + k * 6 + 3, none⟩ = some (.string d.S) ∧ wx.cell? ⟨lb, lo + k * 6 + 4, none⟩ = some (.int .i64 d.N) ∧ wx.cell? ⟨lb, lo + k * 6 + 5, none⟩ = some (.slice ia p ic)) ∧ wx.cell? ⟨B, 0, none⟩ = some (.int .u8 (dw : Int)) ∧ wx.cell? ⟨B, 1, none⟩ = some (.string d.A) ∧ wx.cell? ⟨B, 2, none⟩ = some (.string d.B) ∧ wx.cell? ⟨B, 3, none⟩ = some (.string d.S) ∧ wx.cell? ⟨B, 4, none⟩ = some (.int .i64 d.N) ∧ wx.cell? ⟨B, 5, none⟩ = some (.slice (some ⟨g, 0, none⟩) p (p + 1)) ∧ wx.cell? ⟨g, p, none⟩ = some (.int .i64 99))) (by kernel_rfl) (HKS.out _ rfl rfl hbel12.drew) (fun hH => ?_)
            (refine hTake (i := 0) (v := ?_) rfl (by kernel_rfl) (by kernel_rfl) (by kernel_rfl) (fun _ _ _ h => h) (by kernel_rfl) ?_ (by assumption) ?_; rotate_left; focus (intro w' hS'; (try dsimp only at hS'); go_split_ands; (try go_simp); (try (with_reducible rfl)); done); try simp only [Act.put, List.setIfInBounds_toArray, List.set_cons_zero, List.set_cons_succ]); (refine hTake (i := 1) (v := ?_) rfl (by kernel_rfl) (by kernel_rfl) (by kernel_rfl) (fun _ _ _ h => h) (by kernel_rfl) ?_ (by assumption) ?_; rotate_left; focus (intro w' hS'; (try dsimp only at hS'); go_split_ands; (try go_simp); (try (with_reducible rfl)); done); try simp only [Act.put, List.setIfInBounds_toArray, List.set_cons_zero, List.set_cons_succ]); (refine hTake (i := 3) (v := ?_) rfl (by kernel_rfl) (by kernel_rfl) (by kernel_rfl) (fun _ _ _ h => h) (by kernel_rfl) ?_ (by assumption) ?_; rotate_left; focus (intro w' hS'; (try dsimp only at hS'); go_split_ands; (try go_simp); (try (with_reducible rfl)); done); try simp only [Act.put, List.setIfInBounds_toArray, List.set_cons_zero, List.set_cons_succ]); (refine hTake (i := 4) (v := ?_) rfl (by kernel_rfl) (by kernel_rfl) (by kernel_rfl) (fun _ _ _ h => h) (by kernel_rfl) ?_ (by assumption) ?_; rotate_left; focus (intro w' hS'; (try dsimp only at hS'); go_split_ands; (try go_simp); (try (with_reducible rfl)); done); try simp only [Act.put, List.setIfInBounds_toArray, List.set_cons_zero, List.set_cons_succ]); (refine hTake (i := 5) (v := ?_) rfl (by kernel_rfl) (by kernel_rfl) (by kernel_rfl) (fun _ _ _ h => h) (by kernel_rfl) ?_ (by assumption) ?_; rotate_left; focus (intro w' hS'; (try dsimp only at hS'); go_split_ands; (try go_simp); (try (with_reducible rfl)); done); try simp only [Act.put, List.setIfInBounds_toArray, List.set_cons_zero, List.set_cons_succ]); (refine hTake (i := 6) (v := ?_) rfl (by kernel_rfl) (by kernel_rfl) (by kernel_rfl) (fun _ _ _ h => h) (by kernel_rfl) ?_ (by assumption) ?_; rotate_left; focus (intro w' hS'; (try dsimp only at hS'); go_split_ands; (try go_simp); (try (with_reducible rfl)); done); try simp only [Act.put, List.setIfInBounds_toArray, List.set_cons_zero, List.set_cons_succ]); (refine hTake (i := 7) (v := ?_) rfl (by kernel_rfl) (by kernel_rfl) (by kernel_rfl) (fun _ _ _ h => h) (by kernel_rfl) ?_ (by assumption) ?_; rotate_left; focus (intro w' hS'; (try dsimp only at hS'); go_split_ands; (try go_simp); (try (with_reducible rfl)); done); try simp only [Act.put, List.setIfInBounds_toArray, List.set_cons_zero, List.set_cons_succ])
            refine hOne (i := 2) rfl (by kernel_rfl) (fun K hK => ?_)
            go_simp
            refine CW2.out.mono ?_
            rintro e w13 ⟨rfl, Mf2, hf13, hM13, ho13⟩
            have ho13 := ho13.drewL
            have hb13 : Below w.heap.size w w13 := hbel12.trans (ho13.below hbel12.size HMf.out)
            have HF13 := Lib.hid hf13
            have HM13 : Hid (∀ x, Mf2 x → Mf x ∨ W12.heap.size ≤ x) := Lib.hid hM13
            have HO13 := Lib.hid ho13
            have HR13 := Lib.hid (HR12.out.out ho13 (fun x hx hm => HDJ.out x hm hx))
            clear hf13 hM13 CW2
            go_wp2_with fail
            refine hK.out _ _ (HKS.out _ (ho13.block B hB12 nFB) (ho13.block g hgs nFg) hb13) (fun hH => ?_)
            clear hK K
            refine hOne (i := 8) rfl (by kernel_rfl) (fun K hK => ?_)
            go_simp
            refine (CB w13 HR13.out hb13).out.mono ?_
            rintro e w14 ⟨rfl, Mr2, hr14, hM14, ho14⟩
            have hs13 := ho13.size
            have hb14 : Below w.heap.size w w14 := hb13.trans (ho14.below hb13.size HMr.out)
            have HR14 := Lib.hid hr14
            have HF14 := Lib.hid (HF13.out.out ho14 (fun x hx hm => (HM13.out x hx).elim (fun h => HDJ.out x h hm) (fun h => by have := HR12.out.lt x hm; omega)))
            have HDJ2 : Hid (∀ x, Mf2 x → ¬ Mr2 x) := Lib.hid (fun x hx hy => by
              have h1 := HF13.out.lt x hx
              rcases hM14 x hy with h | h
              · rcases HM13.out x hx with h2 | h2
                · exact HDJ.out x h2 h
                · have := HR12.out.lt x h; omega
              · omega)
            have HMf2 : Hid (∀ x, Mf2 x → w.heap.size ≤ x) := Lib.hid (fun x hx => (HM13.out x hx).elim (HMf.out x) fun h => by have := hbel12.size; omega)
            have HMr2 : Hid (∀ x, Mr2 x → w.heap.size ≤ x) := Lib.hid (fun x hx => (hM14 x hx).elim (HMr.out x) fun h => by have := hb13.size; omega)
            have nF2g : ¬ Mf2 g := fun h => by rcases HM13.out g h with h | h; exact nFg h; omega
            have nR2g : ¬ Mr2 g := fun h => by rcases hM14 g h with h | h; exact nRg h; omega
            have eB14 : w14.heap[B]? = W12.heap[B]? := (ho14.block B (by omega) nRB).trans (ho13.block B hB12 nFB)
            have eg14 : w14.heap[g]? = W12.heap[g]? := (ho14.block g (by omega) nRg).trans (ho13.block g hgs nFg)
            have hs14 : W12.heap.size ≤ w14.heap.size := Nat.le_trans hs13 ho14.size
            clear CB hr14 hM14 ho14 ho13 hs13
            go_wp2_with fail
            refine hK.out _ _ (HKS.out _ eB14 eg14 hb14) (fun hH => ?_)
            clear hK K
            (refine hTake (i := 9) (v := ?_) rfl (by kernel_rfl) (by kernel_rfl) (by kernel_rfl) (fun _ _ _ h => h) (by kernel_rfl) ?_ (by assumption) ?_; rotate_left; focus (intro w' hS'; (try dsimp only at hS'); go_split_ands; (try go_simp); (try (with_reducible rfl)); done); try simp only [Act.put, List.setIfInBounds_toArray, List.set_cons_zero, List.set_cons_succ]); (refine hTake (i := 10) (v := ?_) rfl (by kernel_rfl) (by kernel_rfl) (by kernel_rfl) (fun _ _ _ h => h) (by kernel_rfl) ?_ (by assumption) ?_; rotate_left; focus (intro w' hS'; (try dsimp only at hS'); go_split_ands; (try go_simp); (try (with_reducible rfl)); done); try simp only [Act.put, List.setIfInBounds_toArray, List.set_cons_zero, List.set_cons_succ]); (refine hTake (i := 11) (v := ?_) rfl (by kernel_rfl) (by kernel_rfl) (by kernel_rfl) (fun _ _ _ h => h) (by kernel_rfl) ?_ (by assumption) ?_; rotate_left; focus (intro w' hS'; (try dsimp only at hS'); go_split_ands; (try go_simp); (try (with_reducible rfl)); done); try simp only [Act.put, List.setIfInBounds_toArray, List.set_cons_zero, List.set_cons_succ]); (refine hTake (i := 12) (v := ?_) rfl (by kernel_rfl) (by kernel_rfl) (by kernel_rfl) (fun _ _ _ h => h) (by kernel_rfl) ?_ (by assumption) ?_; rotate_left; focus (intro w' hS'; (try dsimp only at hS'); go_split_ands; (try go_simp); (try (with_reducible rfl)); done); try simp only [Act.put, List.setIfInBounds_toArray, List.set_cons_zero, List.set_cons_succ]); (refine hTake (i := 13) (v := ?_) rfl (by kernel_rfl) (by kernel_rfl) (by kernel_rfl) (fun _ _ _ h => h) (by kernel_rfl) ?_ (by assumption) ?_; rotate_left; focus (intro w' hS'; (try dsimp only at hS'); go_split_ands; (try go_simp); (try (with_reducible rfl)); done); try simp only [Act.put, List.setIfInBounds_toArray, List.set_cons_zero, List.set_cons_succ]); (refine hTake (i := 14) (v := ?_) rfl (by kernel_rfl) (by kernel_rfl) (by kernel_rfl) (fun _ _ _ h => h) (by kernel_rfl) ?_ (by assumption) ?_; rotate_left; focus (intro w' hS'; (try dsimp only at hS'); go_split_ands; (try go_simp); (try (with_reducible rfl)); done); try simp only [Act.put, List.setIfInBounds_toArray, List.set_cons_zero, List.set_cons_succ]); (refine hTake (i := 15) (v := ?_) rfl (by kernel_rfl) (by kernel_rfl) (by kernel_rfl) (fun _ _ _ h => h) (by kernel_rfl) ?_ (by assumption) ?_; rotate_left; focus (intro w' hS'; (try dsimp only at hS'); go_split_ands; (try go_simp); (try (with_reducible rfl)); done); try simp only [Act.put, List.setIfInBounds_toArray, List.set_cons_zero, List.set_cons_succ]); (refine hTake (i := 16) (v := ?_) rfl (by kernel_rfl) (by kernel_rfl) (by kernel_rfl) (fun _ _ _ h => h) (by kernel_rfl) ?_ (by assumption) ?_; rotate_left; focus (intro w' hS'; (try dsimp only at hS'); go_split_ands; (try go_simp); (try (with_reducible rfl)); done); try simp only [Act.put, List.setIfInBounds_toArray, List.set_cons_zero, List.set_cons_succ]); (refine hTake (i := 17) (v := ?_) rfl (by kernel_rfl) (by kernel_rfl) (by kernel_rfl) (fun _ _ _ h => h) (by kernel_rfl) ?_ (by assumption) ?_; rotate_left; focus (intro w' hS'; (try dsimp only at hS'); go_split_ands; (try go_simp); (try (with_reducible rfl)); done); try simp only [Act.put, List.setIfInBounds_toArray, List.set_cons_zero, List.set_cons_succ])
            refine hOne (i := 18) rfl (by kernel_rfl) (fun K hK => ?_)
            go_simp
            have CI := numbers_any _ _ _ _ w14 (HI12.out Mf2 w14 eg14 hs14 nF2g) (HKW.out Mf2 w14 hb14 HMf2.out) (by rw [← HP.out]; omega) (by rw [← HP.out]; omega)
            rw [decide_eq_true (show d.K = d.K from rfl)] at CI
            refine CI.mono ?_
            rintro e w15 ⟨rfl, hb15⟩
            clear CI
            have hbel15 : Below w.heap.size w w15 := below_tr hb14 hb15
            have eB15 : w15.heap[B]? = W12.heap[B]? := (hb15.block B (by omega)).trans eB14
            have eg15 : w15.heap[g]? = W12.heap[g]? := (hb15.block g (by omega)).trans eg14
            have HF15 := Lib.hid (HF14.out.below hb15)
            have HR15 := Lib.hid (HR14.out.below hb15)
            have hs15 : W12.heap.size ≤ w15.heap.size := Nat.le_trans hs14 hb15.size
            clear hb15 eB14 eg14 hb14 hb13 hs14
            go_wp2_with fail
            refine hK.out _ _ (HKS.out _ eB15 eg15 hbel15) (fun hH => ?_)
            clear hK K
            (refine hTake (i := 19) (v := ?_) rfl (by kernel_rfl) (by kernel_rfl) (by kernel_rfl) (fun _ _ _ h => h) (by kernel_rfl) ?_ (by assumption) ?_; rotate_left; focus (intro w' hS'; (try dsimp only at hS'); go_split_ands; (try go_simp); (try (with_reducible rfl)); done); try simp only [Act.put, List.setIfInBounds_toArray, List.set_cons_zero, List.set_cons_succ]); (refine hTake (i := 20) (v := ?_) rfl (by kernel_rfl) (by kernel_rfl) (by kernel_rfl) (fun _ _ _ h => h) (by kernel_rfl) ?_ (by assumption) ?_; rotate_left; focus (intro w' hS'; (try dsimp only at hS'); go_split_ands; (try go_simp); (try (with_reducible rfl)); done); try simp only [Act.put, List.setIfInBounds_toArray, List.set_cons_zero, List.set_cons_succ]); (refine hTake (i := 21) (v := ?_) rfl (by kernel_rfl) (by kernel_rfl) (by kernel_rfl) (fun _ _ _ h => h) (by kernel_rfl) ?_ (by assumption) ?_; rotate_left; focus (intro w' hS'; (try dsimp only at hS'); go_split_ands; (try go_simp); (try (with_reducible rfl)); done); try simp only [Act.put, List.setIfInBounds_toArray, List.set_cons_zero, List.set_cons_succ]); (refine hTake (i := 22) (v := ?_) rfl (by kernel_rfl) (by kernel_rfl) (by kernel_rfl) (fun _ _ _ h => h) (by kernel_rfl) ?_ (by assumption) ?_; rotate_left; focus (intro w' hS'; (try dsimp only at hS'); go_split_ands; (try go_simp); (try (with_reducible rfl)); done); try simp only [Act.put, List.setIfInBounds_toArray, List.set_cons_zero, List.set_cons_succ]); (refine hTake (i := 23) (v := ?_) rfl (by kernel_rfl) (by kernel_rfl) (by kernel_rfl) (fun _ _ _ h => h) (by kernel_rfl) ?_ (by assumption) ?_; rotate_left; focus (intro w' hS'; (try dsimp only at hS'); go_split_ands; (try go_simp); (try (with_reducible rfl)); done); try simp only [Act.put, List.setIfInBounds_toArray, List.set_cons_zero, List.set_cons_succ]); (refine hTake (i := 24) (v := ?_) rfl (by kernel_rfl) (by kernel_rfl) (by kernel_rfl) (fun _ _ _ h => h) (by kernel_rfl) ?_ (by assumption) ?_; rotate_left; focus (intro w' hS'; (try dsimp only at hS'); go_split_ands; (try go_simp); (try (with_reducible rfl)); done); try simp only [Act.put, List.setIfInBounds_toArray, List.set_cons_zero, List.set_cons_succ]); (refine hTake (i := 25) (v := ?_) rfl (by kernel_rfl) (by kernel_rfl) (by kernel_rfl) (fun _ _ _ h => h) (by kernel_rfl) ?_ (by assumption) ?_; rotate_left; focus (intro w' hS'; (try dsimp only at hS'); go_split_ands; (try go_simp); (try (with_reducible rfl)); done); try simp only [Act.put, List.setIfInBounds_toArray, List.set_cons_zero, List.set_cons_succ]); (refine hTake (i := 26) (v := ?_) rfl (by kernel_rfl) (by kernel_rfl) (by kernel_rfl) (fun _ _ _ h => h) (by kernel_rfl) ?_ (by assumption) ?_; rotate_left; focus (intro w' hS'; (try dsimp only at hS'); go_split_ands; (try go_simp); (try (with_reducible rfl)); done); try simp only [Act.put, List.setIfInBounds_toArray, List.set_cons_zero, List.set_cons_succ]); (refine hTake (i := 27) (v := ?_) rfl (by kernel_rfl) (by kernel_rfl) (by kernel_rfl) (fun _ _ _ h => h) (by kernel_rfl) ?_ (by assumption) ?_; rotate_left; focus (intro w' hS'; (try dsimp only at hS'); go_split_ands; (try go_simp); (try (with_reducible rfl)); done); try simp only [Act.put, List.setIfInBounds_toArray, List.set_cons_zero, List.set_cons_succ]); (refine hTake (i := 28) (v := ?_) rfl (by kernel_rfl) (by kernel_rfl) (by kernel_rfl) (fun _ _ _ h => h) (by kernel_rfl) ?_ (by assumption) ?_; rotate_left; focus (intro w' hS'; (try dsimp only at hS'); go_split_ands; (try go_simp); (try (with_reducible rfl)); done); try simp only [Act.put, List.setIfInBounds_toArray, List.set_cons_zero, List.set_cons_succ]); (refine hTake (i := 29) (v := ?_) rfl (by kernel_rfl) (by kernel_rfl) (by kernel_rfl) (fun _ _ _ h => h) (by kernel_rfl) ?_ (by assumption) ?_; rotate_left; focus (intro w' hS'; (try dsimp only at hS'); go_split_ands; (try go_simp); (try (with_reducible rfl)); done); try simp only [Act.put, List.setIfInBounds_toArray, List.set_cons_zero, List.set_cons_succ]); (refine hTake (i := 30) (v := ?_) rfl (by kernel_rfl) (by kernel_rfl) (by kernel_rfl) (fun _ _ _ h => h) (by kernel_rfl) ?_ (by assumption) ?_; rotate_left; focus (intro w' hS'; (try dsimp only at hS'); go_split_ands; (try go_simp); (try (with_reducible rfl)); done); try simp only [Act.put, List.setIfInBounds_toArray, List.set_cons_zero, List.set_cons_succ]); (refine hTake (i := 31) (v := ?_) rfl (by kernel_rfl) (by kernel_rfl) (by kernel_rfl) (fun _ _ _ h => h) (by kernel_rfl) ?_ (by assumption) ?_; rotate_left; focus (intro w' hS'; (try dsimp only at hS'); go_split_ands; (try go_simp); (try (with_reducible rfl)); done); try simp only [Act.put, List.setIfInBounds_toArray, List.set_cons_zero, List.set_cons_succ]); (refine hTake (i := 32) (v := ?_) rfl (by kernel_rfl) (by kernel_rfl) (by kernel_rfl) (fun _ _ _ h => h) (by kernel_rfl) ?_ (by assumption) ?_; rotate_left; focus (intro w' hS'; (try dsimp only at hS'); go_split_ands; (try go_simp); (try (with_reducible rfl)); done); try simp only [Act.put, List.setIfInBounds_toArray, List.set_cons_zero, List.set_cons_succ]); (refine hTake (i := 33) (v := ?_) rfl (by kernel_rfl) (by kernel_rfl) (by kernel_rfl) (fun _ _ _ h => h) (by kernel_rfl) ?_ (by assumption) ?_; rotate_left; focus (intro w' hS'; (try dsimp only at hS'); go_split_ands; (try go_simp); (try (with_reducible rfl)); done); try simp only [Act.put, List.setIfInBounds_toArray, List.set_cons_zero, List.set_cons_succ]); (refine hTake (i := 34) (v := ?_) rfl (by kernel_rfl) (by kernel_rfl) (by kernel_rfl) (fun _ _ _ h => h) (by kernel_rfl) ?_ (by assumption) ?_; rotate_left; focus (intro w' hS'; (try dsimp only at hS'); go_split_ands; (try go_simp); (try (with_reducible rfl)); done); try simp only [Act.put, List.setIfInBounds_toArray, List.set_cons_zero, List.set_cons_succ]); (refine hTake (i := 35) (v := ?_) rfl (by kernel_rfl) (by kernel_rfl) (by kernel_rfl) (fun _ _ _ h => h) (by kernel_rfl) ?_ (by assumption) ?_; rotate_left; focus (intro w' hS'; (try dsimp only at hS'); go_split_ands; (try go_simp); (try (with_reducible rfl)); done); try simp only [Act.put, List.setIfInBounds_toArray, List.set_cons_zero, List.set_cons_succ]); (refine hTake (i := 36) (v := ?_) rfl (by kernel_rfl) (by kernel_rfl) (by kernel_rfl) (fun _ _ _ h => h) (by kernel_rfl) ?_ (by assumption) ?_; rotate_left; focus (intro w' hS'; (try dsimp only at hS'); go_split_ands; (try go_simp); (try (with_reducible rfl)); done); try simp only [Act.put, List.setIfInBounds_toArray, List.set_cons_zero, List.set_cons_succ]); (refine hTake (i := 37) (v := ?_) rfl (by kernel_rfl) (by kernel_rfl) (by kernel_rfl) (fun _ _ _ h => h) (by kernel_rfl) ?_ (by assumption) ?_; rotate_left; focus (intro w' hS'; (try dsimp only at hS'); go_split_ands; (try go_simp); (try (with_reducible rfl)); done); try simp only [Act.put, List.setIfInBounds_toArray, List.set_cons_zero, List.set_cons_succ]); (refine hTake (i := 38) (v := ?_) rfl (by kernel_rfl) (by kernel_rfl) (by kernel_rfl) (fun _ _ _ h => h) (by kernel_rfl) ?_ (by assumption) ?_; rotate_left; focus (intro w' hS'; (try dsimp only at hS'); go_split_ands; (try go_simp); (try (with_reducible rfl)); done); try simp only [Act.put, List.setIfInBounds_toArray, List.set_cons_zero, List.set_cons_succ])
            refine hOne (i := 39) rfl (by kernel_rfl) (fun K hK => ?_)
            go_simp
            refine (one_any w15 HF15.out HR15.out HS2.out).mono ?_
            rintro e w16 ⟨rfl, hb16⟩
            have hbel16 : Below w.heap.size w w16 := below_tr hbel15 hb16
            have eB16 : w16.heap[B]? = W12.heap[B]? := (hb16.block B (by omega)).trans eB15
            have eg16 : w16.heap[g]? = W12.heap[g]? := (hb16.block g (by omega)).trans eg15
            have HF16 := Lib.hid (HF15.out.below hb16)
            have HR16 := Lib.hid (HR15.out.below hb16)
            have hs16 : W12.heap.size ≤ w16.heap.size := Nat.le_trans hs15 hb16.size
            have HKS16 := Lib.hid (HKS.out w16 eB16 eg16 hbel16)
            have HC16 : Hid (w16.heap[g]? = some (.cells cur 3 (0, 0)) ∧ cur.size = p + 1) := Lib.hid ⟨eg16.trans HCUR.out, HCS.out⟩
            clear hb16 eB15 eg15 hbel15 hs15
            go_wp2_with fail
            refine hK.out _ _ HKS16.out (fun hH => ?_)
            clear hK K
            (refine hTake (i := 40) (v := ?_) rfl (by kernel_rfl) (by kernel_rfl) (by kernel_rfl) (fun _ _ _ h => h) (by kernel_rfl) ?_ (by assumption) ?_; rotate_left; focus (intro w' hS'; (try dsimp only at hS'); go_split_ands; (try go_simp); (try (with_reducible rfl)); done); try simp only [Act.put, List.setIfInBounds_toArray, List.set_cons_zero, List.set_cons_succ]); (refine hTake (i := 41) (v := ?_) rfl (by kernel_rfl) (by kernel_rfl) (by kernel_rfl) (fun _ _ _ h => h) (by kernel_rfl) ?_ (by assumption) ?_; rotate_left; focus (intro w' hS'; (try dsimp only at hS'); go_split_ands; (try go_simp); (try (with_reducible rfl)); done); try simp only [Act.put, List.setIfInBounds_toArray, List.set_cons_zero, List.set_cons_succ])
            refine wpAnyH_done (by kernel_rfl) ?_ _
            clear hH eB16 eg16
            go_wp2_with fail
            go_loopw [11] (fun j wl => ∃ m : Nat, m ≤ p ∧ j = .int .i64 (m : Nat) ∧ Hid (Out (fun x => x = g) w16 wl) ∧ Hid (∃ cur, wl.heap[g]? = some (.cells cur 3 (0, 0)) ∧ cur.size = p + 1)) (fun j _ => p - (intOf j).toNat)
            case atStart => exact ⟨0, Nat.zero_le _, rfl, Lib.hid (Out.refl _ _), Lib.hid ⟨cur, HC16.out⟩⟩
            case round =>
              obtain ⟨m, hm, rfl, HO, HCU⟩ := hrel
              have x5 : wr.cell? ⟨B, 5, none⟩ = some (.slice (some ⟨g, 0, none⟩) p (p + 1)) := (HO.out.cell (by omega) (fun e => hgB e.symm) 5).trans HKS16.out.2.2.2.2.2.2.1
              by_cases hmp : m < p
              · obtain ⟨cur2, hcu, hcs2⟩ := HCU.out
                obtain ⟨um, xm⟩ : ∃ u, wr.cell? ⟨g, m, none⟩ = some u := ⟨_, (cell_at hcu m).trans (Array.getElem?_eq_getElem (show m < cur2.size by omega))⟩
                have fm := free_at hcu m
                have hst := setCell_heap_same wr g m (.int .i64 7) _ _ hcu
                have HST := Lib.hid hst
                have HCS2 := Lib.hid hcs2
                clear hst hcu hcs2
                go_wp2_with fail
                exact ⟨⟨m + 1, by omega, by go_num, Lib.hid (HO.out.set (.inl rfl) _ _), Lib.hid ⟨_, HST.out, by simpa using HCS2.out⟩⟩, by simp [intOf]; omega⟩
              · obtain rfl : m = p := by omega
                go_wp2_with fail
                exact ⟨⟨k + 1, F2, Mf2, Mr2, by omega, by go_num, Lib.hid (HF16.out.out HO.out (fun x hx e => nF2g (e ▸ hx))), Lib.hid (HR16.out.out HO.out (fun x hx e => nR2g (e ▸ hx))), HS2, HKL2, HDJ2, HMf2, HMr2, hbel16.trans (HO.out.below hbel16.size (fun x hx => by rw [hx]; have := hbel.size; omega))⟩, by simp [intOf]; omega⟩
        · obtain rfl : k = n := by omega
          have CD := Lib.hid (does_any wr)
          go_wp2_with fail
          (with_reducible refine CD.out.mono ?_); rintro e w4 ⟨rfl, hb4⟩
          go_wp2_with fail
          go_ret
          exact ⟨rfl, below_tr hbel hb4⟩
end Go.Proofs.Ytmoaecicibjmnaa
