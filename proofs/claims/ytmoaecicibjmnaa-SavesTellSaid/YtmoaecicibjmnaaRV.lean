/- SavesTell: the walk. -/
import Derived.Test.YtmoaecicibjmnaaRU
import Derived.BigQuiet
import Derived.Laws.Cover1
namespace Go.Proofs.Ytmoaecicibjmnaa
open Go.RowKit

set_option maxRecDepth 100000 in
set_option maxHeartbeats 16000000 in
theorem savesTell_walk (c : Int) (v : Value) (L : List DoR) (wv : Value) (T : List Int) (w : World) (h : DosAt (fun k => k < w.heap.size) w v L) (hb : L.length ≤ 9223372036854775807) (hd : ∀ d ∈ L, DoOK d)
    (ht : U8sIn (fun k => k < w.heap.size) w wv T) (htb : T.length ≤ 9223372036854775807) (htd : ∀ z ∈ T, 0 ≤ z ∧ z < 256) :
    Calls Try.prog 13 #[.int .i64 c, v, wv] w fun e w' => e = .returned (.bool true) ∧ Below w.heap.size w w' := by
  have CM := Lib.hid (much5_any v L w h hb hd)
  have HL := Lib.hid h
  have HD := Lib.hid hd
  have HTT := Lib.hid ht
  have HTD := Lib.hid htd
  obtain ⟨a, lc, rfl, hcc⟩ := h
  obtain ⟨ta, tc, rfl, htc⟩ := ht
  clear hcc hd htc htd
  obtain ⟨n, hn⟩ : ∃ n, n = L.length := ⟨_, rfl⟩
  have HN := Lib.hid hn
  rw [← hn] at hb CM HL ⊢
  clear hn
  obtain ⟨m, hm⟩ : ∃ n, n = T.length := ⟨_, rfl⟩
  have HMM := Lib.hid hm
  rw [← hm] at htb HTT ⊢
  clear hm
  go_enter Try.func13, Try.ntmps13
  go_wp2_with fail
  (with_reducible refine CM.out.mono ?_); rintro e w1 ⟨⟨q, rfl, hq⟩, hb1⟩
  clear CM
  cases q with
  | true =>
    clear hq
    go_wp2_with fail
    go_ret
    exact ⟨rfl, hb1⟩
  | false =>
    have HQ := Lib.hid (hq rfl)
    clear hq
    by_cases h120 : 120 < m
    · go_wp2_with fail
      go_ret
      exact ⟨rfl, hb1⟩
    by_cases hbad : c < 1 ∨ 1048576 < c
    · have CN := Lib.hid (new_bad c w1 hbad)
      have CR := fun wx => Lib.hid (rnew_bad c wx hbad)
      clear hbad
      go_wp2_with fail
      (with_reducible refine CN.out.mono ?_); rintro e w2 ⟨rfl, hb2⟩
      go_wp2_with fail
      (with_reducible refine (CR w2).out.mono ?_); rintro e w3 ⟨rfl, hb3⟩
      have hbel : Below w.heap.size w w3 := below_tr (below_tr hb1 hb2) hb3
      clear CN CR hb2 hb3
      go_wp2_with fail
      go_loopw [11] (fun i wr => i = .int .i64 0 ∧ Below w.heap.size w wr) (fun i _ => 0)
      case atStart => exact ⟨rfl, hbel⟩
      case round =>
        obtain ⟨rfl, hbel⟩ := hrel
        have CD := Lib.hid (sdoes_any wr)
        by_cases hlt : (0 : Int) < (n : Int)
        · by_cases hlt2 : (0 : Int) < (m : Int)
          · go_wp2_with fail
            (with_reducible refine CD.out.mono ?_); rintro e w4 ⟨rfl, hb4⟩
            go_wp2_with fail
            go_ret
            exact ⟨rfl, below_tr hbel hb4⟩
          · go_wp2_with fail
            (with_reducible refine CD.out.mono ?_); rintro e w4 ⟨rfl, hb4⟩
            go_wp2_with fail
            go_ret
            exact ⟨rfl, below_tr hbel hb4⟩
        · go_wp2_with fail
          (with_reducible refine CD.out.mono ?_); rintro e w4 ⟨rfl, hb4⟩
          go_wp2_with fail
          go_ret
          exact ⟨rfl, below_tr hbel hb4⟩
    · have CN := Lib.hid (new_any c w1 (by omega) (by omega))
      have CR := fun wx => Lib.hid (rnew_any c wx (by omega) (by omega))
      have HS0 := Lib.hid (Sound.new c (by omega) (by omega))
      clear hbad
      go_wp2_with fail
      (with_reducible refine CN.out.mono ?_); rintro e w2 ⟨bf, rfl, Mf, hf, hMf, hb2⟩
      have HF2 := Lib.hid hf
      have HM2 := Lib.hid hMf
      clear hf hMf
      go_wp2_with fail
      (with_reducible refine (CR w2).out.mono ?_); rintro e w3 ⟨br, rfl, Mr, hr, hMr, hb3⟩
      have HF3 := Lib.hid (HF2.out.below hb3)
      have HR3 := Lib.hid hr
      have HDJ3 : Hid (∀ x, Mf x → ¬ Mr x) := Lib.hid (fun x hx hy => by have := HF2.out.lt x hx; have := hMr x hy; omega)
      have HMf3 : Hid (∀ x, Mf x → w.heap.size ≤ x) := Lib.hid (fun x hx => Nat.le_trans hb1.size (HM2.out x hx))
      have HMr3 : Hid (∀ x, Mr x → w.heap.size ≤ x) := Lib.hid (fun x hx => Nat.le_trans (Nat.le_trans hb1.size hb2.size) (hMr x hx))
      have hbel : Below w.heap.size w w3 := below_tr (below_tr hb1 hb2) hb3
      clear CN CR hr hMr hb1 hb2 hb3 HF2 HM2
      go_wp2_with fail
      go_loopw [11] (fun i wr => ∃ (k : Nat) (F : FR) (Mf Mr : Nat → Prop), k ≤ n ∧ k ≤ m ∧ i = .int .i64 (k : Nat) ∧ Hid (FSAt Mf wr bf F) ∧ Hid (RAt Mr wr br F) ∧ Hid (Sound F) ∧ Hid (F.keep.length ≤ 1000000) ∧ Hid (∀ x, Mf x → ¬ Mr x) ∧ Hid (∀ x, Mf x → w.heap.size ≤ x) ∧ Hid (∀ x, Mr x → w.heap.size ≤ x) ∧ Below w.heap.size w wr) (fun i _ => n - (intOf i).toNat)
      case atStart => exact ⟨0, newF c, Mf, Mr, Nat.zero_le _, Nat.zero_le _, rfl, HF3, HR3, HS0, Lib.hid (Nat.zero_le _), HDJ3, HMf3, HMr3, hbel⟩
      case round =>
        obtain ⟨k, F, Mf, Mr, hk, hk2, rfl, HF, HR, HS, HKL, HDJ, HMf, HMr, hbel⟩ := hrel
        by_cases hlt : k < n
        · by_cases hlt2 : k < m
          · obtain ⟨d, hd⟩ : ∃ d, L[k]? = some d := ⟨_, List.getElem?_eq_getElem (show k < L.length by rw [← HN.out]; exact hlt)⟩
            have HOK := Lib.hid (HD.out d (List.mem_of_getElem? hd))
            have HSM := Lib.hid (HQ.out.2 d (List.mem_of_getElem? hd))
            obtain ⟨a', c', hv', hcc⟩ := HL.out
            obtain ⟨lb, lo, ha, hlb, _, hcc2⟩ := hcc (by intro e; rw [e] at hd; simp at hd)
            injection hv' with e1 e2 e3
            subst e1 e3
            clear e2
            subst ha
            obtain ⟨kv, hkv, p0, p1, p2, p3, p4, p5⟩ := hcc2 k d hd
            obtain ⟨ia, ic, rfl⟩ := hkv.val
            obtain ⟨p, hp⟩ : ∃ p, p = d.K.length := ⟨_, rfl⟩
            rw [← hp] at p5 hkv
            have HP := Lib.hid hp
            have HKW : Hid (∀ (M : Nat → Prop) (wx : World), Below w.heap.size w wx → (∀ x, M x → w.heap.size ≤ x) → IntsIn (fun x => ¬ M x) wx (.slice ia p ic) d.K) := Lib.hid (fun M wx hbx hM => hkv.eq hbx.size fun x hx _ => ⟨hbx.block x hx, fun hm => by have := hM x hm; omega⟩)
            have e := fun i => World.cell?_of_block (a := ⟨lb, i, none⟩) (hbel.block lb hlb)
            have q0 := (e _).trans p0
            have q1 := (e _).trans p1
            have q2 := (e _).trans p2
            have q3 := (e _).trans p3
            have q4 := (e _).trans p4
            have q5 := (e _).trans p5
            obtain ⟨ta', tc', tv', htc⟩ := HTT.out
            obtain ⟨tb, tq, tha, htb', _, htc2⟩ := htc (by intro e; have := HMM.out; rw [e] at this; simp at this; omega)
            injection tv' with e1 e2 e3
            subst e1 e3
            clear e2
            subst tha
            obtain ⟨z, hz⟩ : ∃ z, T[k]? = some z := ⟨_, List.getElem?_eq_getElem (show k < T.length by rw [← HMM.out]; exact hlt2)⟩
            have hz2 := HTD.out z (List.mem_of_getElem? hz)
            have p6 := htc2 k (by rw [← HMM.out]; exact hlt2)
            rw [hz] at p6
            have q6 : wr.cell? ⟨tb, tq + k, none⟩ = some (.int .u8 z) := (World.cell?_of_block (a := ⟨tb, tq + k, none⟩) (hbel.block tb htb')).trans p6
            clear hkv p0 p1 p2 p3 p4 p5 hcc hcc2 hd hp e htc htc2 hz p6
            obtain ⟨r, hr⟩ : ∃ r, r = z % 9 := ⟨_, rfl⟩
            have hr9 : z % 9 = r := hr.symm
            have hrr : r = 0 ∨ r = 1 ∨ r = 2 ∨ r = 3 ∨ r = 4 ∨ r = 5 ∨ r = 6 ∨ r = 7 ∨ r = 8 := by omega
            clear hr
            obtain ⟨dw, hdw⟩ : ∃ x, x = d.what := ⟨_, rfl⟩
            have HDW := Lib.hid hdw
            rw [← hdw] at q0
            clear hdw
            go_upto_region 11 with fail
            generalize hWa : World.alloc wr _ = W
            have hba : Below wr.heap.size wr W := by rw [← hWa]; exact (Below.refl _ _).alloc (Nat.le_refl _) _
            have hbox : Box6 W wr.heap.size 35 (.int .u8 (dw : Int)) (.string d.A) (.string d.B) (.string d.S) (.int .i64 d.N) (.slice ia p ic) := by
              rw [← hWa]; unfold Box6; rw [heap_alloc, if_pos rfl]
            have HBox := Lib.hid hbox
            have hBW := hbox.lt
            clear hWa hbox q0 q1 q2 q3 q4 q5
            have q6 : W.cell? ⟨tb, tq + k, none⟩ = some (.int .u8 z) := (hba.cell (p := ⟨tb, tq + k, none⟩) (Nat.lt_of_lt_of_le htb' hbel.size)).trans q6
            have nFB : ¬ Mf wr.heap.size := fun h => by have := HF.out.lt _ h; omega
            have nRB : ¬ Mr wr.heap.size := fun h => by have := HR.out.lt _ h; omega
            obtain ⟨B, hB⟩ : ∃ B, B = wr.heap.size := ⟨_, rfl⟩
            rw [← hB] at HBox nFB nRB hBW ⊢
            clear hB
            have hbelW : Below w.heap.size w W := below_tr hbel hba
            have HFW := Lib.hid (HF.out.below hba)
            have HRW := Lib.hid (HR.out.below hba)
            have hKb : d.K.length ≤ 1000000 := by have := HSM.out.K; omega
            have HKb := Lib.hid hKb
            clear hba hKb
            have x0 := HBox.out.c0
            have x1 := HBox.out.c1
            have x2 := HBox.out.c2
            have x3 := HBox.out.c3
            have x4 := HBox.out.c4
            have x5 := HBox.out.c5
            rcases hrr with rfl | rfl | rfl | rfl | rfl | rfl | rfl | rfl | rfl
            · have CF := Lib.hid (load_any W HFW.out HS.out d.A)
              have CR : ∀ w13, RAt Mr w13 br F → Hid (Calls Try.prog 42 #[.pointer (some ⟨br, 0, none⟩), .string d.A] w13 fun e w' => e = .returned (.tuple #[.string (loadS F d.A), .int .i64 (loadE F d.A)]) ∧ Below w13.heap.size w13 w') := fun w13 h13 => Lib.hid (rload_any w13 h13 HS.out d.A HOK.out.A)
              obtain ⟨S, hS⟩ : ∃ S, S = loadS F d.A := ⟨_, rfl⟩
              obtain ⟨E, hE⟩ : ∃ E, E = loadE F d.A := ⟨_, rfl⟩
              rw [← hS, ← hE] at CF CR
              have HS2 := HS
              have HKL2 := HKL
              obtain ⟨F2, hF2⟩ : ∃ F2, F2 = F := ⟨_, rfl⟩
              subst hF2
              clear hS hE
              go_wp2_with fail
              (with_reducible refine CF.out.mono ?_); rintro e w13 ⟨rfl, ht13⟩
              obtain ⟨hr13, hb13, hk13⟩ := mid_turned hbelW HRW.out HDJ.out HMf.out ht13
              have HT13 := Lib.hid ht13
              have CR2 := CR w13 hr13
              have x1 := (HBox.out.eq (hk13 B hBW nFB)).c1
              clear ht13 hr13 hk13 CF CR hb13
              go_wp2_with fail
              (with_reducible refine CR2.out.mono ?_); rintro e w14 ⟨rfl, hb⟩
              have ht14 : RTurned Mr w13 w14 br F2 := RTurned.below (mid_turned hbelW HRW.out HDJ.out HMf.out HT13.out).1 hb
              clear hb CR2
              obtain ⟨Mf2, Mr2, g1, g2, g3, g4, g5, hb14⟩ := both_turned hbelW HRW.out HDJ.out HMf.out HMr.out HT13.out ht14
              have HF14 := Lib.hid g1
              have HR14 := Lib.hid g2
              have HDJ2 := Lib.hid g3
              have HMf2 := Lib.hid g4
              have HMr2 := Lib.hid g5
              clear g1 g2 g3 g4 g5 ht14 HT13
              have HB14 := Lib.hid hb14
              have enn : (E == E) = true := by simp
              have ess : (S.toList == S.toList) = true := by rw [toList_beq]; exact decide_eq_true rfl
              have ess2 : decide (S = S) = true := decide_eq_true rfl
              have CO := Lib.hid (one_any w14 HF14.out HR14.out HS2.out)
              go_wp2_with fail
              (with_reducible refine CO.out.mono ?_); rintro e w15 ⟨rfl, hb15⟩
              go_wp2_with fail
              exact ⟨⟨k + 1, F2, Mf2, Mr2, by omega, by omega, by go_num, Lib.hid (HF14.out.below hb15), Lib.hid (HR14.out.below hb15), HS2, HKL2, HDJ2, HMf2, HMr2, below_tr HB14.out hb15⟩, by simp [intOf]; omega⟩
            · have CF := Lib.hid (clean_any W HFW.out HS.out)
              have CR : ∀ w13, RAt Mr w13 br F → Hid (Calls Try.prog 43 #[.pointer (some ⟨br, 0, none⟩)] w13 fun e w' => e = .returned (.int .i64 (cleanE F)) ∧ RTurned Mr w13 w' br (removeF F dN)) := fun w13 h13 => Lib.hid (rclean_any w13 h13 HS.out HKL.out)
              have HS2 : Hid (Sound (removeF F dN)) := Lib.hid HS.out.w3
              have HKL2 : Hid ((removeF F dN).keep.length ≤ 1000000) := Lib.hid (wF3_keep F HKL.out)
              obtain ⟨S, hS⟩ : ∃ S : ByteArray, S = ⟨#[]⟩ := ⟨_, rfl⟩
              obtain ⟨E, hE⟩ : ∃ E, E = cleanE F := ⟨_, rfl⟩
              obtain ⟨F2, hF2⟩ : ∃ F2, F2 = removeF F dN := ⟨_, rfl⟩
              rw [← hE, ← hF2] at CF CR
              rw [← hF2] at HS2 HKL2
              clear hE hF2 hS
              go_wp2_with fail
              (with_reducible refine CF.out.mono ?_); rintro e w13 ⟨rfl, ht13⟩
              obtain ⟨hr13, _, _⟩ := mid_turned hbelW HRW.out HDJ.out HMf.out ht13
              have HT13 := Lib.hid ht13
              have CR2 := CR w13 hr13
              clear ht13 hr13 CF CR
              go_wp2_with fail
              (with_reducible refine CR2.out.mono ?_); rintro e w14 ⟨rfl, ht14⟩
              clear CR2
              obtain ⟨Mf2, Mr2, g1, g2, g3, g4, g5, hb14⟩ := both_turned hbelW HRW.out HDJ.out HMf.out HMr.out HT13.out ht14
              have HF14 := Lib.hid g1
              have HR14 := Lib.hid g2
              have HDJ2 := Lib.hid g3
              have HMf2 := Lib.hid g4
              have HMr2 := Lib.hid g5
              clear g1 g2 g3 g4 g5 ht14 HT13
              have HB14 := Lib.hid hb14
              have enn : (E == E) = true := by simp
              have ess : (S.toList == S.toList) = true := by rw [toList_beq]; exact decide_eq_true rfl
              have ess2 : decide (S = S) = true := decide_eq_true rfl
              have CO := Lib.hid (one_any w14 HF14.out HR14.out HS2.out)
              go_wp2_with fail
              (with_reducible refine CO.out.mono ?_); rintro e w15 ⟨rfl, hb15⟩
              go_wp2_with fail
              exact ⟨⟨k + 1, F2, Mf2, Mr2, by omega, by omega, by go_num, Lib.hid (HF14.out.below hb15), Lib.hid (HR14.out.below hb15), HS2, HKL2, HDJ2, HMf2, HMr2, below_tr HB14.out hb15⟩, by simp [intOf]; omega⟩
            · have CF := Lib.hid (write_any W.drew (HFW.out.out (Out.refl (fun _ => False) _).drew (fun _ _ h => h)) HS.out d.A d.S HOK.out.S)
              have CR : ∀ w13, RAt Mr w13 br F → Hid (Calls Try.prog 44 #[.pointer (some ⟨br, 0, none⟩), .string d.A, .string d.S] w13 fun e w' => e = .returned (.int .i64 (saveE F d.A d.S)) ∧ RTurned Mr w13 w' br (saveF F d.A d.S)) := fun w13 h13 => Lib.hid (rwrite_any w13 h13 HS.out HKL.out d.A d.S (by have := HSM.out.A; omega) (by have := HSM.out.S; omega))
              have HS2 : Hid (Sound (saveF F d.A d.S)) := Lib.hid (HS.out.saved _ _)
              have HKL2 : Hid ((saveF F d.A d.S).keep.length ≤ 1000000) := Lib.hid (saved_keep F _ _ HKL.out)
              obtain ⟨S, hS⟩ : ∃ S : ByteArray, S = ⟨#[]⟩ := ⟨_, rfl⟩
              obtain ⟨E, hE⟩ : ∃ E, E = saveE F d.A d.S := ⟨_, rfl⟩
              obtain ⟨F2, hF2⟩ : ∃ F2, F2 = saveF F d.A d.S := ⟨_, rfl⟩
              rw [← hE, ← hF2] at CF CR
              rw [← hF2] at HS2 HKL2
              clear hE hF2 hS
              go_upto_region 23 with fail
              refine wp_region_held_drew (S := fun wx => wx.cell? ⟨B, 1, none⟩ = some (.string d.A) ∧ wx.cell? ⟨B, 3, none⟩ = some (.string d.S)) (by kernel_rfl) ⟨x1, x3⟩ (fun hH => ?_)
              (refine hTake (i := 0) (v := ?_) rfl (by kernel_rfl) (by kernel_rfl) (by kernel_rfl) (fun _ _ _ h => h) (by kernel_rfl) ?_ (by assumption) ?_; rotate_left; focus (intro w' hS'; (try dsimp only at hS'); go_split_ands; (try go_simp); (try (with_reducible rfl)); done); try simp only [Act.put, List.setIfInBounds_toArray, List.set_cons_zero, List.set_cons_succ]); (refine hTake (i := 1) (v := ?_) rfl (by kernel_rfl) (by kernel_rfl) (by kernel_rfl) (fun _ _ _ h => h) (by kernel_rfl) ?_ (by assumption) ?_; rotate_left; focus (intro w' hS'; (try dsimp only at hS'); go_split_ands; (try go_simp); (try (with_reducible rfl)); done); try simp only [Act.put, List.setIfInBounds_toArray, List.set_cons_zero, List.set_cons_succ]); (refine hTake (i := 2) (v := ?_) rfl (by kernel_rfl) (by kernel_rfl) (by kernel_rfl) (fun _ _ _ h => h) (by kernel_rfl) ?_ (by assumption) ?_; rotate_left; focus (intro w' hS'; (try dsimp only at hS'); go_split_ands; (try go_simp); (try (with_reducible rfl)); done); try simp only [Act.put, List.setIfInBounds_toArray, List.set_cons_zero, List.set_cons_succ]); (refine hTake (i := 3) (v := ?_) rfl (by kernel_rfl) (by kernel_rfl) (by kernel_rfl) (fun _ _ _ h => h) (by kernel_rfl) ?_ (by assumption) ?_; rotate_left; focus (intro w' hS'; (try dsimp only at hS'); go_split_ands; (try go_simp); (try (with_reducible rfl)); done); try simp only [Act.put, List.setIfInBounds_toArray, List.set_cons_zero, List.set_cons_succ]); (refine hTake (i := 4) (v := ?_) rfl (by kernel_rfl) (by kernel_rfl) (by kernel_rfl) (fun _ _ _ h => h) (by kernel_rfl) ?_ (by assumption) ?_; rotate_left; focus (intro w' hS'; (try dsimp only at hS'); go_split_ands; (try go_simp); (try (with_reducible rfl)); done); try simp only [Act.put, List.setIfInBounds_toArray, List.set_cons_zero, List.set_cons_succ]); (refine hTake (i := 6) (v := ?_) rfl (by kernel_rfl) (by kernel_rfl) (by kernel_rfl) (fun _ _ _ h => h) (by kernel_rfl) ?_ (by assumption) ?_; rotate_left; focus (intro w' hS'; (try dsimp only at hS'); go_split_ands; (try go_simp); (try (with_reducible rfl)); done); try simp only [Act.put, List.setIfInBounds_toArray, List.set_cons_zero, List.set_cons_succ]); (refine hTake (i := 7) (v := ?_) rfl (by kernel_rfl) (by kernel_rfl) (by kernel_rfl) (fun _ _ _ h => h) (by kernel_rfl) ?_ (by assumption) ?_; rotate_left; focus (intro w' hS'; (try dsimp only at hS'); go_split_ands; (try go_simp); (try (with_reducible rfl)); done); try simp only [Act.put, List.setIfInBounds_toArray, List.set_cons_zero, List.set_cons_succ]); (refine hTake (i := 8) (v := ?_) rfl (by kernel_rfl) (by kernel_rfl) (by kernel_rfl) (fun _ _ _ h => h) (by kernel_rfl) ?_ (by assumption) ?_; rotate_left; focus (intro w' hS'; (try dsimp only at hS'); go_split_ands; (try go_simp); (try (with_reducible rfl)); done); try simp only [Act.put, List.setIfInBounds_toArray, List.set_cons_zero, List.set_cons_succ]); (refine hTake (i := 9) (v := ?_) rfl (by kernel_rfl) (by kernel_rfl) (by kernel_rfl) (fun _ _ _ h => h) (by kernel_rfl) ?_ (by assumption) ?_; rotate_left; focus (intro w' hS'; (try dsimp only at hS'); go_split_ands; (try go_simp); (try (with_reducible rfl)); done); try simp only [Act.put, List.setIfInBounds_toArray, List.set_cons_zero, List.set_cons_succ]); (refine hTake (i := 10) (v := ?_) rfl (by kernel_rfl) (by kernel_rfl) (by kernel_rfl) (fun _ _ _ h => h) (by kernel_rfl) ?_ (by assumption) ?_; rotate_left; focus (intro w' hS'; (try dsimp only at hS'); go_split_ands; (try go_simp); (try (with_reducible rfl)); done); try simp only [Act.put, List.setIfInBounds_toArray, List.set_cons_zero, List.set_cons_succ])
              refine hOne (i := 5) rfl (by kernel_rfl) (fun K hK => ?_)
              go_simp
              refine CF.out.mono ?_
              rintro e w13 ⟨rfl, ht13⟩
              have ht13 : Turned Mf W w13 bf F2 := Turned.drewL ht13
              obtain ⟨hr13, hb13, hk13⟩ := mid_turned hbelW HRW.out HDJ.out HMf.out ht13
              have HT13 := Lib.hid ht13
              have CR2 := CR w13 hr13
              have hbx := HBox.out.eq (hk13 B hBW nFB)
              clear ht13 hr13 hk13 CF CR hb13
              go_wp2_with fail
              refine hK.out _ _ ⟨hbx.c1, hbx.c3⟩ (fun hH => ?_)
              clear hK K
              refine hOne (i := 11) rfl (by kernel_rfl) (fun K hK => ?_)
              go_simp
              refine CR2.out.mono ?_
              rintro e w14 ⟨rfl, ht14⟩
              have hk14 : w14.heap[B]? = w13.heap[B]? := by
                obtain ⟨_, _, _, ho⟩ := ht14
                exact ho.block B (by have := (HT13.out).size; omega) nRB
              have hbx2 := hbx.eq hk14
              clear CR2 hk14 hbx
              obtain ⟨Mf2, Mr2, g1, g2, g3, g4, g5, hb14⟩ := both_turned hbelW HRW.out HDJ.out HMf.out HMr.out HT13.out ht14
              have HF14 := Lib.hid g1
              have HR14 := Lib.hid g2
              have HDJ2 := Lib.hid g3
              have HMf2 := Lib.hid g4
              have HMr2 := Lib.hid g5
              clear g1 g2 g3 g4 g5 ht14 HT13
              go_wp2_with fail
              refine hK.out _ _ ⟨hbx2.c1, hbx2.c3⟩ (fun hH => ?_)
              clear hK K
              (refine hTake (i := 12) (v := ?_) rfl (by kernel_rfl) (by kernel_rfl) (by kernel_rfl) (fun _ _ _ h => h) (by kernel_rfl) ?_ (by assumption) ?_; rotate_left; focus (intro w' hS'; (try dsimp only at hS'); go_split_ands; (try go_simp); (try (with_reducible rfl)); done); try simp only [Act.put, List.setIfInBounds_toArray, List.set_cons_zero, List.set_cons_succ]); (refine hTake (i := 13) (v := ?_) rfl (by kernel_rfl) (by kernel_rfl) (by kernel_rfl) (fun _ _ _ h => h) (by kernel_rfl) ?_ (by assumption) ?_; rotate_left; focus (intro w' hS'; (try dsimp only at hS'); go_split_ands; (try go_simp); (try (with_reducible rfl)); done); try simp only [Act.put, List.setIfInBounds_toArray, List.set_cons_zero, List.set_cons_succ])
              refine wpAnyH_done (by kernel_rfl) ?_ _
              clear hH hbx2
              have HB14 := Lib.hid hb14
              have enn : (E == E) = true := by simp
              have ess : (S.toList == S.toList) = true := by rw [toList_beq]; exact decide_eq_true rfl
              have ess2 : decide (S = S) = true := decide_eq_true rfl
              have CO := Lib.hid (one_any w14 HF14.out HR14.out HS2.out)
              go_wp2_with fail
              (with_reducible refine CO.out.mono ?_); rintro e w15 ⟨rfl, hb15⟩
              go_wp2_with fail
              exact ⟨⟨k + 1, F2, Mf2, Mr2, by omega, by omega, by go_num, Lib.hid (HF14.out.below hb15), Lib.hid (HR14.out.below hb15), HS2, HKL2, HDJ2, HMf2, HMr2, below_tr HB14.out hb15⟩, by simp [intOf]; omega⟩
            · have CF := Lib.hid (write_any W.drew (HFW.out.out (Out.refl (fun _ => False) _).drew (fun _ _ h => h)) HS.out d.A d.S HOK.out.S)
              have CR : ∀ w13, RAt Mr w13 br F → Hid (Calls Try.prog 44 #[.pointer (some ⟨br, 0, none⟩), .string d.A, .string d.S] w13 fun e w' => e = .returned (.int .i64 (saveE F d.A d.S)) ∧ RTurned Mr w13 w' br (saveF F d.A d.S)) := fun w13 h13 => Lib.hid (rwrite_any w13 h13 HS.out HKL.out d.A d.S (by have := HSM.out.A; omega) (by have := HSM.out.S; omega))
              have HS2 : Hid (Sound (saveF F d.A d.S)) := Lib.hid (HS.out.saved _ _)
              have HKL2 : Hid ((saveF F d.A d.S).keep.length ≤ 1000000) := Lib.hid (saved_keep F _ _ HKL.out)
              obtain ⟨S, hS⟩ : ∃ S : ByteArray, S = ⟨#[]⟩ := ⟨_, rfl⟩
              obtain ⟨E, hE⟩ : ∃ E, E = saveE F d.A d.S := ⟨_, rfl⟩
              obtain ⟨F2, hF2⟩ : ∃ F2, F2 = saveF F d.A d.S := ⟨_, rfl⟩
              rw [← hE, ← hF2] at CF CR
              rw [← hF2] at HS2 HKL2
              clear hE hF2 hS
              go_upto_region 23 with fail
              refine wp_region_held_drew (S := fun wx => wx.cell? ⟨B, 1, none⟩ = some (.string d.A) ∧ wx.cell? ⟨B, 3, none⟩ = some (.string d.S)) (by kernel_rfl) ⟨x1, x3⟩ (fun hH => ?_)
              (refine hTake (i := 0) (v := ?_) rfl (by kernel_rfl) (by kernel_rfl) (by kernel_rfl) (fun _ _ _ h => h) (by kernel_rfl) ?_ (by assumption) ?_; rotate_left; focus (intro w' hS'; (try dsimp only at hS'); go_split_ands; (try go_simp); (try (with_reducible rfl)); done); try simp only [Act.put, List.setIfInBounds_toArray, List.set_cons_zero, List.set_cons_succ]); (refine hTake (i := 1) (v := ?_) rfl (by kernel_rfl) (by kernel_rfl) (by kernel_rfl) (fun _ _ _ h => h) (by kernel_rfl) ?_ (by assumption) ?_; rotate_left; focus (intro w' hS'; (try dsimp only at hS'); go_split_ands; (try go_simp); (try (with_reducible rfl)); done); try simp only [Act.put, List.setIfInBounds_toArray, List.set_cons_zero, List.set_cons_succ]); (refine hTake (i := 2) (v := ?_) rfl (by kernel_rfl) (by kernel_rfl) (by kernel_rfl) (fun _ _ _ h => h) (by kernel_rfl) ?_ (by assumption) ?_; rotate_left; focus (intro w' hS'; (try dsimp only at hS'); go_split_ands; (try go_simp); (try (with_reducible rfl)); done); try simp only [Act.put, List.setIfInBounds_toArray, List.set_cons_zero, List.set_cons_succ]); (refine hTake (i := 3) (v := ?_) rfl (by kernel_rfl) (by kernel_rfl) (by kernel_rfl) (fun _ _ _ h => h) (by kernel_rfl) ?_ (by assumption) ?_; rotate_left; focus (intro w' hS'; (try dsimp only at hS'); go_split_ands; (try go_simp); (try (with_reducible rfl)); done); try simp only [Act.put, List.setIfInBounds_toArray, List.set_cons_zero, List.set_cons_succ]); (refine hTake (i := 4) (v := ?_) rfl (by kernel_rfl) (by kernel_rfl) (by kernel_rfl) (fun _ _ _ h => h) (by kernel_rfl) ?_ (by assumption) ?_; rotate_left; focus (intro w' hS'; (try dsimp only at hS'); go_split_ands; (try go_simp); (try (with_reducible rfl)); done); try simp only [Act.put, List.setIfInBounds_toArray, List.set_cons_zero, List.set_cons_succ]); (refine hTake (i := 6) (v := ?_) rfl (by kernel_rfl) (by kernel_rfl) (by kernel_rfl) (fun _ _ _ h => h) (by kernel_rfl) ?_ (by assumption) ?_; rotate_left; focus (intro w' hS'; (try dsimp only at hS'); go_split_ands; (try go_simp); (try (with_reducible rfl)); done); try simp only [Act.put, List.setIfInBounds_toArray, List.set_cons_zero, List.set_cons_succ]); (refine hTake (i := 7) (v := ?_) rfl (by kernel_rfl) (by kernel_rfl) (by kernel_rfl) (fun _ _ _ h => h) (by kernel_rfl) ?_ (by assumption) ?_; rotate_left; focus (intro w' hS'; (try dsimp only at hS'); go_split_ands; (try go_simp); (try (with_reducible rfl)); done); try simp only [Act.put, List.setIfInBounds_toArray, List.set_cons_zero, List.set_cons_succ]); (refine hTake (i := 8) (v := ?_) rfl (by kernel_rfl) (by kernel_rfl) (by kernel_rfl) (fun _ _ _ h => h) (by kernel_rfl) ?_ (by assumption) ?_; rotate_left; focus (intro w' hS'; (try dsimp only at hS'); go_split_ands; (try go_simp); (try (with_reducible rfl)); done); try simp only [Act.put, List.setIfInBounds_toArray, List.set_cons_zero, List.set_cons_succ]); (refine hTake (i := 9) (v := ?_) rfl (by kernel_rfl) (by kernel_rfl) (by kernel_rfl) (fun _ _ _ h => h) (by kernel_rfl) ?_ (by assumption) ?_; rotate_left; focus (intro w' hS'; (try dsimp only at hS'); go_split_ands; (try go_simp); (try (with_reducible rfl)); done); try simp only [Act.put, List.setIfInBounds_toArray, List.set_cons_zero, List.set_cons_succ]); (refine hTake (i := 10) (v := ?_) rfl (by kernel_rfl) (by kernel_rfl) (by kernel_rfl) (fun _ _ _ h => h) (by kernel_rfl) ?_ (by assumption) ?_; rotate_left; focus (intro w' hS'; (try dsimp only at hS'); go_split_ands; (try go_simp); (try (with_reducible rfl)); done); try simp only [Act.put, List.setIfInBounds_toArray, List.set_cons_zero, List.set_cons_succ])
              refine hOne (i := 5) rfl (by kernel_rfl) (fun K hK => ?_)
              go_simp
              refine CF.out.mono ?_
              rintro e w13 ⟨rfl, ht13⟩
              have ht13 : Turned Mf W w13 bf F2 := Turned.drewL ht13
              obtain ⟨hr13, hb13, hk13⟩ := mid_turned hbelW HRW.out HDJ.out HMf.out ht13
              have HT13 := Lib.hid ht13
              have CR2 := CR w13 hr13
              have hbx := HBox.out.eq (hk13 B hBW nFB)
              clear ht13 hr13 hk13 CF CR hb13
              go_wp2_with fail
              refine hK.out _ _ ⟨hbx.c1, hbx.c3⟩ (fun hH => ?_)
              clear hK K
              refine hOne (i := 11) rfl (by kernel_rfl) (fun K hK => ?_)
              go_simp
              refine CR2.out.mono ?_
              rintro e w14 ⟨rfl, ht14⟩
              have hk14 : w14.heap[B]? = w13.heap[B]? := by
                obtain ⟨_, _, _, ho⟩ := ht14
                exact ho.block B (by have := (HT13.out).size; omega) nRB
              have hbx2 := hbx.eq hk14
              clear CR2 hk14 hbx
              obtain ⟨Mf2, Mr2, g1, g2, g3, g4, g5, hb14⟩ := both_turned hbelW HRW.out HDJ.out HMf.out HMr.out HT13.out ht14
              have HF14 := Lib.hid g1
              have HR14 := Lib.hid g2
              have HDJ2 := Lib.hid g3
              have HMf2 := Lib.hid g4
              have HMr2 := Lib.hid g5
              clear g1 g2 g3 g4 g5 ht14 HT13
              go_wp2_with fail
              refine hK.out _ _ ⟨hbx2.c1, hbx2.c3⟩ (fun hH => ?_)
              clear hK K
              (refine hTake (i := 12) (v := ?_) rfl (by kernel_rfl) (by kernel_rfl) (by kernel_rfl) (fun _ _ _ h => h) (by kernel_rfl) ?_ (by assumption) ?_; rotate_left; focus (intro w' hS'; (try dsimp only at hS'); go_split_ands; (try go_simp); (try (with_reducible rfl)); done); try simp only [Act.put, List.setIfInBounds_toArray, List.set_cons_zero, List.set_cons_succ]); (refine hTake (i := 13) (v := ?_) rfl (by kernel_rfl) (by kernel_rfl) (by kernel_rfl) (fun _ _ _ h => h) (by kernel_rfl) ?_ (by assumption) ?_; rotate_left; focus (intro w' hS'; (try dsimp only at hS'); go_split_ands; (try go_simp); (try (with_reducible rfl)); done); try simp only [Act.put, List.setIfInBounds_toArray, List.set_cons_zero, List.set_cons_succ])
              refine wpAnyH_done (by kernel_rfl) ?_ _
              clear hH hbx2
              have HB14 := Lib.hid hb14
              have enn : (E == E) = true := by simp
              have ess : (S.toList == S.toList) = true := by rw [toList_beq]; exact decide_eq_true rfl
              have ess2 : decide (S = S) = true := decide_eq_true rfl
              have CO := Lib.hid (one_any w14 HF14.out HR14.out HS2.out)
              go_wp2_with fail
              (with_reducible refine CO.out.mono ?_); rintro e w15 ⟨rfl, hb15⟩
              go_wp2_with fail
              exact ⟨⟨k + 1, F2, Mf2, Mr2, by omega, by omega, by go_num, Lib.hid (HF14.out.below hb15), Lib.hid (HR14.out.below hb15), HS2, HKL2, HDJ2, HMf2, HMr2, below_tr HB14.out hb15⟩, by simp [intOf]; omega⟩
            · have CF := Lib.hid (write_any W.drew (HFW.out.out (Out.refl (fun _ => False) _).drew (fun _ _ h => h)) HS.out d.A d.S HOK.out.S)
              have CR : ∀ w13, RAt Mr w13 br F → Hid (Calls Try.prog 44 #[.pointer (some ⟨br, 0, none⟩), .string d.A, .string d.S] w13 fun e w' => e = .returned (.int .i64 (saveE F d.A d.S)) ∧ RTurned Mr w13 w' br (saveF F d.A d.S)) := fun w13 h13 => Lib.hid (rwrite_any w13 h13 HS.out HKL.out d.A d.S (by have := HSM.out.A; omega) (by have := HSM.out.S; omega))
              have HS2 : Hid (Sound (saveF F d.A d.S)) := Lib.hid (HS.out.saved _ _)
              have HKL2 : Hid ((saveF F d.A d.S).keep.length ≤ 1000000) := Lib.hid (saved_keep F _ _ HKL.out)
              obtain ⟨S, hS⟩ : ∃ S : ByteArray, S = ⟨#[]⟩ := ⟨_, rfl⟩
              obtain ⟨E, hE⟩ : ∃ E, E = saveE F d.A d.S := ⟨_, rfl⟩
              obtain ⟨F2, hF2⟩ : ∃ F2, F2 = saveF F d.A d.S := ⟨_, rfl⟩
              rw [← hE, ← hF2] at CF CR
              rw [← hF2] at HS2 HKL2
              clear hE hF2 hS
              go_upto_region 23 with fail
              refine wp_region_held_drew (S := fun wx => wx.cell? ⟨B, 1, none⟩ = some (.string d.A) ∧ wx.cell? ⟨B, 3, none⟩ = some (.string d.S)) (by kernel_rfl) ⟨x1, x3⟩ (fun hH => ?_)
              (refine hTake (i := 0) (v := ?_) rfl (by kernel_rfl) (by kernel_rfl) (by kernel_rfl) (fun _ _ _ h => h) (by kernel_rfl) ?_ (by assumption) ?_; rotate_left; focus (intro w' hS'; (try dsimp only at hS'); go_split_ands; (try go_simp); (try (with_reducible rfl)); done); try simp only [Act.put, List.setIfInBounds_toArray, List.set_cons_zero, List.set_cons_succ]); (refine hTake (i := 1) (v := ?_) rfl (by kernel_rfl) (by kernel_rfl) (by kernel_rfl) (fun _ _ _ h => h) (by kernel_rfl) ?_ (by assumption) ?_; rotate_left; focus (intro w' hS'; (try dsimp only at hS'); go_split_ands; (try go_simp); (try (with_reducible rfl)); done); try simp only [Act.put, List.setIfInBounds_toArray, List.set_cons_zero, List.set_cons_succ]); (refine hTake (i := 2) (v := ?_) rfl (by kernel_rfl) (by kernel_rfl) (by kernel_rfl) (fun _ _ _ h => h) (by kernel_rfl) ?_ (by assumption) ?_; rotate_left; focus (intro w' hS'; (try dsimp only at hS'); go_split_ands; (try go_simp); (try (with_reducible rfl)); done); try simp only [Act.put, List.setIfInBounds_toArray, List.set_cons_zero, List.set_cons_succ]); (refine hTake (i := 3) (v := ?_) rfl (by kernel_rfl) (by kernel_rfl) (by kernel_rfl) (fun _ _ _ h => h) (by kernel_rfl) ?_ (by assumption) ?_; rotate_left; focus (intro w' hS'; (try dsimp only at hS'); go_split_ands; (try go_simp); (try (with_reducible rfl)); done); try simp only [Act.put, List.setIfInBounds_toArray, List.set_cons_zero, List.set_cons_succ]); (refine hTake (i := 4) (v := ?_) rfl (by kernel_rfl) (by kernel_rfl) (by kernel_rfl) (fun _ _ _ h => h) (by kernel_rfl) ?_ (by assumption) ?_; rotate_left; focus (intro w' hS'; (try dsimp only at hS'); go_split_ands; (try go_simp); (try (with_reducible rfl)); done); try simp only [Act.put, List.setIfInBounds_toArray, List.set_cons_zero, List.set_cons_succ]); (refine hTake (i := 6) (v := ?_) rfl (by kernel_rfl) (by kernel_rfl) (by kernel_rfl) (fun _ _ _ h => h) (by kernel_rfl) ?_ (by assumption) ?_; rotate_left; focus (intro w' hS'; (try dsimp only at hS'); go_split_ands; (try go_simp); (try (with_reducible rfl)); done); try simp only [Act.put, List.setIfInBounds_toArray, List.set_cons_zero, List.set_cons_succ]); (refine hTake (i := 7) (v := ?_) rfl (by kernel_rfl) (by kernel_rfl) (by kernel_rfl) (fun _ _ _ h => h) (by kernel_rfl) ?_ (by assumption) ?_; rotate_left; focus (intro w' hS'; (try dsimp only at hS'); go_split_ands; (try go_simp); (try (with_reducible rfl)); done); try simp only [Act.put, List.setIfInBounds_toArray, List.set_cons_zero, List.set_cons_succ]); (refine hTake (i := 8) (v := ?_) rfl (by kernel_rfl) (by kernel_rfl) (by kernel_rfl) (fun _ _ _ h => h) (by kernel_rfl) ?_ (by assumption) ?_; rotate_left; focus (intro w' hS'; (try dsimp only at hS'); go_split_ands; (try go_simp); (try (with_reducible rfl)); done); try simp only [Act.put, List.setIfInBounds_toArray, List.set_cons_zero, List.set_cons_succ]); (refine hTake (i := 9) (v := ?_) rfl (by kernel_rfl) (by kernel_rfl) (by kernel_rfl) (fun _ _ _ h => h) (by kernel_rfl) ?_ (by assumption) ?_; rotate_left; focus (intro w' hS'; (try dsimp only at hS'); go_split_ands; (try go_simp); (try (with_reducible rfl)); done); try simp only [Act.put, List.setIfInBounds_toArray, List.set_cons_zero, List.set_cons_succ]); (refine hTake (i := 10) (v := ?_) rfl (by kernel_rfl) (by kernel_rfl) (by kernel_rfl) (fun _ _ _ h => h) (by kernel_rfl) ?_ (by assumption) ?_; rotate_left; focus (intro w' hS'; (try dsimp only at hS'); go_split_ands; (try go_simp); (try (with_reducible rfl)); done); try simp only [Act.put, List.setIfInBounds_toArray, List.set_cons_zero, List.set_cons_succ])
              refine hOne (i := 5) rfl (by kernel_rfl) (fun K hK => ?_)
              go_simp
              refine CF.out.mono ?_
              rintro e w13 ⟨rfl, ht13⟩
              have ht13 : Turned Mf W w13 bf F2 := Turned.drewL ht13
              obtain ⟨hr13, hb13, hk13⟩ := mid_turned hbelW HRW.out HDJ.out HMf.out ht13
              have HT13 := Lib.hid ht13
              have CR2 := CR w13 hr13
              have hbx := HBox.out.eq (hk13 B hBW nFB)
              clear ht13 hr13 hk13 CF CR hb13
              go_wp2_with fail
              refine hK.out _ _ ⟨hbx.c1, hbx.c3⟩ (fun hH => ?_)
              clear hK K
              refine hOne (i := 11) rfl (by kernel_rfl) (fun K hK => ?_)
              go_simp
              refine CR2.out.mono ?_
              rintro e w14 ⟨rfl, ht14⟩
              have hk14 : w14.heap[B]? = w13.heap[B]? := by
                obtain ⟨_, _, _, ho⟩ := ht14
                exact ho.block B (by have := (HT13.out).size; omega) nRB
              have hbx2 := hbx.eq hk14
              clear CR2 hk14 hbx
              obtain ⟨Mf2, Mr2, g1, g2, g3, g4, g5, hb14⟩ := both_turned hbelW HRW.out HDJ.out HMf.out HMr.out HT13.out ht14
              have HF14 := Lib.hid g1
              have HR14 := Lib.hid g2
              have HDJ2 := Lib.hid g3
              have HMf2 := Lib.hid g4
              have HMr2 := Lib.hid g5
              clear g1 g2 g3 g4 g5 ht14 HT13
              go_wp2_with fail
              refine hK.out _ _ ⟨hbx2.c1, hbx2.c3⟩ (fun hH => ?_)
              clear hK K
              (refine hTake (i := 12) (v := ?_) rfl (by kernel_rfl) (by kernel_rfl) (by kernel_rfl) (fun _ _ _ h => h) (by kernel_rfl) ?_ (by assumption) ?_; rotate_left; focus (intro w' hS'; (try dsimp only at hS'); go_split_ands; (try go_simp); (try (with_reducible rfl)); done); try simp only [Act.put, List.setIfInBounds_toArray, List.set_cons_zero, List.set_cons_succ]); (refine hTake (i := 13) (v := ?_) rfl (by kernel_rfl) (by kernel_rfl) (by kernel_rfl) (fun _ _ _ h => h) (by kernel_rfl) ?_ (by assumption) ?_; rotate_left; focus (intro w' hS'; (try dsimp only at hS'); go_split_ands; (try go_simp); (try (with_reducible rfl)); done); try simp only [Act.put, List.setIfInBounds_toArray, List.set_cons_zero, List.set_cons_succ])
              refine wpAnyH_done (by kernel_rfl) ?_ _
              clear hH hbx2
              have HB14 := Lib.hid hb14
              have enn : (E == E) = true := by simp
              have ess : (S.toList == S.toList) = true := by rw [toList_beq]; exact decide_eq_true rfl
              have ess2 : decide (S = S) = true := decide_eq_true rfl
              have CO := Lib.hid (one_any w14 HF14.out HR14.out HS2.out)
              go_wp2_with fail
              (with_reducible refine CO.out.mono ?_); rintro e w15 ⟨rfl, hb15⟩
              go_wp2_with fail
              exact ⟨⟨k + 1, F2, Mf2, Mr2, by omega, by omega, by go_num, Lib.hid (HF14.out.below hb15), Lib.hid (HR14.out.below hb15), HS2, HKL2, HDJ2, HMf2, HMr2, below_tr HB14.out hb15⟩, by simp [intOf]; omega⟩
            · have CF0 := with_any W.drew (HFW.out.out (Out.refl (fun _ => False) _).drew (fun _ _ h => h)) HS.out (d := d) ⟨_, rfl, (HKW.out Mf W hbelW HMf.out).eq (w' := W.drew) (M' := fun x => ¬ Mf x) (Nat.le_refl _) fun _ _ h => ⟨rfl, h⟩⟩ HOK.out.what HOK.out.S HKb.out
              have CR : ∀ w13, RAt Mr w13 br F → Below w.heap.size w w13 → Hid (Calls Try.prog 30 #[.pointer (some ⟨br, 0, none⟩), .agg #[.int .u8 (d.what : Int), .string d.A, .string d.B, .string d.S, .int .i64 d.N, .slice ia p ic]] w13 fun e w' => e = .returned (.int .i64 (withE F d)) ∧ RTurned Mr w13 w' br (withF F d)) := fun w13 h13 hb13 => Lib.hid (by_any w13 h13 HS.out (d := d) ⟨_, rfl, HKW.out Mr w13 hb13 HMr.out⟩ HOK.out.what HKL.out (by have := HSM.out.A; omega) (by have := HSM.out.B; omega) (by have := HSM.out.S; omega) HKb.out)
              rw [← HDW.out] at CF0 CR
              have CF := Lib.hid CF0
              have HS2 : Hid (Sound (withF F d)) := Lib.hid (HS.out.with' d HOK.out.N2 HKb.out)
              have HKL2 : Hid ((withF F d).keep.length ≤ 1000000) := Lib.hid (by rcases with_keep F d with h | h <;> rw [h]; exact HKL.out; exact HKb.out)
              obtain ⟨S, hS⟩ : ∃ S : ByteArray, S = ⟨#[]⟩ := ⟨_, rfl⟩
              obtain ⟨E, hE⟩ : ∃ E, E = withE F d := ⟨_, rfl⟩
              obtain ⟨F2, hF2⟩ : ∃ F2, F2 = withF F d := ⟨_, rfl⟩
              rw [← hE, ← hF2] at CF CR
              rw [← hF2] at HS2 HKL2
              clear hE hF2 hS CF0
              go_upto_region 14 with fail
              refine wp_region_held_drew (S := fun wx => wx.cell? ⟨B, 0, none⟩ = some (.int .u8 (dw : Int)) ∧ wx.cell? ⟨B, 1, none⟩ = some (.string d.A) ∧ wx.cell? ⟨B, 2, none⟩ = some (.string d.B) ∧ wx.cell? ⟨B, 3, none⟩ = some (.string d.S) ∧ wx.cell? ⟨B, 4, none⟩ = some (.int .i64 d.N) ∧ wx.cell? ⟨B, 5, none⟩ = some (.slice ia p ic)) (by kernel_rfl) ⟨x0, x1, x2, x3, x4, x5⟩ (fun hH => ?_)
              (refine hTake (i := 0) (v := ?_) rfl (by kernel_rfl) (by kernel_rfl) (by kernel_rfl) (fun _ _ _ h => h) (by kernel_rfl) ?_ (by assumption) ?_; rotate_left; focus (intro w' hS'; (try dsimp only at hS'); go_split_ands; (try go_simp); (try (with_reducible rfl)); done); try simp only [Act.put, List.setIfInBounds_toArray, List.set_cons_zero, List.set_cons_succ]); (refine hTake (i := 1) (v := ?_) rfl (by kernel_rfl) (by kernel_rfl) (by kernel_rfl) (fun _ _ _ h => h) (by kernel_rfl) ?_ (by assumption) ?_; rotate_left; focus (intro w' hS'; (try dsimp only at hS'); go_split_ands; (try go_simp); (try (with_reducible rfl)); done); try simp only [Act.put, List.setIfInBounds_toArray, List.set_cons_zero, List.set_cons_succ]); (refine hTake (i := 3) (v := ?_) rfl (by kernel_rfl) (by kernel_rfl) (by kernel_rfl) (fun _ _ _ h => h) (by kernel_rfl) ?_ (by assumption) ?_; rotate_left; focus (intro w' hS'; (try dsimp only at hS'); go_split_ands; (try go_simp); (try (with_reducible rfl)); done); try simp only [Act.put, List.setIfInBounds_toArray, List.set_cons_zero, List.set_cons_succ]); (refine hTake (i := 4) (v := ?_) rfl (by kernel_rfl) (by kernel_rfl) (by kernel_rfl) (fun _ _ _ h => h) (by kernel_rfl) ?_ (by assumption) ?_; rotate_left; focus (intro w' hS'; (try dsimp only at hS'); go_split_ands; (try go_simp); (try (with_reducible rfl)); done); try simp only [Act.put, List.setIfInBounds_toArray, List.set_cons_zero, List.set_cons_succ])
              refine hOne (i := 2) rfl (by kernel_rfl) (fun K hK => ?_)
              go_simp
              refine CF.out.mono ?_
              rintro e w13 ⟨rfl, ht13⟩
              have ht13 : Turned Mf W w13 bf F2 := Turned.drewL ht13
              obtain ⟨hr13, hb13, hk13⟩ := mid_turned hbelW HRW.out HDJ.out HMf.out ht13
              have HT13 := Lib.hid ht13
              have CR2 := CR w13 hr13 hb13
              have hbx := HBox.out.eq (hk13 B hBW nFB)
              clear ht13 hr13 hk13 CF CR hb13
              go_wp2_with fail
              refine hK.out _ _ ⟨hbx.c0, hbx.c1, hbx.c2, hbx.c3, hbx.c4, hbx.c5⟩ (fun hH => ?_)
              clear hK K
              refine hOne (i := 5) rfl (by kernel_rfl) (fun K hK => ?_)
              go_simp
              refine CR2.out.mono ?_
              rintro e w14 ⟨rfl, ht14⟩
              have hk14 : w14.heap[B]? = w13.heap[B]? := by
                obtain ⟨_, _, _, ho⟩ := ht14
                exact ho.block B (by have := (HT13.out).size; omega) nRB
              have hbx2 := hbx.eq hk14
              clear CR2 hk14 hbx
              obtain ⟨Mf2, Mr2, g1, g2, g3, g4, g5, hb14⟩ := both_turned hbelW HRW.out HDJ.out HMf.out HMr.out HT13.out ht14
              have HF14 := Lib.hid g1
              have HR14 := Lib.hid g2
              have HDJ2 := Lib.hid g3
              have HMf2 := Lib.hid g4
              have HMr2 := Lib.hid g5
              clear g1 g2 g3 g4 g5 ht14 HT13
              go_wp2_with fail
              refine hK.out _ _ ⟨hbx2.c0, hbx2.c1, hbx2.c2, hbx2.c3, hbx2.c4, hbx2.c5⟩ (fun hH => ?_)
              clear hK K
              (refine hTake (i := 6) (v := ?_) rfl (by kernel_rfl) (by kernel_rfl) (by kernel_rfl) (fun _ _ _ h => h) (by kernel_rfl) ?_ (by assumption) ?_; rotate_left; focus (intro w' hS'; (try dsimp only at hS'); go_split_ands; (try go_simp); (try (with_reducible rfl)); done); try simp only [Act.put, List.setIfInBounds_toArray, List.set_cons_zero, List.set_cons_succ]); (refine hTake (i := 7) (v := ?_) rfl (by kernel_rfl) (by kernel_rfl) (by kernel_rfl) (fun _ _ _ h => h) (by kernel_rfl) ?_ (by assumption) ?_; rotate_left; focus (intro w' hS'; (try dsimp only at hS'); go_split_ands; (try go_simp); (try (with_reducible rfl)); done); try simp only [Act.put, List.setIfInBounds_toArray, List.set_cons_zero, List.set_cons_succ])
              refine wpAnyH_done (by kernel_rfl) ?_ _
              clear hH hbx2
              have HB14 := Lib.hid hb14
              have enn : (E == E) = true := by simp
              have ess : (S.toList == S.toList) = true := by rw [toList_beq]; exact decide_eq_true rfl
              have ess2 : decide (S = S) = true := decide_eq_true rfl
              have CO := Lib.hid (one_any w14 HF14.out HR14.out HS2.out)
              go_wp2_with fail
              (with_reducible refine CO.out.mono ?_); rintro e w15 ⟨rfl, hb15⟩
              go_wp2_with fail
              exact ⟨⟨k + 1, F2, Mf2, Mr2, by omega, by omega, by go_num, Lib.hid (HF14.out.below hb15), Lib.hid (HR14.out.below hb15), HS2, HKL2, HDJ2, HMf2, HMr2, below_tr HB14.out hb15⟩, by simp [intOf]; omega⟩
            · have CF0 := with_any W.drew (HFW.out.out (Out.refl (fun _ => False) _).drew (fun _ _ h => h)) HS.out (d := d) ⟨_, rfl, (HKW.out Mf W hbelW HMf.out).eq (w' := W.drew) (M' := fun x => ¬ Mf x) (Nat.le_refl _) fun _ _ h => ⟨rfl, h⟩⟩ HOK.out.what HOK.out.S HKb.out
              have CR : ∀ w13, RAt Mr w13 br F → Below w.heap.size w w13 → Hid (Calls Try.prog 30 #[.pointer (some ⟨br, 0, none⟩), .agg #[.int .u8 (d.what : Int), .string d.A, .string d.B, .string d.S, .int .i64 d.N, .slice ia p ic]] w13 fun e w' => e = .returned (.int .i64 (withE F d)) ∧ RTurned Mr w13 w' br (withF F d)) := fun w13 h13 hb13 => Lib.hid (by_any w13 h13 HS.out (d := d) ⟨_, rfl, HKW.out Mr w13 hb13 HMr.out⟩ HOK.out.what HKL.out (by have := HSM.out.A; omega) (by have := HSM.out.B; omega) (by have := HSM.out.S; omega) HKb.out)
              rw [← HDW.out] at CF0 CR
              have CF := Lib.hid CF0
              have HS2 : Hid (Sound (withF F d)) := Lib.hid (HS.out.with' d HOK.out.N2 HKb.out)
              have HKL2 : Hid ((withF F d).keep.length ≤ 1000000) := Lib.hid (by rcases with_keep F d with h | h <;> rw [h]; exact HKL.out; exact HKb.out)
              obtain ⟨S, hS⟩ : ∃ S : ByteArray, S = ⟨#[]⟩ := ⟨_, rfl⟩
              obtain ⟨E, hE⟩ : ∃ E, E = withE F d := ⟨_, rfl⟩
              obtain ⟨F2, hF2⟩ : ∃ F2, F2 = withF F d := ⟨_, rfl⟩
              rw [← hE, ← hF2] at CF CR
              rw [← hF2] at HS2 HKL2
              clear hE hF2 hS CF0
              go_upto_region 14 with fail
              refine wp_region_held_drew (S := fun wx => wx.cell? ⟨B, 0, none⟩ = some (.int .u8 (dw : Int)) ∧ wx.cell? ⟨B, 1, none⟩ = some (.string d.A) ∧ wx.cell? ⟨B, 2, none⟩ = some (.string d.B) ∧ wx.cell? ⟨B, 3, none⟩ = some (.string d.S) ∧ wx.cell? ⟨B, 4, none⟩ = some (.int .i64 d.N) ∧ wx.cell? ⟨B, 5, none⟩ = some (.slice ia p ic)) (by kernel_rfl) ⟨x0, x1, x2, x3, x4, x5⟩ (fun hH => ?_)
              (refine hTake (i := 0) (v := ?_) rfl (by kernel_rfl) (by kernel_rfl) (by kernel_rfl) (fun _ _ _ h => h) (by kernel_rfl) ?_ (by assumption) ?_; rotate_left; focus (intro w' hS'; (try dsimp only at hS'); go_split_ands; (try go_simp); (try (with_reducible rfl)); done); try simp only [Act.put, List.setIfInBounds_toArray, List.set_cons_zero, List.set_cons_succ]); (refine hTake (i := 1) (v := ?_) rfl (by kernel_rfl) (by kernel_rfl) (by kernel_rfl) (fun _ _ _ h => h) (by kernel_rfl) ?_ (by assumption) ?_; rotate_left; focus (intro w' hS'; (try dsimp only at hS'); go_split_ands; (try go_simp); (try (with_reducible rfl)); done); try simp only [Act.put, List.setIfInBounds_toArray, List.set_cons_zero, List.set_cons_succ]); (refine hTake (i := 3) (v := ?_) rfl (by kernel_rfl) (by kernel_rfl) (by kernel_rfl) (fun _ _ _ h => h) (by kernel_rfl) ?_ (by assumption) ?_; rotate_left; focus (intro w' hS'; (try dsimp only at hS'); go_split_ands; (try go_simp); (try (with_reducible rfl)); done); try simp only [Act.put, List.setIfInBounds_toArray, List.set_cons_zero, List.set_cons_succ]); (refine hTake (i := 4) (v := ?_) rfl (by kernel_rfl) (by kernel_rfl) (by kernel_rfl) (fun _ _ _ h => h) (by kernel_rfl) ?_ (by assumption) ?_; rotate_left; focus (intro w' hS'; (try dsimp only at hS'); go_split_ands; (try go_simp); (try (with_reducible rfl)); done); try simp only [Act.put, List.setIfInBounds_toArray, List.set_cons_zero, List.set_cons_succ])
              refine hOne (i := 2) rfl (by kernel_rfl) (fun K hK => ?_)
              go_simp
              refine CF.out.mono ?_
              rintro e w13 ⟨rfl, ht13⟩
              have ht13 : Turned Mf W w13 bf F2 := Turned.drewL ht13
              obtain ⟨hr13, hb13, hk13⟩ := mid_turned hbelW HRW.out HDJ.out HMf.out ht13
              have HT13 := Lib.hid ht13
              have CR2 := CR w13 hr13 hb13
              have hbx := HBox.out.eq (hk13 B hBW nFB)
              clear ht13 hr13 hk13 CF CR hb13
              go_wp2_with fail
              refine hK.out _ _ ⟨hbx.c0, hbx.c1, hbx.c2, hbx.c3, hbx.c4, hbx.c5⟩ (fun hH => ?_)
              clear hK K
              refine hOne (i := 5) rfl (by kernel_rfl) (fun K hK => ?_)
              go_simp
              refine CR2.out.mono ?_
              rintro e w14 ⟨rfl, ht14⟩
              have hk14 : w14.heap[B]? = w13.heap[B]? := by
                obtain ⟨_, _, _, ho⟩ := ht14
                exact ho.block B (by have := (HT13.out).size; omega) nRB
              have hbx2 := hbx.eq hk14
              clear CR2 hk14 hbx
              obtain ⟨Mf2, Mr2, g1, g2, g3, g4, g5, hb14⟩ := both_turned hbelW HRW.out HDJ.out HMf.out HMr.out HT13.out ht14
              have HF14 := Lib.hid g1
              have HR14 := Lib.hid g2
              have HDJ2 := Lib.hid g3
              have HMf2 := Lib.hid g4
              have HMr2 := Lib.hid g5
              clear g1 g2 g3 g4 g5 ht14 HT13
              go_wp2_with fail
              refine hK.out _ _ ⟨hbx2.c0, hbx2.c1, hbx2.c2, hbx2.c3, hbx2.c4, hbx2.c5⟩ (fun hH => ?_)
              clear hK K
              (refine hTake (i := 6) (v := ?_) rfl (by kernel_rfl) (by kernel_rfl) (by kernel_rfl) (fun _ _ _ h => h) (by kernel_rfl) ?_ (by assumption) ?_; rotate_left; focus (intro w' hS'; (try dsimp only at hS'); go_split_ands; (try go_simp); (try (with_reducible rfl)); done); try simp only [Act.put, List.setIfInBounds_toArray, List.set_cons_zero, List.set_cons_succ]); (refine hTake (i := 7) (v := ?_) rfl (by kernel_rfl) (by kernel_rfl) (by kernel_rfl) (fun _ _ _ h => h) (by kernel_rfl) ?_ (by assumption) ?_; rotate_left; focus (intro w' hS'; (try dsimp only at hS'); go_split_ands; (try go_simp); (try (with_reducible rfl)); done); try simp only [Act.put, List.setIfInBounds_toArray, List.set_cons_zero, List.set_cons_succ])
              refine wpAnyH_done (by kernel_rfl) ?_ _
              clear hH hbx2
              have HB14 := Lib.hid hb14
              have enn : (E == E) = true := by simp
              have ess : (S.toList == S.toList) = true := by rw [toList_beq]; exact decide_eq_true rfl
              have ess2 : decide (S = S) = true := decide_eq_true rfl
              have CO := Lib.hid (one_any w14 HF14.out HR14.out HS2.out)
              go_wp2_with fail
              (with_reducible refine CO.out.mono ?_); rintro e w15 ⟨rfl, hb15⟩
              go_wp2_with fail
              exact ⟨⟨k + 1, F2, Mf2, Mr2, by omega, by omega, by go_num, Lib.hid (HF14.out.below hb15), Lib.hid (HR14.out.below hb15), HS2, HKL2, HDJ2, HMf2, HMr2, below_tr HB14.out hb15⟩, by simp [intOf]; omega⟩
            · have CF0 := with_any W.drew (HFW.out.out (Out.refl (fun _ => False) _).drew (fun _ _ h => h)) HS.out (d := d) ⟨_, rfl, (HKW.out Mf W hbelW HMf.out).eq (w' := W.drew) (M' := fun x => ¬ Mf x) (Nat.le_refl _) fun _ _ h => ⟨rfl, h⟩⟩ HOK.out.what HOK.out.S HKb.out
              have CR : ∀ w13, RAt Mr w13 br F → Below w.heap.size w w13 → Hid (Calls Try.prog 30 #[.pointer (some ⟨br, 0, none⟩), .agg #[.int .u8 (d.what : Int), .string d.A, .string d.B, .string d.S, .int .i64 d.N, .slice ia p ic]] w13 fun e w' => e = .returned (.int .i64 (withE F d)) ∧ RTurned Mr w13 w' br (withF F d)) := fun w13 h13 hb13 => Lib.hid (by_any w13 h13 HS.out (d := d) ⟨_, rfl, HKW.out Mr w13 hb13 HMr.out⟩ HOK.out.what HKL.out (by have := HSM.out.A; omega) (by have := HSM.out.B; omega) (by have := HSM.out.S; omega) HKb.out)
              rw [← HDW.out] at CF0 CR
              have CF := Lib.hid CF0
              have HS2 : Hid (Sound (withF F d)) := Lib.hid (HS.out.with' d HOK.out.N2 HKb.out)
              have HKL2 : Hid ((withF F d).keep.length ≤ 1000000) := Lib.hid (by rcases with_keep F d with h | h <;> rw [h]; exact HKL.out; exact HKb.out)
              obtain ⟨S, hS⟩ : ∃ S : ByteArray, S = ⟨#[]⟩ := ⟨_, rfl⟩
              obtain ⟨E, hE⟩ : ∃ E, E = withE F d := ⟨_, rfl⟩
              obtain ⟨F2, hF2⟩ : ∃ F2, F2 = withF F d := ⟨_, rfl⟩
              rw [← hE, ← hF2] at CF CR
              rw [← hF2] at HS2 HKL2
              clear hE hF2 hS CF0
              go_upto_region 14 with fail
              refine wp_region_held_drew (S := fun wx => wx.cell? ⟨B, 0, none⟩ = some (.int .u8 (dw : Int)) ∧ wx.cell? ⟨B, 1, none⟩ = some (.string d.A) ∧ wx.cell? ⟨B, 2, none⟩ = some (.string d.B) ∧ wx.cell? ⟨B, 3, none⟩ = some (.string d.S) ∧ wx.cell? ⟨B, 4, none⟩ = some (.int .i64 d.N) ∧ wx.cell? ⟨B, 5, none⟩ = some (.slice ia p ic)) (by kernel_rfl) ⟨x0, x1, x2, x3, x4, x5⟩ (fun hH => ?_)
              (refine hTake (i := 0) (v := ?_) rfl (by kernel_rfl) (by kernel_rfl) (by kernel_rfl) (fun _ _ _ h => h) (by kernel_rfl) ?_ (by assumption) ?_; rotate_left; focus (intro w' hS'; (try dsimp only at hS'); go_split_ands; (try go_simp); (try (with_reducible rfl)); done); try simp only [Act.put, List.setIfInBounds_toArray, List.set_cons_zero, List.set_cons_succ]); (refine hTake (i := 1) (v := ?_) rfl (by kernel_rfl) (by kernel_rfl) (by kernel_rfl) (fun _ _ _ h => h) (by kernel_rfl) ?_ (by assumption) ?_; rotate_left; focus (intro w' hS'; (try dsimp only at hS'); go_split_ands; (try go_simp); (try (with_reducible rfl)); done); try simp only [Act.put, List.setIfInBounds_toArray, List.set_cons_zero, List.set_cons_succ]); (refine hTake (i := 3) (v := ?_) rfl (by kernel_rfl) (by kernel_rfl) (by kernel_rfl) (fun _ _ _ h => h) (by kernel_rfl) ?_ (by assumption) ?_; rotate_left; focus (intro w' hS'; (try dsimp only at hS'); go_split_ands; (try go_simp); (try (with_reducible rfl)); done); try simp only [Act.put, List.setIfInBounds_toArray, List.set_cons_zero, List.set_cons_succ]); (refine hTake (i := 4) (v := ?_) rfl (by kernel_rfl) (by kernel_rfl) (by kernel_rfl) (fun _ _ _ h => h) (by kernel_rfl) ?_ (by assumption) ?_; rotate_left; focus (intro w' hS'; (try dsimp only at hS'); go_split_ands; (try go_simp); (try (with_reducible rfl)); done); try simp only [Act.put, List.setIfInBounds_toArray, List.set_cons_zero, List.set_cons_succ])
              refine hOne (i := 2) rfl (by kernel_rfl) (fun K hK => ?_)
              go_simp
              refine CF.out.mono ?_
              rintro e w13 ⟨rfl, ht13⟩
              have ht13 : Turned Mf W w13 bf F2 := Turned.drewL ht13
              obtain ⟨hr13, hb13, hk13⟩ := mid_turned hbelW HRW.out HDJ.out HMf.out ht13
              have HT13 := Lib.hid ht13
              have CR2 := CR w13 hr13 hb13
              have hbx := HBox.out.eq (hk13 B hBW nFB)
              clear ht13 hr13 hk13 CF CR hb13
              go_wp2_with fail
              refine hK.out _ _ ⟨hbx.c0, hbx.c1, hbx.c2, hbx.c3, hbx.c4, hbx.c5⟩ (fun hH => ?_)
              clear hK K
              refine hOne (i := 5) rfl (by kernel_rfl) (fun K hK => ?_)
              go_simp
              refine CR2.out.mono ?_
              rintro e w14 ⟨rfl, ht14⟩
              have hk14 : w14.heap[B]? = w13.heap[B]? := by
                obtain ⟨_, _, _, ho⟩ := ht14
                exact ho.block B (by have := (HT13.out).size; omega) nRB
              have hbx2 := hbx.eq hk14
              clear CR2 hk14 hbx
              obtain ⟨Mf2, Mr2, g1, g2, g3, g4, g5, hb14⟩ := both_turned hbelW HRW.out HDJ.out HMf.out HMr.out HT13.out ht14
              have HF14 := Lib.hid g1
              have HR14 := Lib.hid g2
              have HDJ2 := Lib.hid g3
              have HMf2 := Lib.hid g4
              have HMr2 := Lib.hid g5
              clear g1 g2 g3 g4 g5 ht14 HT13
              go_wp2_with fail
              refine hK.out _ _ ⟨hbx2.c0, hbx2.c1, hbx2.c2, hbx2.c3, hbx2.c4, hbx2.c5⟩ (fun hH => ?_)
              clear hK K
              (refine hTake (i := 6) (v := ?_) rfl (by kernel_rfl) (by kernel_rfl) (by kernel_rfl) (fun _ _ _ h => h) (by kernel_rfl) ?_ (by assumption) ?_; rotate_left; focus (intro w' hS'; (try dsimp only at hS'); go_split_ands; (try go_simp); (try (with_reducible rfl)); done); try simp only [Act.put, List.setIfInBounds_toArray, List.set_cons_zero, List.set_cons_succ]); (refine hTake (i := 7) (v := ?_) rfl (by kernel_rfl) (by kernel_rfl) (by kernel_rfl) (fun _ _ _ h => h) (by kernel_rfl) ?_ (by assumption) ?_; rotate_left; focus (intro w' hS'; (try dsimp only at hS'); go_split_ands; (try go_simp); (try (with_reducible rfl)); done); try simp only [Act.put, List.setIfInBounds_toArray, List.set_cons_zero, List.set_cons_succ])
              refine wpAnyH_done (by kernel_rfl) ?_ _
              clear hH hbx2
              have HB14 := Lib.hid hb14
              have enn : (E == E) = true := by simp
              have ess : (S.toList == S.toList) = true := by rw [toList_beq]; exact decide_eq_true rfl
              have ess2 : decide (S = S) = true := decide_eq_true rfl
              have CO := Lib.hid (one_any w14 HF14.out HR14.out HS2.out)
              go_wp2_with fail
              (with_reducible refine CO.out.mono ?_); rintro e w15 ⟨rfl, hb15⟩
              go_wp2_with fail
              exact ⟨⟨k + 1, F2, Mf2, Mr2, by omega, by omega, by go_num, Lib.hid (HF14.out.below hb15), Lib.hid (HR14.out.below hb15), HS2, HKL2, HDJ2, HMf2, HMr2, below_tr HB14.out hb15⟩, by simp [intOf]; omega⟩
            · have CF0 := with_any W.drew (HFW.out.out (Out.refl (fun _ => False) _).drew (fun _ _ h => h)) HS.out (d := d) ⟨_, rfl, (HKW.out Mf W hbelW HMf.out).eq (w' := W.drew) (M' := fun x => ¬ Mf x) (Nat.le_refl _) fun _ _ h => ⟨rfl, h⟩⟩ HOK.out.what HOK.out.S HKb.out
              have CR : ∀ w13, RAt Mr w13 br F → Below w.heap.size w w13 → Hid (Calls Try.prog 30 #[.pointer (some ⟨br, 0, none⟩), .agg #[.int .u8 (d.what : Int), .string d.A, .string d.B, .string d.S, .int .i64 d.N, .slice ia p ic]] w13 fun e w' => e = .returned (.int .i64 (withE F d)) ∧ RTurned Mr w13 w' br (withF F d)) := fun w13 h13 hb13 => Lib.hid (by_any w13 h13 HS.out (d := d) ⟨_, rfl, HKW.out Mr w13 hb13 HMr.out⟩ HOK.out.what HKL.out (by have := HSM.out.A; omega) (by have := HSM.out.B; omega) (by have := HSM.out.S; omega) HKb.out)
              rw [← HDW.out] at CF0 CR
              have CF := Lib.hid CF0
              have HS2 : Hid (Sound (withF F d)) := Lib.hid (HS.out.with' d HOK.out.N2 HKb.out)
              have HKL2 : Hid ((withF F d).keep.length ≤ 1000000) := Lib.hid (by rcases with_keep F d with h | h <;> rw [h]; exact HKL.out; exact HKb.out)
              obtain ⟨S, hS⟩ : ∃ S : ByteArray, S = ⟨#[]⟩ := ⟨_, rfl⟩
              obtain ⟨E, hE⟩ : ∃ E, E = withE F d := ⟨_, rfl⟩
              obtain ⟨F2, hF2⟩ : ∃ F2, F2 = withF F d := ⟨_, rfl⟩
              rw [← hE, ← hF2] at CF CR
              rw [← hF2] at HS2 HKL2
              clear hE hF2 hS CF0
              go_upto_region 14 with fail
              refine wp_region_held_drew (S := fun wx => wx.cell? ⟨B, 0, none⟩ = some (.int .u8 (dw : Int)) ∧ wx.cell? ⟨B, 1, none⟩ = some (.string d.A) ∧ wx.cell? ⟨B, 2, none⟩ = some (.string d.B) ∧ wx.cell? ⟨B, 3, none⟩ = some (.string d.S) ∧ wx.cell? ⟨B, 4, none⟩ = some (.int .i64 d.N) ∧ wx.cell? ⟨B, 5, none⟩ = some (.slice ia p ic)) (by kernel_rfl) ⟨x0, x1, x2, x3, x4, x5⟩ (fun hH => ?_)
              (refine hTake (i := 0) (v := ?_) rfl (by kernel_rfl) (by kernel_rfl) (by kernel_rfl) (fun _ _ _ h => h) (by kernel_rfl) ?_ (by assumption) ?_; rotate_left; focus (intro w' hS'; (try dsimp only at hS'); go_split_ands; (try go_simp); (try (with_reducible rfl)); done); try simp only [Act.put, List.setIfInBounds_toArray, List.set_cons_zero, List.set_cons_succ]); (refine hTake (i := 1) (v := ?_) rfl (by kernel_rfl) (by kernel_rfl) (by kernel_rfl) (fun _ _ _ h => h) (by kernel_rfl) ?_ (by assumption) ?_; rotate_left; focus (intro w' hS'; (try dsimp only at hS'); go_split_ands; (try go_simp); (try (with_reducible rfl)); done); try simp only [Act.put, List.setIfInBounds_toArray, List.set_cons_zero, List.set_cons_succ]); (refine hTake (i := 3) (v := ?_) rfl (by kernel_rfl) (by kernel_rfl) (by kernel_rfl) (fun _ _ _ h => h) (by kernel_rfl) ?_ (by assumption) ?_; rotate_left; focus (intro w' hS'; (try dsimp only at hS'); go_split_ands; (try go_simp); (try (with_reducible rfl)); done); try simp only [Act.put, List.setIfInBounds_toArray, List.set_cons_zero, List.set_cons_succ]); (refine hTake (i := 4) (v := ?_) rfl (by kernel_rfl) (by kernel_rfl) (by kernel_rfl) (fun _ _ _ h => h) (by kernel_rfl) ?_ (by assumption) ?_; rotate_left; focus (intro w' hS'; (try dsimp only at hS'); go_split_ands; (try go_simp); (try (with_reducible rfl)); done); try simp only [Act.put, List.setIfInBounds_toArray, List.set_cons_zero, List.set_cons_succ])
              refine hOne (i := 2) rfl (by kernel_rfl) (fun K hK => ?_)
              go_simp
              refine CF.out.mono ?_
              rintro e w13 ⟨rfl, ht13⟩
              have ht13 : Turned Mf W w13 bf F2 := Turned.drewL ht13
              obtain ⟨hr13, hb13, hk13⟩ := mid_turned hbelW HRW.out HDJ.out HMf.out ht13
              have HT13 := Lib.hid ht13
              have CR2 := CR w13 hr13 hb13
              have hbx := HBox.out.eq (hk13 B hBW nFB)
              clear ht13 hr13 hk13 CF CR hb13
              go_wp2_with fail
              refine hK.out _ _ ⟨hbx.c0, hbx.c1, hbx.c2, hbx.c3, hbx.c4, hbx.c5⟩ (fun hH => ?_)
              clear hK K
              refine hOne (i := 5) rfl (by kernel_rfl) (fun K hK => ?_)
              go_simp
              refine CR2.out.mono ?_
              rintro e w14 ⟨rfl, ht14⟩
              have hk14 : w14.heap[B]? = w13.heap[B]? := by
                obtain ⟨_, _, _, ho⟩ := ht14
                exact ho.block B (by have := (HT13.out).size; omega) nRB
              have hbx2 := hbx.eq hk14
              clear CR2 hk14 hbx
              obtain ⟨Mf2, Mr2, g1, g2, g3, g4, g5, hb14⟩ := both_turned hbelW HRW.out HDJ.out HMf.out HMr.out HT13.out ht14
              have HF14 := Lib.hid g1
              have HR14 := Lib.hid g2
              have HDJ2 := Lib.hid g3
              have HMf2 := Lib.hid g4
              have HMr2 := Lib.hid g5
              clear g1 g2 g3 g4 g5 ht14 HT13
              go_wp2_with fail
              refine hK.out _ _ ⟨hbx2.c0, hbx2.c1, hbx2.c2, hbx2.c3, hbx2.c4, hbx2.c5⟩ (fun hH => ?_)
              clear hK K
              (refine hTake (i := 6) (v := ?_) rfl (by kernel_rfl) (by kernel_rfl) (by kernel_rfl) (fun _ _ _ h => h) (by kernel_rfl) ?_ (by assumption) ?_; rotate_left; focus (intro w' hS'; (try dsimp only at hS'); go_split_ands; (try go_simp); (try (with_reducible rfl)); done); try simp only [Act.put, List.setIfInBounds_toArray, List.set_cons_zero, List.set_cons_succ]); (refine hTake (i := 7) (v := ?_) rfl (by kernel_rfl) (by kernel_rfl) (by kernel_rfl) (fun _ _ _ h => h) (by kernel_rfl) ?_ (by assumption) ?_; rotate_left; focus (intro w' hS'; (try dsimp only at hS'); go_split_ands; (try go_simp); (try (with_reducible rfl)); done); try simp only [Act.put, List.setIfInBounds_toArray, List.set_cons_zero, List.set_cons_succ])
              refine wpAnyH_done (by kernel_rfl) ?_ _
              clear hH hbx2
              have HB14 := Lib.hid hb14
              have enn : (E == E) = true := by simp
              have ess : (S.toList == S.toList) = true := by rw [toList_beq]; exact decide_eq_true rfl
              have ess2 : decide (S = S) = true := decide_eq_true rfl
              have CO := Lib.hid (one_any w14 HF14.out HR14.out HS2.out)
              go_wp2_with fail
              (with_reducible refine CO.out.mono ?_); rintro e w15 ⟨rfl, hb15⟩
              go_wp2_with fail
              exact ⟨⟨k + 1, F2, Mf2, Mr2, by omega, by omega, by go_num, Lib.hid (HF14.out.below hb15), Lib.hid (HR14.out.below hb15), HS2, HKL2, HDJ2, HMf2, HMr2, below_tr HB14.out hb15⟩, by simp [intOf]; omega⟩
          · obtain rfl : k = m := by omega
            have CD := Lib.hid (sdoes_any wr)
            go_wp2_with fail
            (with_reducible refine CD.out.mono ?_); rintro e w4 ⟨rfl, hb4⟩
            go_wp2_with fail
            go_ret
            exact ⟨rfl, below_tr hbel hb4⟩
        · obtain rfl : k = n := by omega
          have CD := Lib.hid (sdoes_any wr)
          go_wp2_with fail
          (with_reducible refine CD.out.mono ?_); rintro e w4 ⟨rfl, hb4⟩
          go_wp2_with fail
          go_ret
          exact ⟨rfl, below_tr hbel hb4⟩
end Go.Proofs.Ytmoaecicibjmnaa
