/- FilesFail: the walk. -/
import Derived.Test.YtmoaecicibjmnaaNB
import Derived.BigQuiet
namespace Go.Proofs.Ytmoaecicibjmnaa
open Go.RowKit

theorem pair_box (w : World) (v0 v1 : Value) (t : TypeId) : ∃ W, w.alloc (.cells #[v0, v1] t) = W ∧ Below w.heap.size w W ∧ W.heap.size = w.heap.size + 1 ∧ W.cell? ⟨w.heap.size, 0, none⟩ = some v0 ∧ W.cell? ⟨w.heap.size, 1, none⟩ = some v1 := by
  have h : (w.alloc (.cells #[v0, v1] t)).heap[w.heap.size]? = some (.cells #[v0, v1] t (0, 0)) := by rw [heap_alloc, if_pos rfl]
  exact ⟨_, rfl, (Below.refl _ _).alloc (Nat.le_refl _) _, size_alloc _ _, cell_at h 0, cell_at h 1⟩
theorem DosAt.old {W w' : World} {v : Value} {l : List DoR} (h : DosAt (fun k => k < W.heap.size) W v l) (hb : Below W.heap.size W w') : DosAt (fun k => k < w'.heap.size) w' v l :=
  h.eq hb.size fun k hk _ => ⟨hb.block k hk, Nat.lt_of_lt_of_le hk hb.size⟩
set_option maxRecDepth 100000 in
set_option maxHeartbeats 16000000 in
theorem filesFail_walk (xv yv : Value) (X Y : List DoR) (n : Int) (kv : Value) (keep : List Int) (w : World) (hn : 0 ≤ n ∧ n < 256) (hX : DosAt (fun k => k < w.heap.size) w xv X) (hY : DosAt (fun k => k < w.heap.size) w yv Y)
    (hXb : X.length ≤ 9223372036854775807) (hYb : Y.length ≤ 9223372036854775807) (hXd : ∀ d ∈ X, DoOK d) (hYd : ∀ d ∈ Y, DoOK d)
    (hk : IntsIn (fun k => k < w.heap.size) w kv keep) (hkl : keep.length ≤ 9223372036854775807) :
    Calls Try.prog 8 #[.agg #[xv, yv], .int .u8 n, kv] w fun e w' => e = .returned (.bool true) ∧ Below w.heap.size w w' := by
  have HX := Lib.hid hX
  have HY := Lib.hid hY
  have HXD := Lib.hid hXd
  have HYD := Lib.hid hYd
  have HK := Lib.hid hk
  obtain ⟨xa, xc, rfl, hc⟩ := hX
  obtain ⟨ya, yc, rfl, hc2⟩ := hY
  obtain ⟨ka, kc, rfl⟩ := hk.val
  clear hc hc2 hXd hYd hk
  obtain ⟨xn, hxn⟩ : ∃ n, n = X.length := ⟨_, rfl⟩
  have HXN := Lib.hid hxn
  rw [← hxn] at hXb HX ⊢
  obtain ⟨yn, hyn⟩ : ∃ n, n = Y.length := ⟨_, rfl⟩
  have HYN := Lib.hid hyn
  rw [← hyn] at hYb HY ⊢
  obtain ⟨kn, hkn⟩ : ∃ n, n = keep.length := ⟨_, rfl⟩
  have HKN := Lib.hid hkn
  rw [← hkn] at hkl HK ⊢
  clear hxn hyn hkn
  go_enter Try.func8, Try.ntmps8
  go_upto_region 1 with fail
  obtain ⟨W, hW, hbW, hsW, c0, c1⟩ := pair_box w (.slice xa xn xc) (.slice ya yn yc) 63
  rw [hW]
  clear hW
  have hX1 : DosAt (fun k => k < W.heap.size) W (.slice xa xn xc) X := HX.out.old hbW
  have hY1 : DosAt (fun k => k < W.heap.size) W (.slice ya yn yc) Y := HY.out.old hbW
  have hK1 : IntsIn (fun k => k < W.heap.size) W (.slice ka kn kc) keep := HK.out.eq hbW.size fun k hk _ => ⟨hbW.block k hk, Nat.lt_of_lt_of_le hk hbW.size⟩
  have HX1 := Lib.hid hX1
  have HY1 := Lib.hid hY1
  have HK1 := Lib.hid hK1
  have hC : ∀ wx, Below W.heap.size W wx → wx.cell? ⟨w.heap.size, 0, none⟩ = some (.slice xa xn xc) ∧ wx.cell? ⟨w.heap.size, 1, none⟩ = some (.slice ya yn yc) := fun wx hb =>
    ⟨(hb.cell (p := ⟨w.heap.size, 0, none⟩) (by show w.heap.size < _; omega)).trans c0, (hb.cell (p := ⟨w.heap.size, 1, none⟩) (by show w.heap.size < _; omega)).trans c1⟩
  have HC := Lib.hid hC
  have CM := Lib.hid (much5_any _ X W hX1 (by rw [← HXN.out]; exact hXb) HXD.out)
  clear hX1 hY1 hK1 hC HX HY HK
  go_wp2_with fail
  (with_reducible refine CM.out.mono ?_); rintro e w2 ⟨⟨q, rfl, hq⟩, hb2⟩
  have hbel2 : Below W.heap.size W w2 := hb2
  clear CM hb2 c0 c1
  obtain ⟨c0, c1⟩ := HC.out w2 hbel2
  cases q with
  | true =>
    clear hq
    go_wp2_with fail
    go_ret
    exact ⟨rfl, below_tr hbW hbel2⟩
  | false =>
    have HQX := Lib.hid (hq rfl)
    clear hq
    have CM := Lib.hid (much5_any _ Y w2 (HY1.out.old hbel2) (by rw [← HYN.out]; exact hYb) HYD.out)
    go_wp2_with fail
    (with_reducible refine CM.out.mono ?_); rintro e w3 ⟨⟨q, rfl, hq⟩, hb3⟩
    have hbel3 : Below W.heap.size W w3 := below_tr hbel2 hb3
    clear CM hb3 hbel2 c0 c1
    obtain ⟨c0, c1⟩ := HC.out w3 hbel3
    cases q with
    | true =>
      clear hq
      go_wp2_with fail
      go_ret
      exact ⟨rfl, below_tr hbW hbel3⟩
    | false =>
      have HQY := Lib.hid (hq rfl)
      clear hq
      by_cases h60 : 60 < kn
      · go_wp2_with fail
        go_ret
        exact ⟨rfl, below_tr hbW hbel3⟩
      have CA : ∀ wx, Below W.heap.size W wx → Hid (Calls Try.prog 21 #[.int .u16 5000, .slice xa xn xc] wx fun e w' => ∃ b, e = .returned (.pointer (some ⟨b, 0, none⟩)) ∧ ∃ M, FSAt M w' b (afterF (1 + 5000) X) ∧ (∀ k, M k → wx.heap.size ≤ k) ∧ Below wx.heap.size wx w') := fun wx hb =>
        Lib.hid (after_any 5000 _ X wx (by omega) (HX1.out.old hb) (by rw [← HXN.out]; exact hXb) (fun d hd => ⟨HXD.out d hd, by have := (HQX.out.2 d hd).K; omega⟩))
      have hfr0 : Fresh (1 + 5000) (afterF (1 + 5000) X) := (after_fresh (1 + 5000) (by omega) (by omega) X (fun d hd => ⟨(HXD.out d hd).N2, by have := (HQX.out.2 d hd).K; omega⟩)).start
      have hon : (afterF (1 + 5000) X).off = false := start_on _
      generalize afterF (1 + 5000) X = A at *
      have HFr := Lib.hid hfr0
      have HON := Lib.hid hon
      clear hfr0 hon
      go_upto_region 3 with fail
      refine wp_region_held_drew (S := fun w' => w'.cell? ⟨w.heap.size, 0, none⟩ = some (.slice xa xn xc) ∧ Below W.heap.size W w') (by kernel_rfl) ⟨c0, hbel3.drew⟩ (fun hH => ?_)
      clear c0 c1 hbel3
      (refine hTake (i := 0) (v := ?_) rfl (by kernel_rfl) (by kernel_rfl) (by kernel_rfl) (fun _ _ _ h => h) (by kernel_rfl) ?_ (by assumption) ?_; rotate_left; focus (intro w' hS'; (try dsimp only at hS'); go_split_ands; (try go_simp); (try (with_reducible rfl)); done); try simp only [Act.put, List.setIfInBounds_toArray, List.set_cons_zero, List.set_cons_succ]); (refine hTake (i := 1) (v := ?_) rfl (by kernel_rfl) (by kernel_rfl) (by kernel_rfl) (fun _ _ _ h => h) (by kernel_rfl) ?_ (by assumption) ?_; rotate_left; focus (intro w' hS'; (try dsimp only at hS'); go_split_ands; (try go_simp); (try (with_reducible rfl)); done); try simp only [Act.put, List.setIfInBounds_toArray, List.set_cons_zero, List.set_cons_succ]); (refine hTake (i := 3) (v := ?_) rfl (by kernel_rfl) (by kernel_rfl) (by kernel_rfl) (fun _ _ _ h => h) (by kernel_rfl) ?_ (by assumption) ?_; rotate_left; focus (intro w' hS'; (try dsimp only at hS'); go_split_ands; (try go_simp); (try (with_reducible rfl)); done); try simp only [Act.put, List.setIfInBounds_toArray, List.set_cons_zero, List.set_cons_succ]); (refine hTake (i := 4) (v := ?_) rfl (by kernel_rfl) (by kernel_rfl) (by kernel_rfl) (fun _ _ _ h => h) (by kernel_rfl) ?_ (by assumption) ?_; rotate_left; focus (intro w' hS'; (try dsimp only at hS'); go_split_ands; (try go_simp); (try (with_reducible rfl)); done); try simp only [Act.put, List.setIfInBounds_toArray, List.set_cons_zero, List.set_cons_succ])
      refine hOne (i := 2) rfl (by kernel_rfl) (fun K hK => ?_)
      go_simp
      refine (CA _ hH.2).out.mono ?_
      rintro e w4 ⟨bf, rfl, Mf, hf4, hM4, hb4⟩
      go_wp2_with fail
      have hbel4 := below_tr hH.2 hb4
      have HF4 := Lib.hid hf4
      have hLo := hH.2.size
      have HM4 := Lib.hid (fun x (hx : Mf x) => Nat.le_trans hLo (hM4 x hx))
      clear hf4 hM4 hb4 hLo
      refine hK.out _ _ ⟨(HC.out w4 hbel4).1, hbel4⟩ (fun hH => ?_)
      clear hK K
      refine hOne (i := 5) rfl (by kernel_rfl) (fun K hK => ?_)
      go_simp
      refine (CA w4 hbel4).out.mono ?_
      rintro e w5 ⟨bg, rfl, Mg, hg5, hN5, hb5⟩
      go_wp2_with fail
      have hbel5 := below_tr hbel4 hb5
      have HF5 := Lib.hid (HF4.out.below hb5)
      have HG5 := Lib.hid hg5
      have HMf5 := HM4
      have HMg5 : Hid (∀ x, Mg x → W.heap.size ≤ x) := Lib.hid (fun x (hx : Mg x) => Nat.le_trans hbel4.size (hN5 x hx))
      have HDJ : Hid (∀ x, Mf x → ¬ Mg x) := Lib.hid (fun x hx hy => by have := HF4.out.lt x hx; have := hN5 x hy; omega)
      clear hg5 hN5 hb5
      refine hK.out _ _ ⟨(HC.out w5 hbel5).1, hbel5⟩ (fun hH => ?_)
      clear hK K
      (refine hTake (i := 6) (v := ?_) rfl (by kernel_rfl) (by kernel_rfl) (by kernel_rfl) (fun _ _ _ h => h) (by kernel_rfl) ?_ (by assumption) ?_; rotate_left; focus (intro w' hS'; (try dsimp only at hS'); go_split_ands; (try go_simp); (try (with_reducible rfl)); done); try simp only [Act.put, List.setIfInBounds_toArray, List.set_cons_zero, List.set_cons_succ]); (refine hTake (i := 7) (v := ?_) rfl (by kernel_rfl) (by kernel_rfl) (by kernel_rfl) (fun _ _ _ h => h) (by kernel_rfl) ?_ (by assumption) ?_; rotate_left; focus (intro w' hS'; (try dsimp only at hS'); go_split_ands; (try go_simp); (try (with_reducible rfl)); done); try simp only [Act.put, List.setIfInBounds_toArray, List.set_cons_zero, List.set_cons_succ])
      refine wpAnyH_done (by kernel_rfl) ?_ _
      clear HF4 HM4 hbel4
      obtain ⟨m, hm⟩ : ∃ m : Nat, m = n.toNat % 20 := ⟨_, rfl⟩
      have hwi : n % 20 = (m : Int) := by omega
      have hm20 : m < 20 := by omega
      have hkW : IntsIn (fun _ => True) w5 (.slice ka kn kc) keep := HK1.out.eq hbel5.size fun y hy _ => ⟨hbel5.block y hy, trivial⟩
      have CF : Hid (Calls Try.prog 22 #[.pointer (some ⟨bf, 0, none⟩), .int .i64 (m : Int), .slice ka kn kc] w5 fun e w' => e = .returned (.int .i64 0) ∧ Turned Mf w5 w' bf (wl A m keep)) := by
        have C0 := fail_any w5 HF5.out HFr.out.sound (m : Int) hkW (by rw [← HKN.out]; omega)
        have e0 : failE A (m : Int) = 0 := by unfold failE; rw [if_neg (by rw [HON.out]; simp), if_neg (by omega)]
        have e1 : failF A (m : Int) keep = wl A m keep := by unfold failF; rw [if_neg (by rw [HON.out]; simp)]; rfl
        rw [e0, e1] at C0
        exact Lib.hid C0
      clear hkW hm
      go_wp2_with fail
      (with_reducible refine CF.out.mono ?_); rintro e w6 ⟨rfl, Mf6, hf6, hM6, ho6⟩
      have hbel6 : Below W.heap.size W w6 := hbel5.trans (ho6.below hbel5.size HMf5.out)
      have HF6 := Lib.hid hf6
      have HG6 := Lib.hid (HG5.out.out ho6 (fun x hx hy => HDJ.out x hy hx))
      have HD6 : Hid (∀ x, Mf6 x → ¬ Mg x) := Lib.hid (fun x hx hy => by rcases hM6 x hx with h | h; exact HDJ.out x h hy; have := HG5.out.lt x hy; omega)
      have HMf6 := Lib.hid (fun x (hx : Mf6 x) => (show W.heap.size ≤ x by rcases hM6 x hx with h | h; exact HMf5.out x h; exact Nat.le_trans hbel5.size h))
      have HI6 : Hid (Sound A ∧ A.off = false ∧ A.left = -1) := Lib.hid ⟨HFr.out.sound, HON.out, HFr.out.left⟩
      clear hf6 hM6 ho6 CF HF5 HG5 HDJ HMf5 hbel5 hH CA
      go_wp2_with fail
      go_loopw [10, 9] (fun i lf wr => ∃ (k m : Nat) (G : FR) (Mf Mg : Nat → Prop), k ≤ yn ∧ m ≤ 1000 ∧ i = .int .i64 (k : Nat) ∧ lf = .int .i64 (m : Nat) ∧ Hid (FSAt Mf wr bf (wl G m keep)) ∧ Hid (FSAt Mg wr bg G) ∧ Hid (Sound G ∧ G.off = false ∧ G.left = -1) ∧ Hid (∀ x, Mf x → ¬ Mg x) ∧ Hid (∀ x, Mf x → W.heap.size ≤ x) ∧ Hid (∀ x, Mg x → W.heap.size ≤ x) ∧ Below W.heap.size W wr) (fun i _ _ => yn - (intOf i).toNat)
      case atStart => exact ⟨0, m, A, Mf6, Mg, Nat.zero_le _, by omega, rfl, rfl, HF6, HG6, HI6, HD6, HMf6, HMg5, hbel6⟩
      case round =>
        clear hwi hm20
        obtain ⟨k, m, G, Mf, Mg, hk, hmm, rfl, rfl, HF, HG, HI, HDJ, HMf, HMg, hbel⟩ := hrel
        by_cases hlt : k < yn
        · obtain ⟨d, hd⟩ : ∃ d, Y[k]? = some d := ⟨_, List.getElem?_eq_getElem (show k < Y.length by rw [← HYN.out]; exact hlt)⟩
          have c1 := (HC.out wr hbel).2
          have HOK := Lib.hid (HYD.out d (List.mem_of_getElem? hd))
          have HSM := Lib.hid (HQY.out.2 d (List.mem_of_getElem? hd))
          have hN : W.heap.size ≤ wr.heap.size := hbel.size
          obtain ⟨lb, lo, lc, kv, hlv, hkv, q0, q1, q2, q3, q4, q5⟩ := dos_get (M := fun x => Mf x ∨ Mg x) HY1.out rfl hbel (fun x hx => by rcases hx with h | h; exact HMf.out x h; exact HMg.out x h) hd
          injection hlv with hla e11 e12
          clear e11 e12
          subst hla
          obtain ⟨ia, ic, rfl⟩ := hkv.val
          have HKV := Lib.hid hkv
          obtain ⟨r, hr⟩ : ∃ r, r = d.what % 12 := ⟨_, rfl⟩
          have hwi : (d.what : Int) % 12 = (r : Int) := by omega
          have hwb := HOK.out.what
          have HR := Lib.hid hr
          clear hkv hr hd
          go_upto_region 11 with fail
          generalize hWa : World.alloc wr _ = Wa
          have hba : Below wr.heap.size wr Wa := by rw [← hWa]; exact (Below.refl _ _).alloc (Nat.le_refl _) _
          have hbox : Box6 Wa wr.heap.size 35 (.int .u8 (d.what : Int)) (.string d.A) (.string d.B) (.string d.S) (.int .i64 d.N) (.slice ia d.K.length ic) := by
            rw [← hWa]; unfold Box6; rw [heap_alloc, if_pos rfl]
          have hba1 : wr.heap.size < Wa.heap.size := hbox.lt
          have c0 := hbox.c0
          have HBa := Lib.hid hbox
          have HFa := Lib.hid (HF.out.below hba)
          have HGa := Lib.hid (HG.out.below hba)
          have HKa := Lib.hid (HKV.out.later hba)
          have hbela : Below W.heap.size W Wa := below_tr hbel hba
          have nMf : Hid (¬ Mf wr.heap.size) := Lib.hid (fun h => by have := HF.out.lt _ h; omega)
          have nMg : Hid (¬ Mg wr.heap.size) := Lib.hid (fun h => by have := HG.out.lt _ h; omega)
          clear hWa hbox hba q0 q1 q2 q3 q4 q5 c1 HF HG HKV
          obtain ⟨B, hB⟩ : ∃ B, B = wr.heap.size := ⟨_, rfl⟩
          rw [← hB] at c0 HBa nMf nMg hba1 ⊢
          clear hB
          by_cases h7 : 7 < r
          · go_wp2_with fail
            exact ⟨⟨k + 1, m, G, Mf, Mg, by omega, hmm, by go_num, rfl, HFa, HGa, HI, HDJ, HMf, HMg, hbela⟩, by simp [intOf]; omega⟩
          · have h7' : r ≤ 7 := by omega
            have HST := Lib.hid (fail_step G keep HI.out.2.1 HI.out.2.2 d (by rw [← HR.out]; omega))
            have hwl0 : Sound (wl G (m : Int) keep) := wl_sound HI.out.1 m hmm keep (by rw [← HKN.out]; omega)
            have HWL := Lib.hid hwl0
            clear hwl0
            obtain ⟨q, hq⟩ : ∃ q, q = G.files.length := ⟨_, rfl⟩
            have HQ := Lib.hid hq
            have l1 : (G.files.map PF.name).length = q := by rw [List.length_map]; exact hq.symm
            have l2 : (G.files.map PF.bytes).length = q := by rw [List.length_map]; exact hq.symm
            have hcnt : q ≤ 32 := by rw [hq]; exact HI.out.1.cnt
            have CN := Lib.hid (names_any HGa.out HI.out.1)
            clear hq
            go_wp2_with fail
            (with_reducible refine CN.out.mono ?_); rintro e w7 ⟨⟨nv, rfl, ho⟩, hb7⟩
            have HT7 : Hid (TextsIn (fun x => ¬ (Mf x ∨ Mg x)) w7 nv (G.files.map PF.name)) := Lib.hid ((names_in ho).off (fun x hx => by rcases hx with h | h; exact HFa.out.lt x h; exact HGa.out.lt x h))
            clear ho CN
            have HF7 := Lib.hid (HFa.out.below hb7)
            have HG7 := Lib.hid (HGa.out.below hb7)
            have HB7 := Lib.hid (HBa.out.eq (hb7.block B HBa.out.lt))
            have HK7 := Lib.hid (HKa.out.later hb7)
            have hbel7 : Below W.heap.size W w7 := below_tr hbela hb7
            clear hb7 HFa HGa HBa HKa hbela 
            obtain ⟨na, nc, rfl⟩ := HT7.out.val
            rw [l1] at HT7 ⊢
            have CH := Lib.hid (held_any w7 HG7.out HI.out.1 HI.out.2.1)
            go_wp2_with fail
            (with_reducible refine CH.out.mono ?_); rintro e w8 ⟨⟨hv, rfl, ho⟩, hb8⟩
            have HH8 : Hid (TextsIn (fun x => ¬ (Mf x ∨ Mg x)) w8 hv (G.files.map PF.bytes)) := Lib.hid (ho.off (fun x hx => by rcases hx with h | h; exact HF7.out.lt x h; exact HG7.out.lt x h))
            clear ho CH
            have HF8 := Lib.hid (HF7.out.below hb8)
            have HG8 := Lib.hid (HG7.out.below hb8)
            have HB8 := Lib.hid (HB7.out.eq (hb8.block B HB7.out.lt))
            have HK8 := Lib.hid (HK7.out.later hb8)
            have hbel8 : Below W.heap.size W w8 := below_tr hbel7 hb8
            have HT8 := Lib.hid (HT7.out.below hb8)
            clear hb8 HF7 HG7 HB7 HK7 hbel7 HT7
            obtain ⟨ha, hc, rfl⟩ := HH8.out.val
            rw [l2] at HH8 ⊢
            have c0 := HB8.out.c0
            have c1 := HB8.out.c1
            have c2 := HB8.out.c2
            have c3 := HB8.out.c3
            have c4 := HB8.out.c4
            have c5 := HB8.out.c5
            have CW1 := with_any w8 HG8.out HI.out.1 (v := .agg #[.int .u8 (d.what : Int), .string d.A, .string d.B, .string d.S, .int .i64 d.N, .slice ia d.K.length ic]) (d := d) ⟨_, rfl, HK8.out.eq (Nat.le_refl _) fun x _ h => ⟨rfl, fun hm => h (.inr hm)⟩⟩ HOK.out.what HOK.out.S (by have := HSM.out.K; omega)
            have HSG := Lib.hid (HI.out.1.with' d HOK.out.N2 (by have := HSM.out.K; omega))
            have CW2 : ∀ (w9 : World) (M : Nat → Prop), FSAt M w9 bf (wl G (m : Int) keep) → IntsIn (fun x => ¬ M x) w9 (.slice ia d.K.length ic) d.K → Calls Try.prog 18 #[.pointer (some ⟨bf, 0, none⟩), .agg #[.int .u8 (d.what : Int), .string d.A, .string d.B, .string d.S, .int .i64 d.N, .slice ia d.K.length ic]] w9 fun e w' => e = .returned (.int .i64 (withE (wl G (m : Int) keep) d)) ∧ Turned M w9 w' bf (withF (wl G (m : Int) keep) d) := fun w9 M hf hkv =>
              with_any w9 hf HWL.out ⟨_, rfl, hkv⟩ HOK.out.what HOK.out.S (by have := HSM.out.K; omega)
            have HC2 := Lib.hid CW2
            clear CW2
            rcases Decidable.em (withE G d = 0) with he | he
            · cases m with
              | zero =>
                obtain ⟨b3, b4⟩ := HST.out.last he
                have hoffG : (withF G d).off = false := HST.out.off
                have HOG := Lib.hid hoffG
                clear hoffG
                rw [he] at CW1

                have C1 := Lib.hid CW1
                clear CW1
                go_wp2_with fail
                (with_reducible refine C1.out.mono ?_); rintro e w9 ⟨rfl, Mg9, hg9, hM9, ho9⟩
                have hP9 : ∀ x, x < w8.heap.size → ¬ (Mf x ∨ Mg x) → w9.heap[x]? = w8.heap[x]? ∧ ¬ (Mf x ∨ Mg9 x) := fun x hx hp => ⟨ho9.block x hx (fun h => hp (.inr h)), fun h => by rcases h with h | h; exact hp (.inl h); rcases hM9 x h with h2 | h2; exact hp (.inr h2); omega⟩
                have HT9 := Lib.hid (HT8.out.eq ho9.size hP9)
                have HH9 := Lib.hid (HH8.out.eq ho9.size hP9)
                have HK9 := Lib.hid (HK8.out.eq ho9.size hP9)
                have HF9 := Lib.hid (HF8.out.out ho9 HDJ.out)
                have HG9 := Lib.hid hg9
                have HB9 := Lib.hid (HB8.out.eq (ho9.block B HB8.out.lt nMg.out))
                have nMg9 : Hid (¬ Mg9 B) := Lib.hid (fun h => by rcases hM9 B h with h2 | h2; exact nMg.out h2; have := HB8.out.lt; omega)
                have HD9 : Hid (∀ x, Mf x → ¬ Mg9 x) := Lib.hid (fun x hx h => by rcases hM9 x h with h2 | h2; exact HDJ.out x hx h2; have := HF8.out.lt x hx; omega)
                have HMg9 := Lib.hid (fun x (hx : Mg9 x) => (show W.heap.size ≤ x by rcases hM9 x hx with h | h; exact HMg.out x h; exact Nat.le_trans hbel8.size h))
                have hbel9 : Below W.heap.size W w9 := hbel8.trans (ho9.below hbel8.size HMg.out)
                clear hP9 hg9 hM9 ho9 C1 HT8 HH8 HK8 HF8 HG8 HB8 hbel8 c0 c1 c2 c3 c4 c5 nMg
                have c0 := HB9.out.c0
                have c1 := HB9.out.c1
                have c2 := HB9.out.c2
                have c3 := HB9.out.c3
                have c4 := HB9.out.c4
                have c5 := HB9.out.c5
                have CW2 := HC2.out w9 Mf HF9.out (HK9.out.eq (Nat.le_refl _) fun x _ h => ⟨rfl, fun hm => h (.inl hm)⟩)
                rw [b3, b4] at CW2
                clear b3 b4
                have C1 := Lib.hid CW2
                clear CW2 HC2
                go_wp2_with fail
                (with_reducible refine C1.out.mono ?_); rintro e w10 ⟨rfl, Mf10, hf10, hM10, ho10⟩
                have hP10 : ∀ x, x < w9.heap.size → ¬ (Mf x ∨ Mg9 x) → w10.heap[x]? = w9.heap[x]? ∧ ¬ (Mf10 x ∨ Mg9 x) := fun x hx hp => ⟨ho10.block x hx (fun h => hp (.inl h)), fun h => by rcases h with h | h; rcases hM10 x h with h2 | h2; exact hp (.inl h2); omega; exact hp (.inr h)⟩
                have HT10 := Lib.hid (HT9.out.eq ho10.size hP10)
                have HH10 := Lib.hid (HH9.out.eq ho10.size hP10)
                have HG10 := Lib.hid (HG9.out.out ho10 (fun x hx hy => HD9.out x hy hx))
                have HF10 := Lib.hid hf10
                have HB10 := Lib.hid (HB9.out.eq (ho10.block B HB9.out.lt nMf.out))
                have HD10 : Hid (∀ x, Mf10 x → ¬ Mg9 x) := Lib.hid (fun x hx h => by rcases hM10 x hx with h2 | h2; exact HD9.out x h2 h; have := HG9.out.lt x h; omega)
                have HMf10 := Lib.hid (fun x (hx : Mf10 x) => (show W.heap.size ≤ x by rcases hM10 x hx with h | h; exact HMf.out x h; exact Nat.le_trans hbel9.size h))
                have hbel10 : Below W.heap.size W w10 := hbel9.trans (ho10.below hbel9.size HMf.out)
                clear hP10 hf10 hM10 ho10 C1 HT9 HH9 HK9 HF9 HG9 HB9 hbel9 c0 c1 c2 c3 c4 c5 nMf nMg9 HD9
                have c0 := HB10.out.c0
                rcases Nat.lt_or_ge r 3 with h3 | h3
                case' inl =>
                  have hH : (if d.what % 12 < 3 then withF G d else G) = withF G d := if_pos (by rw [← HR.out]; exact h3)
                  rw [hH] at HF10
                  have HSH : Hid (Sound (withF G d)) := HSG
                  have CN := Lib.hid (names_any HG10.out HSH.out)
                  clear hH HST
                  obtain ⟨H, hHH⟩ : ∃ H, H = withF G d := ⟨_, rfl⟩
                  rw [← hHH] at HF10 HSH CN HG10 HOG
                  clear hHH HT10 HH10 HSG
                  obtain ⟨qz, hqz⟩ : ∃ q, q = H.files.length := ⟨_, rfl⟩
                  have HQZ := Lib.hid hqz
                  have l1z : (H.files.map PF.name).length = qz := by rw [List.length_map]; exact hqz.symm
                  have l2z : (H.files.map PF.bytes).length = qz := by rw [List.length_map]; exact hqz.symm
                  clear hqz
                  go_wp2_with fail
                  (with_reducible refine CN.out.mono ?_); rintro e w11 ⟨⟨nz, rfl, ho⟩, hb11⟩
                  have HT11 : Hid (TextsIn (fun x => ¬ (Mf10 x ∨ Mg9 x)) w11 nz (H.files.map PF.name)) := Lib.hid ((names_in ho).off (fun x hx => by rcases hx with h | h; exact HF10.out.lt x h; exact HG10.out.lt x h))
                  have HF11 := Lib.hid (HF10.out.below hb11)
                  have HG11 := Lib.hid (HG10.out.below hb11)
                  have hbel11 : Below W.heap.size W w11 := below_tr hbel10 hb11
                  obtain ⟨nza, nzc, rfl⟩ := HT11.out.val
                  rw [l1z] at HT11 ⊢
                  have CH := Lib.hid (held_any w11 HG11.out HSH.out HOG.out)
                  clear ho CN hb11 HF10 HG10 hbel10
                  go_wp2_with fail
                  (with_reducible refine CH.out.mono ?_); rintro e wz ⟨⟨hz, rfl, ho⟩, hb12⟩
                  have HHz : Hid (TextsIn (fun x => ¬ (Mf10 x ∨ Mg9 x)) wz hz (H.files.map PF.bytes)) := Lib.hid (ho.off (fun x hx => by rcases hx with h | h; exact HF11.out.lt x h; exact HG11.out.lt x h))
                  have HTz := Lib.hid (HT11.out.below hb12)
                  have HFz := Lib.hid (HF11.out.below hb12)
                  have hbelz : Below W.heap.size W wz := below_tr hbel11 hb12
                  obtain ⟨hza, hzc, rfl⟩ := HHz.out.val
                  rw [l2z] at HHz ⊢
                  clear ho CH hb12 HF11 HG11 HT11 hbel11 HB10 c0
                  go_upto_region 22 with fail
                case' inr =>
                  have hH : (if d.what % 12 < 3 then withF G d else G) = G := if_neg (by rw [← HR.out]; omega)
                  rw [hH] at HF10
                  have HSH : Hid (Sound G) := Lib.hid HI.out.1
                  clear hH HST
                  obtain ⟨H, hHH⟩ : ∃ H, H = G := ⟨_, rfl⟩
                  rw [← hHH] at HF10 HSH HT10 HH10 HQ l1 l2
                  clear hHH
                  go_upto_region 22 with fail
                  obtain ⟨wz, hwz⟩ : ∃ w, w = w10 := ⟨_, rfl⟩
                  subst hwz
                  obtain ⟨qz, hqz⟩ : ∃ z, z = q := ⟨_, rfl⟩
                  subst hqz
                  obtain ⟨nza, hx1⟩ : ∃ z, z = na := ⟨_, rfl⟩
                  subst hx1
                  obtain ⟨hza, hx1⟩ : ∃ z, z = ha := ⟨_, rfl⟩
                  subst hx1
                  have HTz := HT10
                  have HHz := HH10
                  have HFz := HF10
                  have hbelz := hbel10
                  have HQZ := HQ
                  have l1z := l1
                  have l2z := l2
                  clear HT10 HH10 HF10 hbel10 HQ HB10 c0 HG10
                all_goals
                  have hcntz : qz ≤ 32 := by rw [HQZ.out]; exact HSH.out.cnt
                  have hSC := (wl_sound HSH.out 0 (by omega) keep (by rw [← HKN.out]; omega)).crash keep
                  have HSC := Lib.hid hSC
                  have hSR := Lib.hid hSC.start
                  clear hSC
                  have CU : Hid (Calls Try.prog 26 #[.pointer (some ⟨bf, 0, none⟩)] wz fun e w' => e = .returned (.bool false) ∧ w' = wz) := Lib.hid (up_any HFz.out HSC.out.lim)
                  have CS : Hid (Calls Try.prog 27 #[.pointer (some ⟨bf, 0, none⟩)] wz fun e w' => e = .returned (.int .i64 0) ∧ Turned Mf10 wz w' bf (startF (crashF (wl H 0 keep) keep))) := Lib.hid (start_any wz HFz.out HSC.out)
                  obtain ⟨r1, r2⟩ := wl_crash H keep
                  have r3 : (startF (crashF (wl H 0 keep) keep)).off = false := rfl
                  generalize startF (crashF (wl H 0 keep) keep) = R at *
                  have HR1 := Lib.hid r1
                  have HR2 := Lib.hid r2
                  have HR3 := Lib.hid r3
                  clear r1 r2 r3
                  go_wp2_with fail
                  (with_reducible refine CU.out.mono ?_); rintro e wx ⟨rfl, hwx⟩
                  have hwx := hwx.symm
                  subst hwx
                  go_wp2_with fail
                  (with_reducible refine CS.out.mono ?_); rintro e w13 ⟨rfl, M13, hf13, hM13, ho13⟩
                  have hP13 : ∀ x, x < wz.heap.size → ¬ (Mf10 x ∨ Mg9 x) → w13.heap[x]? = wz.heap[x]? ∧ True := fun x hx hp => ⟨ho13.block x hx (fun h => hp (.inl h)), trivial⟩
                  have HT13 := Lib.hid (HTz.out.eq (P' := fun _ => True) ho13.size hP13)
                  have HH13 := Lib.hid (HHz.out.eq (P' := fun _ => True) ho13.size hP13)
                  have HF13 := Lib.hid hf13
                  have hbel13 : Below W.heap.size W w13 := hbelz.trans (ho13.below hbelz.size HMf10.out)
                  have CN := Lib.hid (names_any HF13.out hSR.out)
                  clear hP13 hf13 hM13 ho13 CS CU HTz HHz HFz hbelz
                  go_wp2_with fail
                  (with_reducible refine CN.out.mono ?_); rintro e w14 ⟨⟨nv4, rfl, ho⟩, hb14⟩
                  have hn4 := names_in ho
                  rw [HR1.out] at hn4
                  obtain ⟨n4a, n4c, rfl⟩ := hn4.val
                  rw [l1z] at hn4 ⊢
                  have HT14 := Lib.hid (HT13.out.below hb14)
                  have HH14 := Lib.hid (HH13.out.below hb14)
                  have HF14 := Lib.hid (HF13.out.below hb14)
                  have hbel14 : Below W.heap.size W w14 := below_tr hbel13 hb14
                  have CT := tsame_any _ _ _ _ w14 hn4.at HT14.out.at (by rw [l1z]; omega) (by rw [l1z]; omega)
                  rw [decide_eq_true (show H.files.map PF.name = H.files.map PF.name from rfl)] at CT
                  have CT1 := Lib.hid CT
                  clear CT hn4 ho hb14 CN HT13 HH13 HF13 hbel13
                  go_wp2_with fail
                  (with_reducible refine CT1.out.mono ?_); rintro e w15 ⟨rfl, hb15⟩
                  have HH15 := Lib.hid (HH14.out.below hb15)
                  have HF15 := Lib.hid (HF14.out.below hb15)
                  have hbel15 : Below W.heap.size W w15 := below_tr hbel14 hb15
                  have CH := Lib.hid (held_any w15 HF15.out hSR.out HR3.out)
                  clear hb15 CT1 HT14 HH14 HF14 hbel14
                  go_wp2_with fail
                  (with_reducible refine CH.out.mono ?_); rintro e w16 ⟨⟨hv4, rfl, ho⟩, hb16⟩
                  rw [HR2.out] at ho
                  have l4 : ((crashL H.files keep).map PF.bytes).length = qz := by rw [List.length_map, crash_len]; exact HQZ.out.symm
                  obtain ⟨h4a, h4c, rfl⟩ := ho.val
                  rw [l4] at ho ⊢
                  have HN16 := Lib.hid ho
                  have HH16 := Lib.hid (HH15.out.below hb16)
                  have hbel16 : Below W.heap.size W w16 := below_tr hbel15 hb16
                  clear ho hb16 CH HH15 HF15 hbel15
                  go_wp2_with fail
                  go_loopw [17] (fun i wr => ∃ j : Nat, j ≤ qz ∧ i = .int .i64 (j : Nat) ∧ Below w16.heap.size w16 wr) (fun i _ => qz - (intOf i).toNat)
                  case atStart => exact ⟨0, Nat.zero_le _, rfl, Below.refl _ _⟩
                  case round =>
                    obtain ⟨j, hj, rfl, hbl⟩ := hrel
                    by_cases hjq : j < qz
                    · obtain ⟨x, hx⟩ := get_of_lt H.files j (by rw [← HQZ.out]; exact hjq)
                      have hy := crash_get H.files keep hx
                      obtain ⟨p1, p2⟩ := cut_prefix x (keepAt keep j)
                      have hsz := HSH.out.size (List.mem_of_getElem? hx)
                      have hXs : x.bytes.size = x.pl.size + x.air.size := ByteArray.size_append
                      obtain ⟨a5, k5, hv5, hh5⟩ := HH16.out
                      injection hv5 with e1 e2 e3
                      clear e2 e3
                      subst e1
                      obtain ⟨hb5, hbo, e1, hbl5, _, hc5⟩ := hh5 (by intro e; rw [e] at l2z; simp at l2z; omega)
                      subst e1
                      obtain ⟨a6, k6, hv6, hh6⟩ := HN16.out
                      injection hv6 with e1 e2 e3
                      clear e2 e3
                      subst e1
                      obtain ⟨nb6, nbo, e1, nbl6, _, hc6⟩ := hh6 (by intro e; rw [e] at l4; simp at l4; omega)
                      subst e1
                      have g1 : wr.cell? ⟨hb5, hbo + j, none⟩ = some (.string x.bytes) := by
                        rw [World.cell?_of_block (a := ⟨hb5, hbo + j, none⟩) (hbl.block hb5 hbl5), hc5 j (by omega)]
                        have h1 : (H.files.map PF.bytes)[j]? = some x.bytes := by rw [List.getElem?_map, hx]; rfl
                        rw [List.getElem?_eq_getElem (by omega)] at h1
                        injection h1 with h1
                        rw [h1]
                      have g2 : wr.cell? ⟨nb6, nbo + j, none⟩ = some (.string (cr x (keepAt keep j)).bytes) := by
                        rw [World.cell?_of_block (a := ⟨nb6, nbo + j, none⟩) (hbl.block nb6 nbl6), hc6 j (by omega)]
                        have h1 : ((crashL H.files keep).map PF.bytes)[j]? = some (cr x (keepAt keep j)).bytes := by rw [List.getElem?_map, hy]; rfl
                        rw [List.getElem?_eq_getElem (by omega)] at h1
                        injection h1 with h1
                        rw [h1]
                      generalize (cr x (keepAt keep j)).bytes = Z at *
                      generalize x.bytes = V at *
                      have gd : decide (((V.size : Nat) : Int) < ((Z.size : Nat) : Int)) = false := by rw [decide_eq_false_iff_not]; omega
                      have gle : ((Z.size : Nat) : Int) ≤ ((V.size : Nat) : Int) := by omega
                      have gV : V.size ≤ 1048576 := by omega
                      clear hh5 hh6 hc5 hc6 hx hy hsz hXs
                      go_upto_region 30 with fail
                      go_quiet (fail)
                      go_wp2_with fail
                      exact ⟨⟨j + 1, by omega, by go_num, below_drewN hbl _⟩, by simp [intOf]; omega⟩
                    · obtain rfl : j = qz := by omega
                      have CD := Lib.hid (does_any wr)
                      go_wp2_with fail
                      (with_reducible refine CD.out.mono ?_); rintro e w17 ⟨rfl, hb17⟩
                      go_wp2_with fail
                      go_ret
                      exact ⟨rfl, below_tr hbW (below_tr (below_tr hbel16 hbl) hb17)⟩
              | succ m =>
                obtain ⟨b3, b4⟩ := HST.out.good he m
                have hI9 : Hid (Sound (withF G d) ∧ (withF G d).off = false ∧ (withF G d).left = -1) := Lib.hid ⟨HSG.out, HST.out.off, HST.out.left⟩
                have hpos : (0 : Int) < ((m + 1 : Nat) : Int) := by omega
                rw [he] at CW1
                generalize withF G d = G1 at *
                have C1 := Lib.hid CW1
                clear CW1
                go_wp2_with fail
                (with_reducible refine C1.out.mono ?_); rintro e w9 ⟨rfl, Mg9, hg9, hM9, ho9⟩
                have hP9 : ∀ x, x < w8.heap.size → ¬ (Mf x ∨ Mg x) → w9.heap[x]? = w8.heap[x]? ∧ ¬ (Mf x ∨ Mg9 x) := fun x hx hp => ⟨ho9.block x hx (fun h => hp (.inr h)), fun h => by rcases h with h | h; exact hp (.inl h); rcases hM9 x h with h2 | h2; exact hp (.inr h2); omega⟩
                have HT9 := Lib.hid (HT8.out.eq ho9.size hP9)
                have HH9 := Lib.hid (HH8.out.eq ho9.size hP9)
                have HK9 := Lib.hid (HK8.out.eq ho9.size hP9)
                have HF9 := Lib.hid (HF8.out.out ho9 HDJ.out)
                have HG9 := Lib.hid hg9
                have HB9 := Lib.hid (HB8.out.eq (ho9.block B HB8.out.lt nMg.out))
                have nMg9 : Hid (¬ Mg9 B) := Lib.hid (fun h => by rcases hM9 B h with h2 | h2; exact nMg.out h2; have := HB8.out.lt; omega)
                have HD9 : Hid (∀ x, Mf x → ¬ Mg9 x) := Lib.hid (fun x hx h => by rcases hM9 x h with h2 | h2; exact HDJ.out x hx h2; have := HF8.out.lt x hx; omega)
                have HMg9 := Lib.hid (fun x (hx : Mg9 x) => (show W.heap.size ≤ x by rcases hM9 x hx with h | h; exact HMg.out x h; exact Nat.le_trans hbel8.size h))
                have hbel9 : Below W.heap.size W w9 := hbel8.trans (ho9.below hbel8.size HMg.out)
                clear hP9 hg9 hM9 ho9 C1 HT8 HH8 HK8 HF8 HG8 HB8 hbel8 c0 c1 c2 c3 c4 c5 nMg
                have c0 := HB9.out.c0
                have c1 := HB9.out.c1
                have c2 := HB9.out.c2
                have c3 := HB9.out.c3
                have c4 := HB9.out.c4
                have c5 := HB9.out.c5
                have CW2 := HC2.out w9 Mf HF9.out (HK9.out.eq (Nat.le_refl _) fun x _ h => ⟨rfl, fun hm => h (.inl hm)⟩)
                rw [b3, b4] at CW2
                clear b3 b4
                have C1 := Lib.hid CW2
                clear CW2 HC2
                go_wp2_with fail
                (with_reducible refine C1.out.mono ?_); rintro e w10 ⟨rfl, Mf10, hf10, hM10, ho10⟩
                have hP10 : ∀ x, x < w9.heap.size → ¬ (Mf x ∨ Mg9 x) → w10.heap[x]? = w9.heap[x]? ∧ ¬ (Mf10 x ∨ Mg9 x) := fun x hx hp => ⟨ho10.block x hx (fun h => hp (.inl h)), fun h => by rcases h with h | h; rcases hM10 x h with h2 | h2; exact hp (.inl h2); omega; exact hp (.inr h)⟩
                have HT10 := Lib.hid (HT9.out.eq ho10.size hP10)
                have HH10 := Lib.hid (HH9.out.eq ho10.size hP10)
                have HG10 := Lib.hid (HG9.out.out ho10 (fun x hx hy => HD9.out x hy hx))
                have HF10 := Lib.hid hf10
                have HB10 := Lib.hid (HB9.out.eq (ho10.block B HB9.out.lt nMf.out))
                have HD10 : Hid (∀ x, Mf10 x → ¬ Mg9 x) := Lib.hid (fun x hx h => by rcases hM10 x hx with h2 | h2; exact HD9.out x h2 h; have := HG9.out.lt x h; omega)
                have HMf10 := Lib.hid (fun x (hx : Mf10 x) => (show W.heap.size ≤ x by rcases hM10 x hx with h | h; exact HMf.out x h; exact Nat.le_trans hbel9.size h))
                have hbel10 : Below W.heap.size W w10 := hbel9.trans (ho10.below hbel9.size HMf.out)
                clear hP10 hf10 hM10 ho10 C1 HT9 HH9 HK9 HF9 HG9 HB9 hbel9 c0 c1 c2 c3 c4 c5 nMf nMg9 HD9
                go_wp2_with fail
                exact ⟨⟨k + 1, m, G1, Mf10, Mg9, by omega, by omega, by go_num, by go_num, HF10, HG10, hI9, HD10, HMf10, HMg9, hbel10⟩, by simp [intOf]; omega⟩
            · skip
              obtain ⟨b1, b2⟩ := HST.out.bad he
              obtain ⟨b3, b4⟩ := b2 m
              obtain ⟨E, hE⟩ : ∃ E, E = withE G d := ⟨_, rfl⟩
              rw [← hE] at he b3
              have gE : (E == 0) = false := by simpa using he
              rw [← hE, b1] at CW1
              clear hE b1 b2
              have C1 := Lib.hid CW1
              clear CW1
              go_wp2_with fail
              (with_reducible refine C1.out.mono ?_); rintro e w9 ⟨rfl, Mg9, hg9, hM9, ho9⟩
              have hP9 : ∀ x, x < w8.heap.size → ¬ (Mf x ∨ Mg x) → w9.heap[x]? = w8.heap[x]? ∧ ¬ (Mf x ∨ Mg9 x) := fun x hx hp => ⟨ho9.block x hx (fun h => hp (.inr h)), fun h => by rcases h with h | h; exact hp (.inl h); rcases hM9 x h with h2 | h2; exact hp (.inr h2); omega⟩
              have HT9 := Lib.hid (HT8.out.eq ho9.size hP9)
              have HH9 := Lib.hid (HH8.out.eq ho9.size hP9)
              have HK9 := Lib.hid (HK8.out.eq ho9.size hP9)
              have HF9 := Lib.hid (HF8.out.out ho9 HDJ.out)
              have HG9 := Lib.hid hg9
              have HB9 := Lib.hid (HB8.out.eq (ho9.block B HB8.out.lt nMg.out))
              have nMg9 : Hid (¬ Mg9 B) := Lib.hid (fun h => by rcases hM9 B h with h2 | h2; exact nMg.out h2; have := HB8.out.lt; omega)
              have HD9 : Hid (∀ x, Mf x → ¬ Mg9 x) := Lib.hid (fun x hx h => by rcases hM9 x h with h2 | h2; exact HDJ.out x hx h2; have := HF8.out.lt x hx; omega)
              have HMg9 := Lib.hid (fun x (hx : Mg9 x) => (show W.heap.size ≤ x by rcases hM9 x hx with h | h; exact HMg.out x h; exact Nat.le_trans hbel8.size h))
              have hbel9 : Below W.heap.size W w9 := hbel8.trans (ho9.below hbel8.size HMg.out)
              clear hP9 hg9 hM9 ho9 C1 HT8 HH8 HK8 HF8 HG8 HB8 hbel8 c0 c1 c2 c3 c4 c5 nMg
              have c0 := HB9.out.c0
              have c1 := HB9.out.c1
              have c2 := HB9.out.c2
              have c3 := HB9.out.c3
              have c4 := HB9.out.c4
              have c5 := HB9.out.c5
              have CW2 := HC2.out w9 Mf HF9.out (HK9.out.eq (Nat.le_refl _) fun x _ h => ⟨rfl, fun hm => h (.inl hm)⟩)
              rw [b3, b4] at CW2
              clear b3 b4
              have C1 := Lib.hid CW2
              clear CW2 HC2
              go_wp2_with fail
              (with_reducible refine C1.out.mono ?_); rintro e w10 ⟨rfl, Mf10, hf10, hM10, ho10⟩
              have hP10 : ∀ x, x < w9.heap.size → ¬ (Mf x ∨ Mg9 x) → w10.heap[x]? = w9.heap[x]? ∧ ¬ (Mf10 x ∨ Mg9 x) := fun x hx hp => ⟨ho10.block x hx (fun h => hp (.inl h)), fun h => by rcases h with h | h; rcases hM10 x h with h2 | h2; exact hp (.inl h2); omega; exact hp (.inr h)⟩
              have HT10 := Lib.hid (HT9.out.eq ho10.size hP10)
              have HH10 := Lib.hid (HH9.out.eq ho10.size hP10)
              have HG10 := Lib.hid (HG9.out.out ho10 (fun x hx hy => HD9.out x hy hx))
              have HF10 := Lib.hid hf10
              have HB10 := Lib.hid (HB9.out.eq (ho10.block B HB9.out.lt nMf.out))
              have HD10 : Hid (∀ x, Mf10 x → ¬ Mg9 x) := Lib.hid (fun x hx h => by rcases hM10 x hx with h2 | h2; exact HD9.out x h2 h; have := HG9.out.lt x h; omega)
              have HMf10 := Lib.hid (fun x (hx : Mf10 x) => (show W.heap.size ≤ x by rcases hM10 x hx with h | h; exact HMf.out x h; exact Nat.le_trans hbel9.size h))
              have hbel10 : Below W.heap.size W w10 := hbel9.trans (ho10.below hbel9.size HMf.out)
              clear hP10 hf10 hM10 ho10 C1 HT9 HH9 HK9 HF9 HG9 HB9 hbel9 c0 c1 c2 c3 c4 c5 nMf nMg9 HD9
              go_wp2_with fail
              exact ⟨⟨k + 1, m, G, Mf10, Mg9, by omega, hmm, by go_num, rfl, HF10, HG10, HI, HD10, HMf10, HMg9, hbel10⟩, by simp [intOf]; omega⟩
        · obtain rfl : k = yn := by omega
          have hW := wl_sound HI.out.1 m hmm keep (by rw [← HKN.out]; omega)
          have HWL := Lib.hid hW
          obtain ⟨q, hq⟩ : ∃ q, q = G.files.length := ⟨_, rfl⟩
          have l1 : (G.files.map PF.name).length = q := by rw [List.length_map]; exact hq.symm
          have l2 : (G.files.map PF.bytes).length = q := by rw [List.length_map]; exact hq.symm
          have hcnt : q ≤ 32 := by rw [hq]; exact HI.out.1.cnt
          have hoff : (wl G (m : Int) keep).off = false := HI.out.2.1
          have CU : Hid (Calls Try.prog 26 #[.pointer (some ⟨bf, 0, none⟩)] wr fun e w' => e = .returned (.bool true) ∧ w' = wr) := by
            have C0 := up_any HF.out HWL.out.lim
            rw [hoff] at C0
            exact Lib.hid C0
          have HOF := Lib.hid hoff
          have c1 := (HC.out wr hbel).2
          clear hW hq hoff
          go_wp2_with fail
          (with_reducible refine CU.out.mono ?_); rintro e wx ⟨rfl, hwx⟩
          have hwx := hwx.symm
          subst hwx
          have CH := Lib.hid (held_any wr HF.out HWL.out HOF.out)
          go_wp2_with fail
          (with_reducible refine CH.out.mono ?_); rintro e w7 ⟨⟨hv, rfl, ho⟩, hb7⟩
          have hh : TextsIn (fun x => wr.heap.size ≤ x) w7 hv (G.files.map PF.bytes) := ho
          obtain ⟨ha, hc, rfl⟩ := hh.val
          rw [l2] at hh ⊢
          have HH7 := Lib.hid hh
          have HF7 := Lib.hid (HF.out.below hb7)
          have HG7 := Lib.hid (HG.out.below hb7)
          have hbel7 := below_tr hbel hb7
          have CH2 := Lib.hid (held_any w7 HG7.out HI.out.1 HI.out.2.1)
          clear hh ho hb7 CH CU HF HG hbel c1
          go_wp2_with fail
          (with_reducible refine CH2.out.mono ?_); rintro e w8 ⟨⟨hv2, rfl, ho⟩, hb8⟩
          obtain ⟨ha2, hc2, rfl⟩ := ho.val
          rw [l2] at ho ⊢
          have HH8 := Lib.hid (HH7.out.below hb8)
          have CT := tsame_any _ _ _ _ w8 HH8.out.at ho.at (by rw [l2]; omega) (by rw [l2]; omega)
          rw [decide_eq_true (show G.files.map PF.bytes = G.files.map PF.bytes from rfl)] at CT
          have CT1 := Lib.hid CT
          have HF8 := Lib.hid (HF7.out.below hb8)
          have HG8 := Lib.hid (HG7.out.below hb8)
          have hbel8 := below_tr hbel7 hb8
          clear CT ho hb8 CH2 HF7 HG7 HH7 hbel7
          go_wp2_with fail
          (with_reducible refine CT1.out.mono ?_); rintro e w9 ⟨rfl, hb9⟩
          have HF9 := Lib.hid (HF8.out.below hb9)
          have HG9 := Lib.hid (HG8.out.below hb9)
          have hbel9 := below_tr hbel8 hb9
          have CN := Lib.hid (names_any HF9.out HWL.out)
          clear hb9 CT1 HF8 HG8 HH8 hbel8
          go_wp2_with fail
          (with_reducible refine CN.out.mono ?_); rintro e w10 ⟨⟨nv, rfl, ho⟩, hb10⟩
          have hh : TextsIn (fun x => w9.heap.size ≤ x) w10 nv (G.files.map PF.name) := names_in ho
          obtain ⟨na, nc, rfl⟩ := hh.val
          rw [l1] at hh ⊢
          have HH10 := Lib.hid hh
          have HG10 := Lib.hid (HG9.out.below hb10)
          have hbel10 := below_tr hbel9 hb10
          have CN2 := Lib.hid (names_any HG10.out HI.out.1)
          clear hh ho hb10 CN HF9 HG9 hbel9
          go_wp2_with fail
          (with_reducible refine CN2.out.mono ?_); rintro e w11 ⟨⟨nv2, rfl, ho⟩, hb11⟩
          have hh := names_in ho
          obtain ⟨na2, nc2, rfl⟩ := hh.val
          rw [l1] at hh ⊢
          have HH11 := Lib.hid (HH10.out.below hb11)
          have CT := tsame_any _ _ _ _ w11 HH11.out.at hh.at (by rw [l1]; omega) (by rw [l1]; omega)
          rw [decide_eq_true (show G.files.map PF.name = G.files.map PF.name from rfl)] at CT
          have CT1 := Lib.hid CT
          have hbel11 := below_tr hbel10 hb11
          clear CT hh ho hb11 CN2 HG10 HH10 hbel10
          go_wp2_with fail
          (with_reducible refine CT1.out.mono ?_); rintro e w12 ⟨rfl, hb12⟩
          have hbel12 := below_tr hbel11 hb12
          have CD := Lib.hid (does_any w12)
          clear CT1 hb12 hbel11
          go_wp2_with fail
          (with_reducible refine CD.out.mono ?_); rintro e w13 ⟨rfl, hb13⟩
          go_wp2_with fail
          go_ret
          exact ⟨rfl, below_tr hbW (below_tr hbel12 hb13)⟩
end Go.Proofs.Ytmoaecicibjmnaa
