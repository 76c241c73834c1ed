/- SavesWhole: the step's law; the walk. -/
import Derived.Test.YtmoaecicibjmnaaSW
import Derived.Test.YtmoaecicibjmnaaSY
namespace Go.Proofs.Ytmoaecicibjmnaa
open Go.RowKit

abbrev flN : ByteArray := tx [102, 105, 108, 101]
theorem fl_good : ¬ badN flN := by decide +kernel
/-- What holds ahead of each Write. -/
structure Inv (c : Int) (F : FR) (q : Bool) (x : ByteArray) : Prop where
  snd : Sound F
  off : F.off = false
  lim : F.limit = c
  sync : Synced F
  here : q = true → (⟨flN, x, ByteArray.empty⟩ : PF) ∈ F.files
  gone : q = false → ∀ y ∈ F.files, y.name ≠ flN
theorem Inv.fail {c : Int} {F : FR} {q : Bool} {x : ByteArray} (h : Inv c F q x) (m : Nat) (hm : m < 1000) (keep : List Int) (hk : keep.length ≤ 1000000) : failE F (m : Int) = 0 ∧ Inv c (failF F (m : Int) keep) q x := by
  have hS : Sound (failF F (m : Int) keep) := h.snd.with' ⟨11, tx [], tx [], tx [], m, keep⟩ (by show (m : Int) ≤ _; omega) hk
  have hf : failF F (m : Int) keep = { F with left := (m : Int), keep := keep } := by unfold failF; rw [if_neg (by rw [h.off]; simp)]
  refine ⟨by unfold failE; rw [if_neg (by rw [h.off]; simp), if_neg (by omega)], hS, ?_, ?_, ?_, ?_, ?_⟩ <;> rw [hf]
  · exact h.off
  · exact h.lim
  · exact h.sync
  · exact h.here
  · exact h.gone
/-- The old one is there, or none. -/
structure Same (c : Int) (F : FR) (q : Bool) (x : ByteArray) : Prop where
  inv : Inv c F q x
  yes : q = true → loadE F flN = 0 ∧ loadS F flN = x
  no : q = false → loadE F flN = 4 ∧ loadS F flN = ⟨#[]⟩
theorem Inv.same {c : Int} {F : FR} {q : Bool} {x : ByteArray} (h : Inv c F q x) : Same c F q x := by
  refine ⟨h, fun hq => ?_, fun hq => ?_⟩
  · obtain ⟨h1, h2⟩ := load_mem h.snd h.off fl_good (h.here hq) rfl
    exact ⟨h1, h2.trans (bytes_flat _ _)⟩
  · have h1 := load_none h.snd h.off fl_good (h.gone hq)
    exact ⟨h1, by unfold loadS; rw [h1, if_neg (by omega)]⟩
theorem rest_inv {c : Int} {F G : FR} {q : Bool} {x : ByteArray} (h : Inv c F q x) (hS : Sound G) (ho : G.off = false) (hl : G.limit = F.limit) (hr : ∀ y : PF, y.name ≠ dN → (y ∈ G.files ↔ y ∈ F.files)) : Inv c G q x where
  snd := hS
  off := ho
  lim := hl.trans h.lim
  sync := fun y hy hn => h.sync y ((hr y hn).1 hy) hn
  here := fun hq => (hr _ (good_name fl_good).2).2 (h.here hq)
  gone := fun hq y hy hn => h.gone hq y ((hr y (by rw [hn]; exact (good_name fl_good).2)).1 hy) hn
theorem whole_step {c : Int} {F : FR} {q : Bool} {x : ByteArray} (h : Inv c F q x) (t : ByteArray) :
    (saveE F flN t = 0 ∧ Inv c (saveF F flN t) true t ∧ loadE (saveF F flN t) flN = 0 ∧ loadS (saveF F flN t) flN = t) ∨
    (saveE F flN t = 50 ∧ Same c (saveF F flN t) q x) ∨
    (saveE F flN t = 51 ∧ (saveF F flN t).off = true ∧ Same c (startF (saveF F flN t)) q x) := by
  have hS := h.snd.saved flN t
  rcases save_law h.snd h.off h.sync fl_good t with ⟨he, hd⟩ | ⟨he, hm, _, _⟩ | ⟨he, hc⟩
  · have hi : Inv c (saveF F flN t) true t := by
      refine ⟨hS, hd.off, hd.lim.trans h.lim, fun y hy hn => ?_, fun _ => (hd.files _).2 (.inl rfl), fun hq => by cases hq⟩
      rcases (hd.files y).1 hy with rfl | ⟨h1, _, _⟩
      · rfl
      · exact h.sync y h1 hn
    obtain ⟨h1, h2⟩ := hi.same.yes rfl
    exact .inl ⟨he, hi, h1, h2⟩
  · exact .inr (.inl ⟨he, (rest_inv h hm.snd hm.off hm.lim hm.rest).same⟩)
  · refine .inr (.inr ⟨he, hc.off, (rest_inv h hS.start (start_on _) ?_ ?_).same⟩)
    · unfold startF; rw [if_pos hc.off]; exact hc.lim
    · intro y hy; unfold startF; rw [if_pos hc.off]; exact hc.rest y hy
theorem box_two (w : World) (v0 v1 : Value) (t : TypeId) : ∃ W, w.alloc (.cells #[v0, v1] t) = W ∧ Below w.heap.size w W ∧ W.cell? ⟨w.heap.size, 0, none⟩ = some v0 ∧ W.cell? ⟨w.heap.size, 1, none⟩ = some v1 := by
  have h : (w.alloc (.cells #[v0, v1] t)).heap[w.heap.size]? = some (.cells #[v0, v1] t (0, 0)) := by rw [heap_alloc, if_pos rfl]
  exact ⟨_, rfl, (Below.refl _ _).alloc (Nat.le_refl _) _, cell_at h 0, cell_at h 1⟩
set_option maxRecDepth 100000 in
set_option maxHeartbeats 8000000 in
theorem savesWhole_walk (s : Int) (v : Value) (T : List ByteArray) (av kv : Value) (al kl : List Int) (w : World) (hs : 0 ≤ s ∧ s < 65536) (hT : TextsAt w v T) (hTb : T.length ≤ 9223372036854775807) (hTs : ∀ x ∈ T, x.size ≤ 9223372036854775807)
    (hA : U8sIn (fun k => k < w.heap.size) w av al) (hAl : al.length ≤ 9223372036854775807) (hAz : ∀ z ∈ al, 0 ≤ z ∧ z < 256) (hK : IntsIn (fun k => k < w.heap.size) w kv kl) (hKl : kl.length ≤ 9223372036854775807) :
    Calls Try.prog 12 #[.int .u16 s, v, .agg #[av, kv]] w fun e w' => e = .returned (.bool true) ∧ Below w.heap.size w w' := by
  have HT := Lib.hid hT
  have HTS := Lib.hid hTs
  have HA := Lib.hid hA
  have HAZ := Lib.hid hAz
  have HK := Lib.hid hK
  obtain ⟨ta, tc, rfl, hc⟩ := hT
  obtain ⟨aa, ac, rfl, hc2⟩ := hA
  obtain ⟨ka, kc, rfl⟩ := hK.val
  clear hc hc2 hTs hAz hK
  obtain ⟨n, hn⟩ : ∃ n, n = T.length := ⟨_, rfl⟩
  have HN := Lib.hid hn
  rw [← hn] at hTb HT ⊢
  obtain ⟨an, han⟩ : ∃ n, n = al.length := ⟨_, rfl⟩
  have HAN := Lib.hid han
  rw [← han] at hAl HA ⊢
  obtain ⟨kn, hkn⟩ : ∃ n, n = kl.length := ⟨_, rfl⟩
  have HKN := Lib.hid hkn
  rw [← hkn] at hKl HK ⊢
  clear hn han hkn
  obtain ⟨N, hN⟩ : ∃ N, N = w.heap.size := ⟨_, rfl⟩
  have HNN := Lib.hid hN
  rw [← hN]
  clear hN
  go_enter Try.func12, Try.ntmps12
  go_upto_region 1 with fail
  obtain ⟨W1, hW1, hbW, c0, c1⟩ := box_two w (.slice aa an ac) (.slice ka kn kc) 73
  rw [hW1]
  clear hW1
  go_quiet (fail)
  go_upto_region 2 with fail
  have hb2 : Below w.heap.size w (W1.drewN nq) := below_drewN hbW nq
  clear c0 c1 hbW
  generalize W1.drewN nq = W2 at *
  have HTW := Lib.hid (HT.out.below hb2)
  have CG := Lib.hid (great_any (.slice ta n tc) T W2 HTW.out (by rw [← HN.out]; exact hTb) HTS.out)
  have hbN : Below N w W2 := by rw [HNN.out]; exact hb2
  have hN2 : N ≤ W2.heap.size := Nat.le_trans (Nat.le_of_eq HNN.out) hb2.size
  clear hb2
  go_wp2_with fail
  (with_reducible refine CG.out.mono ?_); rintro e w3 ⟨⟨q, rfl, hq⟩, hb3⟩
  have hbel3 : Below N w w3 := hbN.trans (hb3.mono hN2)
  have hN3 : N ≤ w3.heap.size := Nat.le_trans hN2 hb3.size
  clear hb3 hbN CG
  cases q with
  | true =>
    clear hq
    go_wp2_with fail
    go_ret
    exact ⟨rfl, hbel3⟩
  | false =>
    have HQ := Lib.hid (hq rfl)
    clear hq
    by_cases h1 : 60 < an
    · go_wp2_with fail
      go_ret
      exact ⟨rfl, hbel3⟩
    by_cases h2 : 60 < kn
    · go_wp2_with fail
      go_ret
      exact ⟨rfl, hbel3⟩
    have CN := Lib.hid (new_any (1 + s) w3 (by omega) (by omega))
    go_wp2_with fail
    (with_reducible refine CN.out.mono ?_); rintro e w4 ⟨b, rfl, M, hf, hM, hb4⟩
    have hbel : Below N w w4 := hbel3.trans (hb4.mono hN3)
    have HF := Lib.hid hf
    have HM := Lib.hid (fun x (hx : M x) => Nat.le_trans hN3 (hM x hx))
    have HI : Hid (Inv (1 + s) (newF (1 + s)) false ⟨#[]⟩) := Lib.hid ⟨Sound.new (1 + s) (by omega) (by omega), rfl, rfl, (fun y hy => by cases hy), (fun hq => by cases hq), (fun _ y hy => by cases hy)⟩
    clear hf hM hb4 CN hbel3 hN3
    go_wp2_with fail
    go_loopw [13, 11, 12] (fun i th la wr => ∃ k q x, k ≤ n ∧ i = .int .i64 (k : Nat) ∧ th = .bool q ∧ la = .string x ∧ ∃ F M, Hid (FSAt M wr b F) ∧ Hid (Inv (1 + s) F q x) ∧ Hid (∀ x, M x → N ≤ x) ∧ Below N w wr) (fun i _ _ _ => n - (intOf i).toNat)
    case atStart => exact ⟨0, false, ⟨#[]⟩, Nat.zero_le _, rfl, rfl, rfl, _, M, HF, HI, HM, hbel⟩
    case round =>
      obtain ⟨k, q, x, hk, rfl, rfl, rfl, F, M, HF, HI, HM, hbel⟩ := hrel
      by_cases hlt : k < n
      · have hlt2 : k < T.length := by rw [← HN.out]; exact hlt
        obtain ⟨t, ht⟩ : ∃ t, T[k]? = some t := ⟨_, List.getElem?_eq_getElem hlt2⟩
        have hts : t.size ≤ 9223372036854775807 := HTS.out t (List.mem_of_getElem? ht)
        obtain ⟨a3, c3, hv3, hh⟩ := HT.out
        injection hv3 with e1 e2 e3
        clear e3
        subst e1
        obtain ⟨ub, uo, e1, hub, hcc⟩ := hh (by intro e; rw [e] at hlt2; simp at hlt2)
        subst e1
        have hcell : ∀ wx, Below N w wx → wx.cell? ⟨ub, uo + k, none⟩ = some (.string t) := fun wx hb => by
          rw [World.cell?_of_block (a := ⟨ub, uo + k, none⟩) (hb.block ub (by rw [HNN.out]; exact hub)), hcc k hlt2]
          rw [List.getElem?_eq_getElem hlt2] at ht
          injection ht with ht
          rw [ht]
        have HC := Lib.hid hcell
        have hNr : N ≤ wr.heap.size := Nat.le_trans (Nat.le_of_eq HNN.out) hbel.size
        clear hcc hh ht hlt2 e2 hcell
        rcases Nat.lt_or_ge k an with hkk | hkk
        case' inr =>
          obtain ⟨wF, hwF⟩ : ∃ wF, wF = wr := ⟨_, rfl⟩
          subst hwF
          obtain ⟨FF, hFF⟩ : ∃ X, X = F := ⟨_, rfl⟩
          subst hFF
          have HFF := HF
          have HIF := HI
          have HMF := HM
          have hbelF := hbel
          have hNF := hNr
          clear HF HI HM hbel hNr
          go_upto_region 13 with fail
        case' inl =>
          have hka : k < al.length := by rw [← HAN.out]; exact hkk
          obtain ⟨a4, c4, hv4, hh4⟩ := HA.out
          injection hv4 with e1 e2 e3
          clear e3
          subst e1
          obtain ⟨ab, ao, e1, hab, _, hca⟩ := hh4 (by intro e; rw [e] at hka; simp at hka)
          subst e1
          have z1 : wr.cell? ⟨ab, ao + k, none⟩ = some (.int .u8 (al[k]?.getD 0)) := by
            rw [World.cell?_of_block (a := ⟨ab, ao + k, none⟩) (hbel.block ab (by rw [HNN.out]; exact hab)), hca k hka]
          have hz : 0 ≤ al[k]?.getD 0 ∧ al[k]?.getD 0 < 256 := by
            rw [List.getElem?_eq_getElem hka]; exact HAZ.out _ (List.getElem_mem hka)
          generalize al[k]?.getD 0 = z at *
          obtain ⟨m, hm⟩ : ∃ m : Nat, m = z.toNat % 8 := ⟨_, rfl⟩
          have hz8 : z % 8 = (m : Int) := by omega
          have hm8 : m < 1000 := by omega
          have hkv : IntsIn (fun _ => True) wr (.slice ka kn kc) kl := HK.out.eq (by rw [← HNN.out]; exact hNr) fun y hy _ => ⟨hbel.block y (by rw [HNN.out]; exact hy), trivial⟩
          obtain ⟨f0, fi⟩ := HI.out.fail m hm8 kl (by rw [← HKN.out]; omega)
          have C0 := fail_any wr HF.out HI.out.snd (m : Int) hkv (by rw [← HKN.out]; omega)
          rw [f0] at C0
          have CF := Lib.hid C0
          generalize failF F (m : Int) kl = FF at *
          have HIF := Lib.hid fi
          clear C0 f0 fi hkv hm hca hh4 hka e2 HI
          go_wp2_with fail
          (with_reducible refine CF.out.mono ?_); rintro e wF ⟨rfl, MF, hfF, hMF, hoF⟩
          have hbelF : Below N w wF := hbel.trans (hoF.below hNr HM.out)
          have HFF := Lib.hid hfF
          have HMF := Lib.hid (fun x (hx : MF x) => (show N ≤ x by rcases hMF x hx with h | h; exact HM.out x h; exact Nat.le_trans hNr h))
          have hNF : N ≤ wF.heap.size := Nat.le_trans hNr hoF.size
          clear hfF hMF hoF CF HF HM hbel hNr z1 hz8
          go_upto_region 13 with fail
        all_goals
          clear hkk
          have q1 := HC.out wF hbelF
          have hN5 : True := trivial
          clear hN5
          have CW0 := write_any wF HFF.out HIF.out.snd flN t hts
          have hstep := whole_step HIF.out t
          have HSG := Lib.hid (HIF.out.snd.saved flN t)
          rcases hstep with ⟨hE, hi, l1, l2⟩ | ⟨hE, hsm⟩ | ⟨hE, hoff, hsm⟩
          · cases q with
            | false =>
              have hoff := hi.off
              have hl1 := Lib.hid l1
              have hl2 := Lib.hid l2
              have HI5 := Lib.hid hi
              clear hi l1 l2
              generalize saveF FF flN t = G at *
              rw [hE] at CW0
              have CW := Lib.hid CW0
              clear CW0 hE
              go_wp2_with fail
              (with_reducible refine CW.out.mono ?_); rintro e w5 ⟨rfl, M5, hf5, hM5, ho5⟩
              have hbel5 : Below N w w5 := hbelF.trans (ho5.below hNF HMF.out)
              have HF5 := Lib.hid hf5
              have HM5 := Lib.hid (fun x (hx : M5 x) => (show N ≤ x by rcases hM5 x hx with h | h; exact HMF.out x h; exact Nat.le_trans hNF h))
              have hN5 : N ≤ w5.heap.size := Nat.le_trans hNF ho5.size
              have q1 := HC.out w5 hbel5
              clear hf5 hM5 ho5 CW HFF hbelF HMF hNF 
              have CU : Hid (Calls Try.prog 26 #[.pointer (some ⟨b, 0, none⟩)] w5 fun e w' => e = .returned (.bool true) ∧ w' = w5) := by
                have C0 := up_any HF5.out HSG.out.lim
                rw [hoff] at C0
                exact Lib.hid C0
              clear hoff
              go_wp2_with fail
              (with_reducible refine CU.out.mono ?_); rintro e wx ⟨rfl, hwx⟩
              have hwx := hwx.symm
              subst hwx
              go_wp2_with fail
              (with_reducible refine CU.out.mono ?_); rintro e wx ⟨rfl, hwx⟩
              have hwx := hwx.symm
              subst hwx
              clear CU
              have C0 := load_any w5 HF5.out HSG.out flN
              rw [hl1.out, hl2.out] at C0
              have CL := Lib.hid C0
              clear C0
              go_wp2_with fail
              (with_reducible refine CL.out.mono ?_); rintro e w6 ⟨rfl, M6, hf6, hM6, ho6⟩
              have hbel6 : Below N w w6 := hbel5.trans (ho6.below hN5 HM5.out)
              have HF6 := Lib.hid hf6
              have HM6 := Lib.hid (fun x (hx : M6 x) => (show N ≤ x by rcases hM6 x hx with h | h; exact HM5.out x h; exact Nat.le_trans hN5 h))
              have hN6 : N ≤ w6.heap.size := Nat.le_trans hN5 ho6.size
              have q1 := HC.out w6 hbel6
              clear hf6 hM6 ho6 CL HF5 hbel5 HM5 hN5 
              go_wp2_with fail
              exact ⟨⟨k + 1, _, _, by omega, by go_num, rfl, rfl, _, _, HF6, Lib.hid HI5.out, HM6, hbel6⟩, by simp [intOf]; omega⟩
            | true =>
              have tb := toList_beq t x
              by_cases htx : t = x
              · rw [decide_eq_true htx] at tb
                clear htx
                have hoff := hi.off
                have hl1 := Lib.hid l1
                have hl2 := Lib.hid l2
                have HI5 := Lib.hid hi
                clear hi l1 l2
                generalize saveF FF flN t = G at *
                rw [hE] at CW0
                have CW := Lib.hid CW0
                clear CW0 hE
                go_wp2_with fail
                (with_reducible refine CW.out.mono ?_); rintro e w5 ⟨rfl, M5, hf5, hM5, ho5⟩
                have hbel5 : Below N w w5 := hbelF.trans (ho5.below hNF HMF.out)
                have HF5 := Lib.hid hf5
                have HM5 := Lib.hid (fun x (hx : M5 x) => (show N ≤ x by rcases hM5 x hx with h | h; exact HMF.out x h; exact Nat.le_trans hNF h))
                have hN5 : N ≤ w5.heap.size := Nat.le_trans hNF ho5.size
                have q1 := HC.out w5 hbel5
                clear hf5 hM5 ho5 CW HFF hbelF HMF hNF 
                have CU : Hid (Calls Try.prog 26 #[.pointer (some ⟨b, 0, none⟩)] w5 fun e w' => e = .returned (.bool true) ∧ w' = w5) := by
                  have C0 := up_any HF5.out HSG.out.lim
                  rw [hoff] at C0
                  exact Lib.hid C0
                clear hoff
                go_wp2_with fail
                (with_reducible refine CU.out.mono ?_); rintro e wx ⟨rfl, hwx⟩
                have hwx := hwx.symm
                subst hwx
                go_wp2_with fail
                (with_reducible refine CU.out.mono ?_); rintro e wx ⟨rfl, hwx⟩
                have hwx := hwx.symm
                subst hwx
                clear CU
                have C0 := load_any w5 HF5.out HSG.out flN
                rw [hl1.out, hl2.out] at C0
                have CL := Lib.hid C0
                clear C0
                go_wp2_with fail
                (with_reducible refine CL.out.mono ?_); rintro e w6 ⟨rfl, M6, hf6, hM6, ho6⟩
                have hbel6 : Below N w w6 := hbel5.trans (ho6.below hN5 HM5.out)
                have HF6 := Lib.hid hf6
                have HM6 := Lib.hid (fun x (hx : M6 x) => (show N ≤ x by rcases hM6 x hx with h | h; exact HM5.out x h; exact Nat.le_trans hN5 h))
                have hN6 : N ≤ w6.heap.size := Nat.le_trans hN5 ho6.size
                have q1 := HC.out w6 hbel6
                clear hf6 hM6 ho6 CL HF5 hbel5 HM5 hN5 
                go_wp2_with fail
                exact ⟨⟨k + 1, _, _, by omega, by go_num, rfl, rfl, _, _, HF6, Lib.hid HI5.out, HM6, hbel6⟩, by simp [intOf]; omega⟩
              · rw [decide_eq_false htx] at tb
                clear htx
                have hoff := hi.off
                have hl1 := Lib.hid l1
                have hl2 := Lib.hid l2
                have HI5 := Lib.hid hi
                clear hi l1 l2
                generalize saveF FF flN t = G at *
                rw [hE] at CW0
                have CW := Lib.hid CW0
                clear CW0 hE
                go_wp2_with fail
                (with_reducible refine CW.out.mono ?_); rintro e w5 ⟨rfl, M5, hf5, hM5, ho5⟩
                have hbel5 : Below N w w5 := hbelF.trans (ho5.below hNF HMF.out)
                have HF5 := Lib.hid hf5
                have HM5 := Lib.hid (fun x (hx : M5 x) => (show N ≤ x by rcases hM5 x hx with h | h; exact HMF.out x h; exact Nat.le_trans hNF h))
                have hN5 : N ≤ w5.heap.size := Nat.le_trans hNF ho5.size
                have q1 := HC.out w5 hbel5
                clear hf5 hM5 ho5 CW HFF hbelF HMF hNF 
                have CU : Hid (Calls Try.prog 26 #[.pointer (some ⟨b, 0, none⟩)] w5 fun e w' => e = .returned (.bool true) ∧ w' = w5) := by
                  have C0 := up_any HF5.out HSG.out.lim
                  rw [hoff] at C0
                  exact Lib.hid C0
                clear hoff
                go_wp2_with fail
                (with_reducible refine CU.out.mono ?_); rintro e wx ⟨rfl, hwx⟩
                have hwx := hwx.symm
                subst hwx
                go_wp2_with fail
                (with_reducible refine CU.out.mono ?_); rintro e wx ⟨rfl, hwx⟩
                have hwx := hwx.symm
                subst hwx
                clear CU
                have C0 := load_any w5 HF5.out HSG.out flN
                rw [hl1.out, hl2.out] at C0
                have CL := Lib.hid C0
                clear C0
                go_wp2_with fail
                (with_reducible refine CL.out.mono ?_); rintro e w6 ⟨rfl, M6, hf6, hM6, ho6⟩
                have hbel6 : Below N w w6 := hbel5.trans (ho6.below hN5 HM5.out)
                have HF6 := Lib.hid hf6
                have HM6 := Lib.hid (fun x (hx : M6 x) => (show N ≤ x by rcases hM6 x hx with h | h; exact HM5.out x h; exact Nat.le_trans hN5 h))
                have hN6 : N ≤ w6.heap.size := Nat.le_trans hN5 ho6.size
                have q1 := HC.out w6 hbel6
                clear hf6 hM6 ho6 CL HF5 hbel5 HM5 hN5 
                go_wp2_with fail
                exact ⟨⟨k + 1, _, _, by omega, by go_num, rfl, rfl, _, _, HF6, Lib.hid HI5.out, HM6, hbel6⟩, by simp [intOf]; omega⟩
          · cases q with
            | false =>
              have hoff := hsm.inv.off
              have HSM := Lib.hid hsm
              clear hsm
              generalize saveF FF flN t = G at *
              rw [hE] at CW0
              have CW := Lib.hid CW0
              clear CW0 hE
              go_wp2_with fail
              (with_reducible refine CW.out.mono ?_); rintro e w5 ⟨rfl, M5, hf5, hM5, ho5⟩
              have hbel5 : Below N w w5 := hbelF.trans (ho5.below hNF HMF.out)
              have HF5 := Lib.hid hf5
              have HM5 := Lib.hid (fun x (hx : M5 x) => (show N ≤ x by rcases hM5 x hx with h | h; exact HMF.out x h; exact Nat.le_trans hNF h))
              have hN5 : N ≤ w5.heap.size := Nat.le_trans hNF ho5.size
              have q1 := HC.out w5 hbel5
              clear hf5 hM5 ho5 CW HFF hbelF HMF hNF 
              have CU : Hid (Calls Try.prog 26 #[.pointer (some ⟨b, 0, none⟩)] w5 fun e w' => e = .returned (.bool true) ∧ w' = w5) := by
                have C0 := up_any HF5.out HSG.out.lim
                rw [hoff] at C0
                exact Lib.hid C0
              clear hoff
              go_wp2_with fail
              (with_reducible refine CU.out.mono ?_); rintro e wx ⟨rfl, hwx⟩
              have hwx := hwx.symm
              subst hwx
              go_wp2_with fail
              (with_reducible refine CU.out.mono ?_); rintro e wx ⟨rfl, hwx⟩
              have hwx := hwx.symm
              subst hwx
              clear CU
              have y1 := Lib.hid (HSM.out.no rfl)
              have C0 := load_any w5 HF5.out HSM.out.inv.snd flN
              rw [y1.out.1, y1.out.2] at C0
              have CL := Lib.hid C0
              clear C0
              go_wp2_with fail
              (with_reducible refine CL.out.mono ?_); rintro e w6 ⟨rfl, M6, hf6, hM6, ho6⟩
              have hbel6 : Below N w w6 := hbel5.trans (ho6.below hN5 HM5.out)
              have HF6 := Lib.hid hf6
              have HM6 := Lib.hid (fun x (hx : M6 x) => (show N ≤ x by rcases hM6 x hx with h | h; exact HM5.out x h; exact Nat.le_trans hN5 h))
              have hN6 : N ≤ w6.heap.size := Nat.le_trans hN5 ho6.size
              have q1 := HC.out w6 hbel6
              clear hf6 hM6 ho6 CL HF5 hbel5 HM5 hN5 
              go_wp2_with fail
              exact ⟨⟨k + 1, _, _, by omega, by go_num, rfl, rfl, _, _, HF6, Lib.hid ⟨HSM.out.inv.snd, HSM.out.inv.off, HSM.out.inv.lim, HSM.out.inv.sync, (fun h => by cases h), HSM.out.inv.gone⟩, HM6, hbel6⟩, by simp [intOf]; omega⟩
            | true =>
              have hoff := hsm.inv.off
              have HSM := Lib.hid hsm
              clear hsm
              generalize saveF FF flN t = G at *
              rw [hE] at CW0
              have CW := Lib.hid CW0
              clear CW0 hE
              go_wp2_with fail
              (with_reducible refine CW.out.mono ?_); rintro e w5 ⟨rfl, M5, hf5, hM5, ho5⟩
              have hbel5 : Below N w w5 := hbelF.trans (ho5.below hNF HMF.out)
              have HF5 := Lib.hid hf5
              have HM5 := Lib.hid (fun x (hx : M5 x) => (show N ≤ x by rcases hM5 x hx with h | h; exact HMF.out x h; exact Nat.le_trans hNF h))
              have hN5 : N ≤ w5.heap.size := Nat.le_trans hNF ho5.size
              have q1 := HC.out w5 hbel5
              clear hf5 hM5 ho5 CW HFF hbelF HMF hNF 
              have CU : Hid (Calls Try.prog 26 #[.pointer (some ⟨b, 0, none⟩)] w5 fun e w' => e = .returned (.bool true) ∧ w' = w5) := by
                have C0 := up_any HF5.out HSG.out.lim
                rw [hoff] at C0
                exact Lib.hid C0
              clear hoff
              go_wp2_with fail
              (with_reducible refine CU.out.mono ?_); rintro e wx ⟨rfl, hwx⟩
              have hwx := hwx.symm
              subst hwx
              go_wp2_with fail
              (with_reducible refine CU.out.mono ?_); rintro e wx ⟨rfl, hwx⟩
              have hwx := hwx.symm
              subst hwx
              clear CU
              have y1 := Lib.hid (HSM.out.yes rfl)
              have C0 := load_any w5 HF5.out HSM.out.inv.snd flN
              rw [y1.out.1, y1.out.2] at C0
              have CL := Lib.hid C0
              clear C0
              go_wp2_with fail
              (with_reducible refine CL.out.mono ?_); rintro e w6 ⟨rfl, M6, hf6, hM6, ho6⟩
              have hbel6 : Below N w w6 := hbel5.trans (ho6.below hN5 HM5.out)
              have HF6 := Lib.hid hf6
              have HM6 := Lib.hid (fun x (hx : M6 x) => (show N ≤ x by rcases hM6 x hx with h | h; exact HM5.out x h; exact Nat.le_trans hN5 h))
              have hN6 : N ≤ w6.heap.size := Nat.le_trans hN5 ho6.size
              have q1 := HC.out w6 hbel6
              clear hf6 hM6 ho6 CL HF5 hbel5 HM5 hN5 
              go_wp2_with fail
              exact ⟨⟨k + 1, _, _, by omega, by go_num, rfl, rfl, _, _, HF6, Lib.hid HSM.out.inv, HM6, hbel6⟩, by simp [intOf]; omega⟩
          · cases q with
            | false =>
              have HSM := Lib.hid hsm
              clear hsm
              have CS0 : ∀ (w5 : World) (M5 : Nat → Prop), FSAt M5 w5 b (saveF FF flN t) → Hid (Calls Try.prog 27 #[.pointer (some ⟨b, 0, none⟩)] w5 fun e w' => e = .returned (.int .i64 0) ∧ Turned M5 w5 w' b (startF (saveF FF flN t))) := fun w5 M5 hf5 => by
                have C0 := start_any w5 hf5 HSG.out
                unfold startE at C0
                rw [if_pos hoff] at C0
                exact Lib.hid C0
              generalize hR : startF (saveF FF flN t) = R at *
              clear hR
              generalize saveF FF flN t = G at *
              rw [hE] at CW0
              have CW := Lib.hid CW0
              clear CW0 hE
              go_wp2_with fail
              (with_reducible refine CW.out.mono ?_); rintro e w5 ⟨rfl, M5, hf5, hM5, ho5⟩
              have hbel5 : Below N w w5 := hbelF.trans (ho5.below hNF HMF.out)
              have HF5 := Lib.hid hf5
              have HM5 := Lib.hid (fun x (hx : M5 x) => (show N ≤ x by rcases hM5 x hx with h | h; exact HMF.out x h; exact Nat.le_trans hNF h))
              have hN5 : N ≤ w5.heap.size := Nat.le_trans hNF ho5.size
              have q1 := HC.out w5 hbel5
              clear hf5 hM5 ho5 CW HFF hbelF HMF hNF 
              have CU : Hid (Calls Try.prog 26 #[.pointer (some ⟨b, 0, none⟩)] w5 fun e w' => e = .returned (.bool false) ∧ w' = w5) := by
                have C0 := up_any HF5.out HSG.out.lim
                rw [hoff] at C0
                exact Lib.hid C0
              clear hoff
              go_wp2_with fail
              (with_reducible refine CU.out.mono ?_); rintro e wx ⟨rfl, hwx⟩
              have hwx := hwx.symm
              subst hwx
              go_wp2_with fail
              (with_reducible refine CU.out.mono ?_); rintro e wx ⟨rfl, hwx⟩
              have hwx := hwx.symm
              subst hwx
              clear CU
              have CS := CS0 w5 M5 HF5.out
              clear CS0
              go_wp2_with fail
              (with_reducible refine CS.out.mono ?_); rintro e w6 ⟨rfl, M6, hf6, hM6, ho6⟩
              have hbel6 : Below N w w6 := hbel5.trans (ho6.below hN5 HM5.out)
              have HF6 := Lib.hid hf6
              have HM6 := Lib.hid (fun x (hx : M6 x) => (show N ≤ x by rcases hM6 x hx with h | h; exact HM5.out x h; exact Nat.le_trans hN5 h))
              have hN6 : N ≤ w6.heap.size := Nat.le_trans hN5 ho6.size
              have q1 := HC.out w6 hbel6
              clear hf6 hM6 ho6 CS HF5 hbel5 HM5 hN5 
              have y1 := Lib.hid (HSM.out.no rfl)
              have C0 := load_any w6 HF6.out HSM.out.inv.snd flN
              rw [y1.out.1, y1.out.2] at C0
              have CL := Lib.hid C0
              clear C0
              go_wp2_with fail
              (with_reducible refine CL.out.mono ?_); rintro e w7 ⟨rfl, M7, hf7, hM7, ho7⟩
              have hbel7 : Below N w w7 := hbel6.trans (ho7.below hN6 HM6.out)
              have HF7 := Lib.hid hf7
              have HM7 := Lib.hid (fun x (hx : M7 x) => (show N ≤ x by rcases hM7 x hx with h | h; exact HM6.out x h; exact Nat.le_trans hN6 h))
              have hN7 : N ≤ w7.heap.size := Nat.le_trans hN6 ho7.size
              have q1 := HC.out w7 hbel7
              clear hf7 hM7 ho7 CL HF6 hbel6 HM6 hN6 
              go_wp2_with fail
              exact ⟨⟨k + 1, _, _, by omega, by go_num, rfl, rfl, _, _, HF7, Lib.hid ⟨HSM.out.inv.snd, HSM.out.inv.off, HSM.out.inv.lim, HSM.out.inv.sync, (fun h => by cases h), HSM.out.inv.gone⟩, HM7, hbel7⟩, by simp [intOf]; omega⟩
            | true =>
              have HSM := Lib.hid hsm
              clear hsm
              have CS0 : ∀ (w5 : World) (M5 : Nat → Prop), FSAt M5 w5 b (saveF FF flN t) → Hid (Calls Try.prog 27 #[.pointer (some ⟨b, 0, none⟩)] w5 fun e w' => e = .returned (.int .i64 0) ∧ Turned M5 w5 w' b (startF (saveF FF flN t))) := fun w5 M5 hf5 => by
                have C0 := start_any w5 hf5 HSG.out
                unfold startE at C0
                rw [if_pos hoff] at C0
                exact Lib.hid C0
              generalize hR : startF (saveF FF flN t) = R at *
              clear hR
              generalize saveF FF flN t = G at *
              rw [hE] at CW0
              have CW := Lib.hid CW0
              clear CW0 hE
              go_wp2_with fail
              (with_reducible refine CW.out.mono ?_); rintro e w5 ⟨rfl, M5, hf5, hM5, ho5⟩
              have hbel5 : Below N w w5 := hbelF.trans (ho5.below hNF HMF.out)
              have HF5 := Lib.hid hf5
              have HM5 := Lib.hid (fun x (hx : M5 x) => (show N ≤ x by rcases hM5 x hx with h | h; exact HMF.out x h; exact Nat.le_trans hNF h))
              have hN5 : N ≤ w5.heap.size := Nat.le_trans hNF ho5.size
              have q1 := HC.out w5 hbel5
              clear hf5 hM5 ho5 CW HFF hbelF HMF hNF 
              have CU : Hid (Calls Try.prog 26 #[.pointer (some ⟨b, 0, none⟩)] w5 fun e w' => e = .returned (.bool false) ∧ w' = w5) := by
                have C0 := up_any HF5.out HSG.out.lim
                rw [hoff] at C0
                exact Lib.hid C0
              clear hoff
              go_wp2_with fail
              (with_reducible refine CU.out.mono ?_); rintro e wx ⟨rfl, hwx⟩
              have hwx := hwx.symm
              subst hwx
              go_wp2_with fail
              (with_reducible refine CU.out.mono ?_); rintro e wx ⟨rfl, hwx⟩
              have hwx := hwx.symm
              subst hwx
              clear CU
              have CS := CS0 w5 M5 HF5.out
              clear CS0
              go_wp2_with fail
              (with_reducible refine CS.out.mono ?_); rintro e w6 ⟨rfl, M6, hf6, hM6, ho6⟩
              have hbel6 : Below N w w6 := hbel5.trans (ho6.below hN5 HM5.out)
              have HF6 := Lib.hid hf6
              have HM6 := Lib.hid (fun x (hx : M6 x) => (show N ≤ x by rcases hM6 x hx with h | h; exact HM5.out x h; exact Nat.le_trans hN5 h))
              have hN6 : N ≤ w6.heap.size := Nat.le_trans hN5 ho6.size
              have q1 := HC.out w6 hbel6
              clear hf6 hM6 ho6 CS HF5 hbel5 HM5 hN5 
              have y1 := Lib.hid (HSM.out.yes rfl)
              have C0 := load_any w6 HF6.out HSM.out.inv.snd flN
              rw [y1.out.1, y1.out.2] at C0
              have CL := Lib.hid C0
              clear C0
              go_wp2_with fail
              (with_reducible refine CL.out.mono ?_); rintro e w7 ⟨rfl, M7, hf7, hM7, ho7⟩
              have hbel7 : Below N w w7 := hbel6.trans (ho7.below hN6 HM6.out)
              have HF7 := Lib.hid hf7
              have HM7 := Lib.hid (fun x (hx : M7 x) => (show N ≤ x by rcases hM7 x hx with h | h; exact HM6.out x h; exact Nat.le_trans hN6 h))
              have hN7 : N ≤ w7.heap.size := Nat.le_trans hN6 ho7.size
              have q1 := HC.out w7 hbel7
              clear hf7 hM7 ho7 CL HF6 hbel6 HM6 hN6 
              go_wp2_with fail
              exact ⟨⟨k + 1, _, _, by omega, by go_num, rfl, rfl, _, _, HF7, Lib.hid HSM.out.inv, HM7, hbel7⟩, by simp [intOf]; omega⟩
      · obtain rfl : k = n := by omega
        have CD := Lib.hid (sdoes_any wr)
        have hNr : N ≤ wr.heap.size := Nat.le_trans (Nat.le_of_eq HNN.out) hbel.size
        go_wp2_with fail
        (with_reducible refine CD.out.mono ?_); rintro e w5 ⟨rfl, hb5⟩
        go_wp2_with fail
        go_ret
        exact ⟨rfl, hbel.trans (hb5.mono hNr)⟩
end Go.Proofs.Ytmoaecicibjmnaa
