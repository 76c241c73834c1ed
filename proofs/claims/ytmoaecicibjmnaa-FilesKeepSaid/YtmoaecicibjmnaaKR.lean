/- FilesKeep: the walk. -/
import Derived.Test.YtmoaecicibjmnaaKQ
import Derived.BigQuiet
namespace Go.Proofs.Ytmoaecicibjmnaa
open Go.RowKit

set_option maxRecDepth 100000 in
set_option maxHeartbeats 8000000 in
theorem filesKeep_walk (s : Int) (v : Value) (L : List DoR) (kv : Value) (keep : List Int) (w : World) (hs : 0 ≤ s ∧ s < 65536) (h : DosAt (fun k => k < w.heap.size) w v L) (hb : L.length ≤ 9223372036854775807) (hd : ∀ d ∈ L, DoOK d)
    (hk : IntsIn (fun k => k < w.heap.size) w kv keep) (hkl : keep.length ≤ 9223372036854775807) (hkz : ∀ x ∈ keep, -9223372036854775808 ≤ x ∧ x ≤ 9223372036854775807) :
    Calls Try.prog 7 #[.int .u16 s, v, kv] w fun e w' => e = .returned (.bool true) ∧ Below w.heap.size w w' := by
  have CM := Lib.hid (much5_any v L w h hb hd)
  have HL := Lib.hid h
  have HD := Lib.hid hd
  have HK := Lib.hid hk
  have HKZ := Lib.hid hkz
  obtain ⟨a, c, rfl, hc⟩ := h
  obtain ⟨ka, kc, rfl⟩ := hk.val
  clear hc hd hk hkz
  obtain ⟨n, hn⟩ : ∃ n, n = L.length := ⟨_, rfl⟩
  have HN := Lib.hid hn
  rw [← hn] at hb CM HL ⊢
  clear hn
  obtain ⟨kn, hkn⟩ : ∃ n, n = keep.length := ⟨_, rfl⟩
  have HKN := Lib.hid hkn
  rw [← hkn] at hkl HK ⊢
  clear hkn
  obtain ⟨N, hN⟩ : ∃ N, N = w.heap.size := ⟨_, rfl⟩
  have HNN := Lib.hid hN
  rw [← hN]
  clear hN
  go_enter Try.func7, Try.ntmps7
  go_wp2_with fail
  (with_reducible refine CM.out.mono ?_); rintro e w1 ⟨⟨q, rfl, hq⟩, hb1⟩
  rw [← HNN.out] at hb1
  cases q with
  | true =>
    clear hq
    go_wp2_with fail
    go_ret
    exact ⟨rfl, hb1⟩
  | false =>
    have HQ := Lib.hid (hq rfl)
    clear hq CM
    by_cases h60 : 60 < kn
    · go_wp2_with fail
      go_ret
      exact ⟨rfl, hb1⟩
    have hN1 : N ≤ w1.heap.size := Nat.le_trans (Nat.le_of_eq HNN.out) hb1.size
    have hL1 : DosAt (fun k => k < w1.heap.size) w1 (.slice a n c) L := HL.out.eq (HNN.out ▸ hb1).size fun k hk _ => ⟨(HNN.out ▸ hb1).block k hk, Nat.lt_of_lt_of_le hk (HNN.out ▸ hb1).size⟩
    have CA := Lib.hid (after_any s _ L w1 hs hL1 (by rw [← HN.out]; exact hb) (fun d hd => ⟨HD.out d hd, by have := (HQ.out.2 d hd).K; omega⟩))
    have hfr0 : Fresh (1 + s) (afterF (1 + s) L) := (after_fresh (1 + s) (by omega) (by omega) L (fun d hd => ⟨(HD.out d hd).N2, by have := (HQ.out.2 d hd).K; omega⟩)).start
    have hon : (afterF (1 + s) L).off = false := start_on _
    generalize afterF (1 + s) L = F at *
    have HFr := Lib.hid hfr0
    have HON := Lib.hid hon
    clear hfr0 hon hL1
    go_wp2_with fail
    (with_reducible refine CA.out.mono ?_); rintro e w2 ⟨b, rfl, M, hf, hM, hb2⟩
    have hbel2 : Below N w w2 := hb1.trans (hb2.mono hN1)
    have hN2 : N ≤ w2.heap.size := Nat.le_trans hN1 hb2.size
    have HM := Lib.hid (fun x (hx : M x) => Nat.le_trans hN1 (hM x hx))
    have hk2 : IntsIn (fun k => ¬ M k) w2 (.slice ka kn kc) keep := HK.out.eq (HNN.out ▸ hbel2).size fun k hk hk' => ⟨(HNN.out ▸ hbel2).block k hk, fun hm => by have := HM.out k hm; rw [HNN.out] at this; omega⟩
    have HK2 := Lib.hid hk2
    have HF2 := Lib.hid hf
    have CN := Lib.hid (names_any hf HFr.out.sound)
    clear hk2 hf hM hb2 CA hb1 hN1 HK
    go_wp2_with fail
    (with_reducible refine CN.out.mono ?_); rintro e w3 ⟨⟨nv, rfl, ho⟩, hb3⟩
    have HF3 := Lib.hid (HF2.out.below hb3)
    have HT3 := Lib.hid ((names_in ho).off HF2.out.lt)
    have HK3 := Lib.hid (HK2.out.later hb3)
    have hbel3 : Below N w w3 := hbel2.trans (hb3.mono hN2)
    have hN3 : N ≤ w3.heap.size := Nat.le_trans hN2 hb3.size
    have CU := Lib.hid (unsynced_any HF3.out HFr.out.sound)
    clear ho hb3 CN HF2 HK2 hbel2 hN2
    go_wp2_with fail
    (with_reducible refine CU.out.mono ?_); rintro e w4 ⟨⟨uv, rfl, ho⟩, hb4⟩
    have HF4 := Lib.hid (HF3.out.below hb4)
    have HT4 := Lib.hid (HT3.out.below hb4)
    have HU4 := Lib.hid ((ints_in ho).off HF3.out.lt)
    have HK4 := Lib.hid (HK3.out.later hb4)
    have hbel4 : Below N w w4 := hbel3.trans (hb4.mono hN3)
    have hN4 : N ≤ w4.heap.size := Nat.le_trans hN3 hb4.size
    have CH := Lib.hid (held_any w4 HF4.out HFr.out.sound HON.out)
    clear ho hb4 CU HF3 HT3 HK3 hbel3 hN3
    go_wp2_with fail
    (with_reducible refine CH.out.mono ?_); rintro e w5 ⟨⟨hv, rfl, ho⟩, hb5⟩
    have HF5 := Lib.hid (HF4.out.below hb5)
    have HT5 := Lib.hid (HT4.out.below hb5)
    have HU5 := Lib.hid (HU4.out.later hb5)
    have HH5 := Lib.hid (ho.off HF4.out.lt)
    have HK5 := Lib.hid (HK4.out.later hb5)
    have hbel5 : Below N w w5 := hbel4.trans (hb5.mono hN4)
    have hN5 : N ≤ w5.heap.size := Nat.le_trans hN4 hb5.size
    clear ho hb5 CH HF4 HT4 HU4 HK4 hbel4 hN4
    obtain ⟨q, hq⟩ : ∃ q, q = F.files.length := ⟨_, rfl⟩
    have HQQ := Lib.hid hq
    have l1 : (F.files.map PF.name).length = q := by rw [List.length_map]; exact hq.symm
    have l2 : (F.files.map fun x => ((x.air.size : Nat) : Int)).length = q := by rw [List.length_map]; exact hq.symm
    have l3 : (F.files.map PF.bytes).length = q := by rw [List.length_map]; exact hq.symm
    have hcnt : q ≤ 32 := by rw [hq]; exact HFr.out.sound.cnt
    obtain ⟨na, nc, rfl⟩ := HT5.out.val
    obtain ⟨ua, uc, rfl⟩ := HU5.out.val
    obtain ⟨ha, hc, rfl⟩ := HH5.out.val
    rw [l1] at HT5
    rw [l2] at HU5
    rw [l3] at HH5
    simp only [l1, l2, l3]
    clear l1 l2 l3 hq
    have hE0 : crashE F = 0 := by unfold crashE; rw [if_neg (by rw [HON.out]; simp)]
    have hG0 : crashG F keep = crashF F keep := by unfold crashG; rw [if_neg (by rw [HON.out]; simp)]
    have CC0 := crash_any w5 HF5.out HFr.out.sound (v := .slice ka kn kc) HK5.out (by rw [← HKN.out]; omega)
    rw [hE0, hG0] at CC0
    have CC := Lib.hid CC0
    have HS6 := Lib.hid (HFr.out.sound.crash keep)
    clear CC0 hE0 hG0
    go_wp2_with fail
    (with_reducible refine CC.out.mono ?_); rintro e w6 ⟨rfl, M6, hf6, hM6, ho6⟩
    have HF6 := Lib.hid hf6
    have HM6 := Lib.hid (fun x (hx : M6 x) => (show N ≤ x by rcases hM6 x hx with h | h; exact HM.out x h; exact Nat.le_trans hN5 h))
    have HT6 := Lib.hid (HT5.out.turn hM6 ho6)
    have HU6 := Lib.hid (HU5.out.turn hM6 ho6)
    have HH6 := Lib.hid (HH5.out.turn hM6 ho6)
    have HK6 := Lib.hid (HK5.out.turn hM6 ho6)
    have hbel6 : Below N w w6 := hbel5.trans (ho6.below hN5 HM.out)
    have hN6 : N ≤ w6.heap.size := Nat.le_trans hN5 ho6.size
    have CU : Hid (Calls Try.prog 26 #[.pointer (some ⟨b, 0, none⟩)] w6 fun e w' => e = .returned (.bool false) ∧ w' = w6) := Lib.hid (up_any HF6.out HS6.out.lim)
    have CS : Hid (Calls Try.prog 27 #[.pointer (some ⟨b, 0, none⟩)] w6 fun e w' => e = .returned (.int .i64 0) ∧ Turned M6 w6 w' b (startF (crashF F keep))) := Lib.hid (start_any w6 HF6.out HS6.out)
    clear hf6 hM6 ho6 CC HF5 HT5 HU5 HH5 HK5 hbel5 hN5 HM
    go_wp2_with fail
    (with_reducible refine CU.out.mono ?_); rintro e w6' ⟨rfl, rfl⟩
    go_wp2_with fail
    (with_reducible refine CS.out.mono ?_); rintro e w7 ⟨rfl, M7, hf7, hM7, ho7⟩
    have HS7 := Lib.hid HS6.out.start
    have hR : (startF (crashF F keep)).files = crashL F.files keep ∧ (startF (crashF F keep)).off = false := ⟨rfl, rfl⟩
    generalize startF (crashF F keep) = R at *
    have HR := Lib.hid hR
    have HF7 := Lib.hid hf7
    have HM7 := Lib.hid (fun x (hx : M7 x) => (show N ≤ x by rcases hM7 x hx with h | h; exact HM6.out x h; exact Nat.le_trans hN6 h))
    have HT7 := Lib.hid (HT6.out.turn hM7 ho7)
    have HU7 := Lib.hid (HU6.out.turn hM7 ho7)
    have HH7 := Lib.hid (HH6.out.turn hM7 ho7)
    have HK7 := Lib.hid (HK6.out.turn hM7 ho7)
    have hbel7 : Below N w w7 := hbel6.trans (ho7.below hN6 HM6.out)
    have hN7 : N ≤ w7.heap.size := Nat.le_trans hN6 ho7.size
    clear hf7 hM7 ho7 CS CU HF6 HT6 HU6 HH6 HK6 hbel6 hN6 HM6 HS6 hR
    go_wp2_with fail
    go_loopw [12, 11] (fun i out wr => ∃ k : Nat, k ≤ q ∧ i = .int .i64 (k : Nat) ∧ Hid (wr.ownsRow w7.heap.size 9 1 out k (((crashL F.files keep).take k).map fun x => Value.string x.bytes)) ∧ Below w7.heap.size w7 wr) (fun i _ _ => q - (intOf i).toNat)
    case atStart => exact ⟨0, Nat.zero_le _, rfl, Lib.hid (World.ownsRow_nil _ _ _ _), Below.refl _ _⟩
    case round =>
      obtain ⟨k, hkq, rfl, hown, hbel⟩ := hrel
      by_cases hlt : k < q
      · obtain ⟨x, hx⟩ := get_of_lt F.files k (by rw [← HQQ.out]; exact hlt)
        have hy := crash_get F.files keep hx
        have hlb := left_bytes x keep k
        have hts : (((crashL F.files keep).take (k + 1)).map fun x => Value.string x.bytes) = (((crashL F.files keep).take k).map fun x => Value.string x.bytes) ++ [Value.string (x.bytes.extract 0 (leftN x keep k))] := by
          rw [List.take_add_one, hy, List.map_append, hlb]; rfl
        have HTS := Lib.hid hts
        have hsz := HFr.out.sound.size (List.mem_of_getElem? hx)
        have hXs : x.bytes.size = x.pl.size + x.air.size := ByteArray.size_append
        obtain ⟨a3, c3, hv3, hh⟩ := HH7.out
        injection hv3 with e1 e2 e3
        clear e3
        subst e1
        obtain ⟨hb3, ho3, e1, hhb, _, hcc⟩ := hh (by intro e; rw [e] at e2; simp at e2; omega)
        subst e1
        obtain ⟨a4, c4, hv4, hh4⟩ := HU7.out
        injection hv4 with e1 e5 e3
        clear e3
        subst e1
        obtain ⟨ub, uo, e1, hub, _, hcu⟩ := hh4 (by intro e; rw [e] at e5; simp at e5; omega)
        subst e1
        have q1 : wr.cell? ⟨hb3, ho3 + k, none⟩ = some (.string x.bytes) := by
          rw [World.cell?_of_block (a := ⟨hb3, ho3 + k, none⟩) (hbel.block hb3 hhb), hcc k (by omega)]
          have h1 : (F.files.map PF.bytes)[k]? = some x.bytes := by rw [List.getElem?_map, hx]; rfl
          rw [List.getElem?_eq_getElem (by omega)] at h1
          injection h1 with h1
          rw [h1]
        have q2 : wr.cell? ⟨ub, uo + k, none⟩ = some (.int .i64 ((x.air.size : Nat) : Int)) := by
          rw [World.cell?_of_block (a := ⟨ub, uo + k, none⟩) (hbel.block ub hub), hcu k (by omega), List.getElem?_map, hx]; rfl
        have hq3 : k < kn → ∃ kb ko, ka = some ⟨kb, ko, none⟩ ∧ wr.cell? ⟨kb, ko + k, none⟩ = some (.int .i64 (keepAt keep k)) := fun hkk => by
          obtain ⟨a5, c5, hv5, hh5⟩ := HK7.out
          injection hv5 with e1 e6 e3
          obtain ⟨kb, ko, e7, hkb, _, hck⟩ := hh5 (by intro e; rw [e] at e6; simp at e6; omega)
          refine ⟨kb, ko, e1.trans e7, ?_⟩
          rw [World.cell?_of_block (a := ⟨kb, ko + k, none⟩) (hbel.block kb hkb), hck k (by omega)]; rfl
        have hz1 : k < kn → -9223372036854775808 ≤ keepAt keep k ∧ keepAt keep k ≤ 9223372036854775807 := fun hkk => by
          have hlt' : k < keep.length := by rw [← HKN.out]; exact hkk
          have : keepAt keep k = keep[k] := by unfold keepAt; rw [List.getElem?_eq_getElem hlt']; rfl
          rw [this]; exact HKZ.out _ (List.getElem_mem hlt')
        have hz0 : ¬ k < kn → keepAt keep k = 0 := fun hkk => by unfold keepAt; rw [List.getElem?_eq_none (by rw [← HKN.out]; omega)]; rfl
        have hTT : leftN x keep k = x.pl.size + min (keepAt keep k).toNat x.air.size := rfl
        obtain ⟨T, hT⟩ : ∃ T, T = leftN x keep k := ⟨_, rfl⟩
        rw [← hT] at hTT HTS
        obtain ⟨X, hX⟩ : ∃ X, X = x.bytes := ⟨_, rfl⟩
        rw [← hX] at HTS q1 hXs
        generalize keepAt keep k = z at *
        generalize x.pl.size = p at *
        generalize x.air.size = a' at *
        have HQ3 := Lib.hid hq3
        have hsub : ((X.size : Nat) : Int) - (a' : Int) = (p : Int) := by omega
        clear hcc hcu hh hh4 hx hy hlb hts hT hX hq3 e2 e5
        go_upto_region 13 with fail
        go_quiet (fail)
        have q1d : (wr.drewN nq).cell? ⟨hb3, ho3 + k, none⟩ = _ := q1
        have q2d : (wr.drewN nq).cell? ⟨ub, uo + k, none⟩ = _ := q2
        have HQD : Hid (k < kn → ∃ kb ko, ka = some ⟨kb, ko, none⟩ ∧ (wr.drewN nq).cell? ⟨kb, ko + k, none⟩ = some (.int .i64 z)) := HQ3
        have hbel1 := below_drewN hbel nq
        have hown1 := Lib.hid (own_below hown.out (below_drewN (Below.refl _ _) nq))
        clear q1 q2 HQ3 hown hbel
        generalize wr.drewN nq = wd at *
        by_cases hkk : k < kn
        · obtain ⟨kb, ko, rfl, q3⟩ := HQD.out hkk
          have hzb := hz1 hkk
          clear hz0 hz1 HQD
          by_cases hz : 0 < z
          · obtain ⟨r, hr⟩ : ∃ r, r = min z.toNat a' := ⟨_, rfl⟩
            have hmin : min z (a' : Int) = (r : Int) := by omega
            have hsum : (p : Int) + (r : Int) = (T : Int) := by omega
            have hTX : T ≤ X.size := by omega
            have hsz2 : X.size ≤ 1048576 := by omega
            have hzl : decide (0 < z) = true := by simpa using hz
            clear hTT hr
            go_upto_region 17 with fail
            go_region
            have hown2 : Hid (wd.drew.ownsRow w7.heap.size 9 1 u11 k (((crashL F.files keep).take k).map fun x => Value.string x.bytes)) := Lib.hid (own_below hown1.out (Below.refl _ _).drew)
            have hbel2 := hbel1.drew
            have hB2 : w7.heap.size ≤ (wd.drew.alloc (.cells #[.string (X.extract 0 T)] 9)).heap.size := by rw [size_alloc]; have := hbel2.size; omega
            go_wp2_with (at_builtin; refine wpList_append_one rfl (.tmp 106) (.tmp 113) 30 rfl 9 (.string ByteArray.empty) 16 (by kernel_rfl) (by kernel_rfl) rfl w7.heap.size u11 k _ (by simp [Act.eval]) (hown2.out.alloc _) wd.drew.heap.size 1 (by simp [Act.eval]) (.string (X.extract 0 T)) (new_one _ _ _) rfl (by omega) (by decide) hB2 ?_; intro g7 c7 w8 hown8 hgr8 hb8)
            go_roundw
            case rel => exact ⟨k + 1, by omega, by go_num, Lib.hid (by rw [HTS.out]; exact hown8.out), (hbel2.alloc hbel2.size _).trans hb8⟩
            case measure => simp [intOf]; omega
          · have hTp : T = p := by omega
            subst hTp
            have hTX : T ≤ X.size := by omega
            have hsz2 : X.size ≤ 1048576 := by omega
            have hown2 := hown1
            have hbel2 := hbel1
            clear hTT
            have hB2 : w7.heap.size ≤ (wd.alloc (.cells #[.string (X.extract 0 T)] 9)).heap.size := by rw [size_alloc]; have := hbel2.size; omega
            go_wp2_with (at_builtin; refine wpList_append_one rfl (.tmp 106) (.tmp 113) 30 rfl 9 (.string ByteArray.empty) 16 (by kernel_rfl) (by kernel_rfl) rfl w7.heap.size u11 k _ (by simp [Act.eval]) (hown2.out.alloc _) wd.heap.size 1 (by simp [Act.eval]) (.string (X.extract 0 T)) (new_one _ _ _) rfl (by omega) (by decide) hB2 ?_; intro g7 c7 w8 hown8 hgr8 hb8)
            go_roundw
            case rel => exact ⟨k + 1, by omega, by go_num, Lib.hid (by rw [HTS.out]; exact hown8.out), (hbel2.alloc hbel2.size _).trans hb8⟩
            case measure => simp [intOf]; omega
        · have hTp : T = p := by have := hz0 hkk; subst this; omega
          subst hTp
          have hTX : T ≤ X.size := by omega
          have hsz2 : X.size ≤ 1048576 := by omega
          have hown2 := hown1
          have hbel2 := hbel1
          clear hTT hz0 hz1 HQD
          have hB2 : w7.heap.size ≤ (wd.alloc (.cells #[.string (X.extract 0 T)] 9)).heap.size := by rw [size_alloc]; have := hbel2.size; omega
          go_wp2_with (at_builtin; refine wpList_append_one rfl (.tmp 106) (.tmp 113) 30 rfl 9 (.string ByteArray.empty) 16 (by kernel_rfl) (by kernel_rfl) rfl w7.heap.size u11 k _ (by simp [Act.eval]) (hown2.out.alloc _) wd.heap.size 1 (by simp [Act.eval]) (.string (X.extract 0 T)) (new_one _ _ _) rfl (by omega) (by decide) hB2 ?_; intro g7 c7 w8 hown8 hgr8 hb8)
          go_roundw
          case rel => exact ⟨k + 1, by omega, by go_num, Lib.hid (by rw [HTS.out]; exact hown8.out), (hbel2.alloc hbel2.size _).trans hb8⟩
          case measure => simp [intOf]; omega
      · obtain rfl : k = q := by omega
        have hlen : (crashL F.files keep).length = k := by rw [crash_len]; exact HQQ.out.symm
        have hown1 := hown.out
        rw [List.take_of_length_le (by rw [hlen]; exact Nat.le_refl _)] at hown1
        have hwl : ((crashL F.files keep).map PF.bytes).length = k := by rw [List.length_map]; exact hlen
        have hW : TextsIn (fun x => ¬ M7 x) wr u11 ((crashL F.files keep).map PF.bytes) := (texts_in (e := 9) (by rw [hwl, List.map_map]; exact hown1)).off HF7.out.lt
        have HW := Lib.hid hW
        obtain ⟨wa, wc, rfl⟩ := hW.val
        rw [hwl] at HW ⊢
        have HF8 := Lib.hid (HF7.out.below hbel)
        have HT8 := Lib.hid (HT7.out.below hbel)
        have hbel8 : Below N w wr := hbel7.trans (hbel.mono hN7)
        have hN8 : N ≤ wr.heap.size := Nat.le_trans hN7 hbel.size
        have l1 : (F.files.map PF.name).length = k := by rw [List.length_map]; exact HQQ.out.symm
        have hnm : R.files.map PF.name = F.files.map PF.name := by rw [HR.out.1, crash_names]
        have hby : R.files.map PF.bytes = (crashL F.files keep).map PF.bytes := by rw [HR.out.1]
        have HNM := Lib.hid hnm
        have HBY := Lib.hid hby
        have HL1 := Lib.hid l1
        have HWL := Lib.hid hwl
        have CN := Lib.hid (names_any HF8.out HS7.out)
        clear hown1 hW hlen hwl l1 hnm hby hown HF7 HT7 HU7 HH7 HK7 hbel7 hN7
        go_wp2_with fail
        (with_reducible refine CN.out.mono ?_); rintro e w9 ⟨⟨nv2, rfl, ho⟩, hb9⟩
        have hn9 : TextsIn (fun _ => True) w9 nv2 (F.files.map PF.name) := by
          rw [← HNM.out]; exact (names_in ho).eq (Nat.le_refl _) fun _ _ _ => ⟨rfl, trivial⟩
        obtain ⟨n2, nc2, rfl⟩ := hn9.val
        rw [HL1.out] at hn9 ⊢
        have HF9 := Lib.hid (HF8.out.below hb9)
        have HT9 := Lib.hid (HT8.out.below hb9)
        have HW9 := Lib.hid (HW.out.below hb9)
        have hbel9 := hbel8.trans (hb9.mono hN8)
        have hN9 : N ≤ w9.heap.size := Nat.le_trans hN8 hb9.size
        have CT := Lib.hid (tsame_any _ _ _ _ w9 hn9.at HT9.out.at (by rw [HL1.out]; omega) (by rw [HL1.out]; omega))
        rw [decide_eq_true (show F.files.map PF.name = F.files.map PF.name from rfl)] at CT
        clear ho hn9 hb9 HF8 HT8 HW CN hbel8 hN8
        go_wp2_with fail
        (with_reducible refine CT.out.mono ?_); rintro e w10 ⟨rfl, hb10⟩
        have HF10 := Lib.hid (HF9.out.below hb10)
        have HW10 := Lib.hid (HW9.out.below hb10)
        have hbel10 := hbel9.trans (hb10.mono hN9)
        have hN10 : N ≤ w10.heap.size := Nat.le_trans hN9 hb10.size
        have CH := Lib.hid (held_any w10 HF10.out HS7.out HR.out.2)
        clear hb10 HF9 HW9 HT9 CT hbel9 hN9
        go_wp2_with fail
        (with_reducible refine CH.out.mono ?_); rintro e w11 ⟨⟨hv2, rfl, ho⟩, hb11⟩
        rw [HBY.out] at ho
        obtain ⟨h2, hc2, rfl⟩ := ho.val
        rw [HWL.out] at ho ⊢
        have HF11 := Lib.hid (HF10.out.below hb11)
        have HW11 := Lib.hid (HW10.out.below hb11)
        have hbel11 := hbel10.trans (hb11.mono hN10)
        have hN11 : N ≤ w11.heap.size := Nat.le_trans hN10 hb11.size
        have CT := Lib.hid (tsame_any _ _ _ _ w11 ho.at HW11.out.at (by rw [HWL.out]; omega) (by rw [HWL.out]; omega))
        rw [decide_eq_true (show (crashL F.files keep).map PF.bytes = (crashL F.files keep).map PF.bytes from rfl)] at CT
        clear ho hb11 HF10 HW10 CH hbel10 hN10
        go_wp2_with fail
        (with_reducible refine CT.out.mono ?_); rintro e w12 ⟨rfl, hb12⟩
        have HF12 := Lib.hid (HF11.out.below hb12)
        have HW12 := Lib.hid (HW11.out.below hb12)
        have hbel12 := hbel11.trans (hb12.mono hN11)
        have hN12 : N ≤ w12.heap.size := Nat.le_trans hN11 hb12.size
        have hE0 : crashE R = 0 := by unfold crashE; rw [if_neg (by rw [HR.out.2]; simp)]
        have hG0 : crashG R [] = crashF R [] := by unfold crashG; rw [if_neg (by rw [HR.out.2]; simp)]
        have CC0 := crash_any w12 HF12.out HS7.out (v := .slice none 0 0) (l := []) ⟨none, 0, rfl, fun h => absurd rfl h⟩ (Nat.zero_le _)
        rw [hE0, hG0] at CC0
        have CC := Lib.hid CC0
        have HS13 := Lib.hid (HS7.out.crash [])
        clear CC0 hE0 hG0 hb12 HF11 HW11 CT hbel11 hN11
        go_wp2_with fail
        (with_reducible refine CC.out.mono ?_); rintro e w13 ⟨rfl, M13, hf13, hM13, ho13⟩
        have HF13 := Lib.hid hf13
        have HM13 := Lib.hid (fun x (hx : M13 x) => (show N ≤ x by rcases hM13 x hx with h | h; exact HM7.out x h; exact Nat.le_trans hN12 h))
        have HW13 := Lib.hid (HW12.out.turn hM13 ho13)
        have hbel13 : Below N w w13 := hbel12.trans (ho13.below hN12 HM7.out)
        have hN13 : N ≤ w13.heap.size := Nat.le_trans hN12 ho13.size
        have CS : Hid (Calls Try.prog 27 #[.pointer (some ⟨b, 0, none⟩)] w13 fun e w' => e = .returned (.int .i64 0) ∧ Turned M13 w13 w' b (startF (crashF R []))) := Lib.hid (start_any w13 HF13.out HS13.out)
        clear hf13 hM13 ho13 CC HF12 HW12 hbel12 hN12
        go_wp2_with fail
        (with_reducible refine CS.out.mono ?_); rintro e w14 ⟨rfl, M14, hf14, hM14, ho14⟩
        have HF14 := Lib.hid hf14
        have HW14 := Lib.hid (HW13.out.turn hM14 ho14)
        have hbel14 : Below N w w14 := hbel13.trans (ho14.below hN13 HM13.out)
        have hN14 : N ≤ w14.heap.size := Nat.le_trans hN13 ho14.size
        have hby2 : (startF (crashF R [])).files.map PF.bytes = (crashL F.files keep).map PF.bytes := by
          show (crashL R.files []).map PF.bytes = _
          rw [HR.out.1]; exact crash_again _ _ _
        have HBY2 := Lib.hid hby2
        have CH := Lib.hid (held_any w14 HF14.out HS13.out.start rfl)
        clear hf14 hM14 ho14 CS HF13 HW13 hbel13 hN13 hby2
        go_wp2_with fail
        (with_reducible refine CH.out.mono ?_); rintro e w15 ⟨⟨hv3, rfl, ho⟩, hb15⟩
        rw [HBY2.out] at ho
        obtain ⟨h3, hc3, rfl⟩ := ho.val
        rw [HWL.out] at ho ⊢
        have HW15 := Lib.hid (HW14.out.below hb15)
        have hbel15 := hbel14.trans (hb15.mono hN14)
        have hN15 : N ≤ w15.heap.size := Nat.le_trans hN14 hb15.size
        have CT := Lib.hid (tsame_any _ _ _ _ w15 ho.at HW15.out.at (by rw [HWL.out]; omega) (by rw [HWL.out]; omega))
        rw [decide_eq_true (show (crashL F.files keep).map PF.bytes = (crashL F.files keep).map PF.bytes from rfl)] at CT
        clear ho hb15 HF14 HW14 CH hbel14 hN14
        go_wp2_with fail
        (with_reducible refine CT.out.mono ?_); rintro e w16 ⟨rfl, hb16⟩
        have hbel16 := hbel15.trans (hb16.mono hN15)
        have hN16 : N ≤ w16.heap.size := Nat.le_trans hN15 hb16.size
        have CD := Lib.hid (does_any w16)
        clear CT HW15 hbel15 hN15 hb16
        go_wp2_with fail
        (with_reducible refine CD.out.mono ?_); rintro e w17 ⟨rfl, hb17⟩
        go_wp2_with fail
        go_ret
        exact ⟨rfl, hbel16.trans (hb17.mono hN16)⟩
end Go.Proofs.Ytmoaecicibjmnaa
