/- FilesRoom: the walk. -/
import Derived.Test.YtmoaecicibjmnaaKH
import Derived.Test.YtmoaecicibjmnaaKI
import Derived.BigQuiet
import Derived.Laws.Cover1
namespace Go.Proofs.Ytmoaecicibjmnaa
open Go.RowKit

/-- One of a list that is done to a file system, read out of memory. -/
theorem dos_get {N : Nat} {M : Nat → Prop} {w wr : World} {v : Value} {L : List DoR} (h : DosAt (fun k => k < w.heap.size) w v L) (hN : N = w.heap.size) (hbel : Below w.heap.size w wr) (hM : ∀ x, M x → N ≤ x) {k : Nat} {d : DoR} (hd : L[k]? = some d) :
    ∃ b o c kv, v = .slice (some ⟨b, o, none⟩) L.length c ∧ IntsIn (fun x => ¬ M x) wr kv d.K ∧ wr.cell? ⟨b, o + k * 6, none⟩ = some (.int .u8 (d.what : Int)) ∧ wr.cell? ⟨b, o + k * 6 + 1, none⟩ = some (.string d.A) ∧ wr.cell? ⟨b, o + k * 6 + 2, none⟩ = some (.string d.B) ∧ wr.cell? ⟨b, o + k * 6 + 3, none⟩ = some (.string d.S) ∧ wr.cell? ⟨b, o + k * 6 + 4, none⟩ = some (.int .i64 d.N) ∧ wr.cell? ⟨b, o + k * 6 + 5, none⟩ = some kv := by
  subst hN
  obtain ⟨a, c, rfl, hc⟩ := h
  obtain ⟨b, o, rfl, hb, _, hr⟩ := hc (by intro e; rw [e] at hd; simp at hd)
  obtain ⟨kv, hk, q0, q1, q2, q3, q4, q5⟩ := hr k d hd
  have e := fun i => World.cell?_of_block (a := ⟨b, i, none⟩) (hbel.block b hb)
  exact ⟨b, o, c, kv, rfl, hk.eq hbel.size fun x hx _ => ⟨hbel.block x hx, fun hm => by have := hM x hm; omega⟩, (e _).trans q0, (e _).trans q1, (e _).trans q2, (e _).trans q3, (e _).trans q4, (e _).trans q5⟩

set_option maxRecDepth 100000 in
set_option maxHeartbeats 8000000 in
theorem filesRoom_walk (s : Int) (v : Value) (L : List DoR) (w : World) (hs : 0 ≤ s ∧ s < 65536) (h : DosAt (fun k => k < w.heap.size) w v L) (hb : L.length ≤ 9223372036854775807) (hd : ∀ d ∈ L, DoOK d) :
    Calls Try.prog 3 #[.int .u16 s, v] w fun e w' => e = .returned (.bool true) ∧ Below w.heap.size w w' := by
  have CM := Lib.hid (much5_any v L w h hb hd)
  have HL := Lib.hid h
  have HD := Lib.hid hd
  obtain ⟨a, c, rfl, hc⟩ := h
  clear hc hd
  obtain ⟨n, hn⟩ : ∃ n, n = L.length := ⟨_, rfl⟩
  have HN := Lib.hid hn
  rw [← hn] at hb CM HL ⊢
  clear hn
  obtain ⟨N, hN⟩ : ∃ N, N = w.heap.size := ⟨_, rfl⟩
  have HNN := Lib.hid hN
  rw [← hN]
  clear hN
  go_enter Try.func3, Try.ntmps3
  go_wp2_with fail
  (with_reducible refine CM.out.mono ?_); rintro e w1 ⟨⟨q, rfl, hq⟩, hb1⟩
  rw [← HNN.out] at hb1
  cases q with
  | true =>
    clear hq
    go_wp2_with fail
    go_ret
    exact ⟨rfl, hb1⟩
  | false =>
    have HQ := Lib.hid (hq rfl)
    clear hq
    have CN := Lib.hid (new_any (1 + s) w1 (by omega) (by omega))
    go_wp2_with fail
    (with_reducible refine CN.out.mono ?_); rintro e w2 ⟨b, rfl, M, hf, hM, hb2⟩
    have hN1 : N ≤ w1.heap.size := Nat.le_trans (Nat.le_of_eq HNN.out) hb1.size
    have hbel := hb1.trans (hb2.mono hN1)
    have HF := Lib.hid hf
    have HM := Lib.hid (fun x (hx : M x) => Nat.le_trans hN1 (hM x hx))
    have HS := Lib.hid (Sound.new (1 + s) (by omega) (by omega))
    clear hf hM hb2 hb1 hN1
    go_wp2_with fail
    go_loopw [7] (fun i wr => ∃ k : Nat, k ≤ n ∧ i = .int .i64 (k : Nat) ∧ ∃ F M, Hid (FSAt M wr b F) ∧ Hid (Sound F) ∧ Hid (F.limit = 1 + s) ∧ Hid (∀ x, M x → N ≤ x) ∧ Below N w wr) (fun i _ => n - (intOf i).toNat)
    case atStart => exact ⟨0, Nat.zero_le _, rfl, _, M, HF, HS, Lib.hid rfl, HM, hbel⟩
    case round =>
      obtain ⟨k, hk, rfl, F, M, HF, HS, HLm, HM, hbel⟩ := hrel
      by_cases hlt : k < n
      · obtain ⟨d, hd⟩ : ∃ d, L[k]? = some d := ⟨_, List.getElem?_eq_getElem (show k < L.length by rw [← HN.out]; exact hlt)⟩
        have hok := HD.out d (List.mem_of_getElem? hd)
        have hsm := HQ.out.2 d (List.mem_of_getElem? hd)
        have hlim2 := HS.out.sum
        rw [HLm.out] at hlim2
        have hcnt := HS.out.cnt
        have hNr : N ≤ wr.heap.size := Nat.le_trans (Nat.le_of_eq HNN.out) hbel.size
        have CS := Lib.hid (size_any HF.out HS.out)
        have hS2 := HS.out.with' d hok.N2 (by have := hsm.K; omega)
        have hL2 : (withF F d).limit = 1 + s := (with_limit F d).trans HLm.out
        have hsum := hS2.sum
        have hcnt2 := hS2.cnt
        rw [hL2] at hsum
        have hfull : withE F d = 50 → withF F d = F := with_full
        have HFull := Lib.hid hfull
        have HS2 := Lib.hid hS2
        have HL2 := Lib.hid hL2
        have HD1 := Lib.hid hd
        have HOK := Lib.hid hok
        have HSM := Lib.hid hsm
        clear hfull hS2 hL2 hd hok hsm
        go_wp2_with fail
        (with_reducible refine CS.out.mono ?_); rintro e w3 ⟨rfl, hb3⟩
        have HF3 := Lib.hid (HF.out.below hb3)
        have CN3 := Lib.hid (names_any HF3.out HS.out)
        clear CS
        go_wp2_with fail
        (with_reducible refine CN3.out.mono ?_); rintro e w4 ⟨⟨nv, rfl, ho⟩, hb4⟩
        have HT := Lib.hid (names_in ho)
        have HF4 := Lib.hid (HF3.out.below hb4)
        clear ho CN3
        have hbel4 : Below N w w4 := hbel.trans ((hb3.mono hNr).trans (hb4.mono (Nat.le_trans hNr hb3.size)))
        have hM4 : ∀ x, M x → w.heap.size ≤ x := fun x hx => by rw [← HNN.out]; exact HM.out x hx
        have hN4 : N ≤ w4.heap.size := Nat.le_trans (Nat.le_of_eq HNN.out) hbel4.size
        obtain ⟨lb, lo, lc, kv, hlv, hkv, q0, q1, q2, q3, q4, q5⟩ := dos_get HL.out rfl (HNN.out ▸ hbel4) hM4 HD1.out
        have hlv1 := hlv
        injection hlv with hla e11 e12
        clear e11 e12 hlv1
        subst hla
        obtain ⟨ka, kc, rfl⟩ := hkv.val
        have CW := Lib.hid (with_any w4 HF4.out HS.out ⟨_, rfl, hkv⟩ HOK.out.what HOK.out.S (by have := HSM.out.K; omega))
        clear hkv hM4
        generalize withE F d = E at *
        generalize withF F d = F' at *
        generalize d.what = dw at *
        go_wp2_with fail
        (with_reducible refine CW.out.mono ?_); rintro e w5 ⟨rfl, M5, hf5, hM5, ho5⟩
        have HF5 := Lib.hid hf5
        have HM5 := Lib.hid (fun x (hx : M5 x) => (show N ≤ x by rcases hM5 x hx with h | h; exact HM.out x h; omega))
        have hbel5 : Below N w w5 := hbel4.trans (ho5.below hN4 HM.out)
        have CN5 := Lib.hid (names_any HF5.out HS2.out)
        clear hf5 hM5 CW
        go_wp2_with fail
        (with_reducible refine CN5.out.mono ?_); rintro e w6 ⟨⟨nv2, rfl, ho6⟩, hb6⟩
        have hn36 : ∀ x, M x → x < w3.heap.size := HF3.out.lt
        have ht5 := HT.out.eq (P' := fun _ => True) ho5.size fun x hx hp => ⟨ho5.block x hx (fun hm => by have := hn36 x hm; omega), trivial⟩
        have HT6 := Lib.hid ((ht5.below hb6).at)
        have HU6 := Lib.hid (names_in ho6).at
        have HF6 := Lib.hid (HF5.out.below hb6)
        have hNw5 : N ≤ w5.heap.size := Nat.le_trans hN4 ho5.size
        have hbel6 : Below N w w6 := hbel5.trans (hb6.mono hNw5)
        obtain ⟨a1, c1, hv1, _⟩ := HT6.out
        subst hv1
        obtain ⟨a2, c2, hv2, _⟩ := HU6.out
        subst hv2
        clear ht5 ho6 hn36 HF3 HF4 HF5 HT CN5 ho5 hbel5 hbel4 hb3 hb4 HF q0 q1 q2 q3 q4 q5
        have l1 : (F.files.map PF.name).length = F.files.length := List.length_map _
        have l2 : (F'.files.map PF.name).length = F'.files.length := List.length_map _
        rw [l1] at HT6 ⊢
        rw [l2] at HU6 ⊢
        obtain ⟨Z0, hZ0⟩ : ∃ z, z = total F.files := ⟨_, rfl⟩
        obtain ⟨Z, hZ⟩ : ∃ z, z = total F'.files := ⟨_, rfl⟩
        have HZ0 := Lib.hid hZ0
        have HZ := Lib.hid hZ
        rw [← hZ0] at hlim2 ⊢
        rw [← hZ] at hsum
        obtain ⟨m, hm⟩ : ∃ m, m = F'.files.length := ⟨_, rfl⟩
        have Hm := Lib.hid hm
        rw [← hm] at HU6 hcnt2 ⊢
        clear hm
        have CZ : ∀ wx, Below w6.heap.size w6 wx → Hid (Calls Try.prog 16 #[.pointer (some ⟨b, 0, none⟩)] wx fun e w' => e = .returned (.int .i64 (Z : Nat)) ∧ Below wx.heap.size wx w') := fun wx hb => by
          rw [hZ]; exact Lib.hid (size_any (HF6.out.below hb) HS2.out)
        clear hZ0 hZ
        have g3 : ¬ (1 + s < (Z : Int)) := by omega
        have g4 : ¬ ((32 : Int) < (m : Int)) := by omega
        by_cases hE : E = 50
        obtain rfl : F' = F := HFull.out hE
        subst hE
        obtain rfl : Z0 = Z := HZ0.out.trans HZ.out.symm
        have CT : ∀ wx, Below w6.heap.size w6 wx → Hid (Calls Try.prog 19 #[.slice a1 F'.files.length c1, .slice a2 m c2] wx fun e w' => e = .returned (.bool true) ∧ Below wx.heap.size wx w') := fun wx hb => by
          refine Lib.hid ((tsame_any _ _ _ _ wx (HT6.out.below hb) (HU6.out.below hb) (by omega) (by omega)).mono ?_)
          rintro e w' ⟨rfl, hb⟩
          exact ⟨by simp, hb⟩
        go_wp2_with fail
        (with_reducible refine (CZ _ (Below.refl _ _)).out.mono ?_); rintro e w7 ⟨rfl, hb7⟩
        go_wp2_with fail
        (with_reducible refine (CT _ hb7).out.mono ?_); rintro e w8 ⟨rfl, hb8⟩
        go_wp2_with fail
        (with_reducible refine (CZ _ (below_tr hb7 hb8)).out.mono ?_); rintro e wz ⟨rfl, hb9⟩
        have hbz := below_tr (below_tr hb7 hb8) hb9
        clear hb7 hb8 hb9 CT CZ HZ0
        go_wp2_with fail
        rotate_left
        have g1 : (E == 50) = false := by simpa using hE
        go_wp2_with fail
        (with_reducible refine (CZ _ (Below.refl _ _)).out.mono ?_); rintro e wz ⟨rfl, hbz⟩
        clear CZ HZ0 g1
        go_wp2_with fail
        rotate_left
        all_goals
          have HUz := Lib.hid (HU6.out.below hbz)
          have HFz := Lib.hid (HF6.out.below hbz)
          have hNw6 : N ≤ w6.heap.size := Nat.le_trans hNw5 hb6.size
          have hbelz : Below N w wz := hbel6.trans (hbz.mono hNw6)
          go_loopw [12] (fun i wl => ∃ j : Nat, j ≤ m ∧ i = .int .i64 (j : Nat) ∧ Below wz.heap.size wz wl) (fun i _ => m - (intOf i).toNat)
          case atStart => exact ⟨0, Nat.zero_le _, rfl, Below.refl _ _⟩
          case round =>
            obtain ⟨j, hj, rfl, hbl⟩ := hrel
            by_cases hjm : j < m
            · obtain ⟨x, hx⟩ : ∃ x, F'.files[j]? = some x := ⟨_, List.getElem?_eq_getElem (show j < F'.files.length by rw [← Hm.out]; exact hjm)⟩
              have hnam := HS2.out.nam x (List.mem_of_getElem? hx)
              have hlen : (F'.files.map PF.name).length = m := by rw [List.length_map]; exact Hm.out.symm
              obtain ⟨a3, c3, hv3, hh⟩ := HUz.out
              injection hv3 with e1 e2 e3
              clear e2 e3
              subst e1
              obtain ⟨ub, uo, e1, hub, hcc⟩ := hh (by intro e; rw [e] at hlen; simp at hlen; omega)
              subst e1
              have hbb := hbl.block ub hub
              have hx1 : (F'.files.map PF.name)[j]? = some x.name := by rw [List.getElem?_map, hx]; rfl
              have q1 : wr.cell? ⟨ub, uo + j, none⟩ = some (.string x.name) := by
                rw [World.cell?_of_block (a := ⟨ub, uo + j, none⟩) hbb, hcc j (by omega)]
                rw [List.getElem?_eq_getElem (by omega)] at hx1
                injection hx1 with hx1
                rw [hx1]
              have hn1 : decide (((x.name.size : Nat) : Int) < 1) = false := by rw [decide_eq_false_iff_not]; omega
              have hn2 : decide ((16 : Int) < ((x.name.size : Nat) : Int)) = false := by rw [decide_eq_false_iff_not]; omega
              clear hnam
              by_cases hj0 : j = 0
              · subst hj0
                rw [Nat.add_zero] at q1
                clear hcc hx1 hbb
                go_upto_region 17 with fail
                go_quiet (fail)
                go_wp2_with fail
                exact ⟨⟨1, by omega, rfl, below_drewN hbl _⟩, by simp [intOf]; omega⟩
              · obtain ⟨y, hy⟩ : ∃ y, F'.files[j - 1]? = some y := ⟨_, List.getElem?_eq_getElem (show j - 1 < F'.files.length by rw [← Hm.out]; omega)⟩
                have hr : ltN y.name x.name = true := rising_get HS2.out.asc (by omega) hy hx
                have hr2 : Op.bytesLess y.name.toList x.name.toList = true := hr
                have hy1 : (F'.files.map PF.name)[j - 1]? = some y.name := by rw [List.getElem?_map, hy]; rfl
                have q2 : wr.cell? ⟨ub, uo + (j - 1), none⟩ = some (.string y.name) := by
                  rw [World.cell?_of_block (a := ⟨ub, uo + (j - 1), none⟩) hbb, hcc (j - 1) (by omega)]
                  rw [List.getElem?_eq_getElem (by omega)] at hy1
                  injection hy1 with hy1
                  rw [hy1]
                clear hcc hx1 hbb hr hy1 hy hx
                have hdec : decide ((0 : Int) < (j : Int)) = true := by rw [decide_eq_true_eq]; omega
                have hdec2 : decide (0 < j) = true := by rw [decide_eq_true_eq]; omega
                have i1 : (1 : Int) ≤ (j : Int) := by omega
                have i2 : 0 < j := by omega
                have i3 : 1 ≤ j := by omega
                have i4 : (0 : Int) ≤ (j : Int) - 1 := by omega
                have i5 : (j : Int) - 1 < (m : Int) := by omega
                have i6 : (j : Int) ≤ (m : Int) := by omega
                have i7 : ((j : Int) - 1).toNat = j - 1 := by omega
                go_upto_region 17 with fail
                go_quiet (fail)
                go_wp2_with fail
                exact ⟨⟨j + 1, by omega, by go_num, below_drewN hbl _⟩, by simp [intOf]; omega⟩
            · obtain rfl : j = m := by omega
              go_wp2_with fail
              exact ⟨⟨k + 1, by omega, by go_num, F', M5, Lib.hid (HFz.out.below hbl), HS2, HL2, HM5, hbelz.trans (hbl.mono (Nat.le_trans hNw6 hbz.size))⟩, by simp [intOf]; omega⟩
      · obtain rfl : k = n := by omega
        have CD := Lib.hid (does_any wr)
        have hNr : N ≤ wr.heap.size := Nat.le_trans (Nat.le_of_eq HNN.out) hbel.size
        go_wp2_with fail
        (with_reducible refine CD.out.mono ?_); rintro e w3 ⟨rfl, hb3⟩
        go_wp2_with fail
        go_ret
        exact ⟨rfl, hbel.trans (hb3.mono hNr)⟩
end Go.Proofs.Ytmoaecicibjmnaa
