/- FilesRoom: the walk. After: a file system behind what was done to it. held: what each file has. FilesKeep: plain laws; what is held over a stroke. saves: row, on, named, Clean. saves: Load. saves: Write. Plain laws of a Write: what is there behind it. Plain laws of a Write, step by step. Plain laws of SavesBack. -/
import Derived.Test.YtmoaecicibjmnaaKT
import Derived.BigQuiet
import Derived.Laws.Cover1
namespace Go.Proofs.Ytmoaecicibjmnaa
open Go.RowKit

/-- One of a list that is done to a file system, read out of memory. -/
theorem dos_get {N : Nat} {M : Nat → Prop} {w wr : World} {v : Value} {L : List DoR} (h : DosAt (fun k => k < w.heap.size) w v L) (hN : N = w.heap.size) (hbel : Below w.heap.size w wr) (hM : ∀ x, M x → N ≤ x) {k : Nat} {d : DoR} (hd : L[k]? = some d) :
    ∃ b o c kv, v = .slice (some ⟨b, o, none⟩) L.length c ∧ IntsIn (fun x => ¬ M x) wr kv d.K ∧ wr.cell? ⟨b, o + k * 6, none⟩ = some (.int .u8 (d.what : Int)) ∧ wr.cell? ⟨b, o + k * 6 + 1, none⟩ = some (.string d.A) ∧ wr.cell? ⟨b, o + k * 6 + 2, none⟩ = some (.string d.B) ∧ wr.cell? ⟨b, o + k * 6 + 3, none⟩ = some (.string d.S) ∧ wr.cell? ⟨b, o + k * 6 + 4, none⟩ = some (.int .i64 d.N) ∧ wr.cell? ⟨b, o + k * 6 + 5, none⟩ = some kv := by
  subst hN
  obtain ⟨a, c, rfl, hc⟩ := h
  obtain ⟨b, o, rfl, hb, _, hr⟩ := hc (by intro e; rw [e] at hd; simp at hd)
  obtain ⟨kv, hk, q0, q1, q2, q3, q4, q5⟩ := hr k d hd
  have e := fun i => World.cell?_of_block (a := ⟨b, i, none⟩) (hbel.block b hb)
  exact ⟨b, o, c, kv, rfl, hk.eq hbel.size fun x hx _ => ⟨hbel.block x hx, fun hm => by have := hM x hm; omega⟩, (e _).trans q0, (e _).trans q1, (e _).trans q2, (e _).trans q3, (e _).trans q4, (e _).trans q5⟩

set_option maxRecDepth 100000 in
set_option maxHeartbeats 8000000 in
theorem filesRoom_walk (s : Int) (v : Value) (L : List DoR) (w : World) (hs : 0 ≤ s ∧ s < 65536) (h : DosAt (fun k => k < w.heap.size) w v L) (hb : L.length ≤ 9223372036854775807) (hd : ∀ d ∈ L, DoOK d) :
    Calls Try.prog 3 #[.int .u16 s, v] w fun e w' => e = .returned (.bool true) ∧ Below w.heap.size w w' := by
  have CM := Lib.hid (much5_any v L w h hb hd)
  have HL := Lib.hid h
  have HD := Lib.hid hd
  obtain ⟨a, c, rfl, hc⟩ := h
  clear hc hd
  obtain ⟨n, hn⟩ : ∃ n, n = L.length := ⟨_, rfl⟩
  have HN := Lib.hid hn
  rw [← hn] at hb CM HL ⊢
  clear hn
  obtain ⟨N, hN⟩ : ∃ N, N = w.heap.size := ⟨_, rfl⟩
  have HNN := Lib.hid hN
  rw [← hN]
  clear hN
  go_enter Try.func3, Try.ntmps3
  go_wp2_with fail
  (with_reducible refine CM.out.mono ?_); rintro e w1 ⟨⟨q, rfl, hq⟩, hb1⟩
  rw [← HNN.out] at hb1
  cases q with
  | true =>
    clear hq
    go_wp2_with fail
    go_ret
    exact ⟨rfl, hb1⟩
  | false =>
    have HQ := Lib.hid (hq rfl)
    clear hq
    have CN := Lib.hid (new_any (1 + s) w1 (by omega) (by omega))
    go_wp2_with fail
    (with_reducible refine CN.out.mono ?_); rintro e w2 ⟨b, rfl, M, hf, hM, hb2⟩
    have hN1 : N ≤ w1.heap.size := Nat.le_trans (Nat.le_of_eq HNN.out) hb1.size
    have hbel := hb1.trans (hb2.mono hN1)
    have HF := Lib.hid hf
    have HM := Lib.hid (fun x (hx : M x) => Nat.le_trans hN1 (hM x hx))
    have HS := Lib.hid (Sound.new (1 + s) (by omega) (by omega))
    clear hf hM hb2 hb1 hN1
    go_wp2_with fail
    go_loopw [7] (fun i wr => ∃ k : Nat, k ≤ n ∧ i = .int .i64 (k : Nat) ∧ ∃ F M, Hid (FSAt M wr b F) ∧ Hid (Sound F) ∧ Hid (F.limit = 1 + s) ∧ Hid (∀ x, M x → N ≤ x) ∧ Below N w wr) (fun i _ => n - (intOf i).toNat)
    case atStart => exact ⟨0, Nat.zero_le _, rfl, _, M, HF, HS, Lib.hid rfl, HM, hbel⟩
    case round =>
      obtain ⟨k, hk, rfl, F, M, HF, HS, HLm, HM, hbel⟩ := hrel
      by_cases hlt : k < n
      · obtain ⟨d, hd⟩ : ∃ d, L[k]? = some d := ⟨_, List.getElem?_eq_getElem (show k < L.length by rw [← HN.out]; exact hlt)⟩
        have hok := HD.out d (List.mem_of_getElem? hd)
        have hsm := HQ.out.2 d (List.mem_of_getElem? hd)
        have hlim2 := HS.out.sum
        rw [HLm.out] at hlim2
        have hcnt := HS.out.cnt
        have hNr : N ≤ wr.heap.size := Nat.le_trans (Nat.le_of_eq HNN.out) hbel.size
        have CS := Lib.hid (size_any HF.out HS.out)
        have hS2 := HS.out.with' d hok.N2 (by have := hsm.K; omega)
        have hL2 : (withF F d).limit = 1 + s := (with_limit F d).trans HLm.out
        have hsum := hS2.sum
        have hcnt2 := hS2.cnt
        rw [hL2] at hsum
        have hfull : withE F d = 50 → withF F d = F := with_full
        have HFull := Lib.hid hfull
        have HS2 := Lib.hid hS2
        have HL2 := Lib.hid hL2
        have HD1 := Lib.hid hd
        have HOK := Lib.hid hok
        have HSM := Lib.hid hsm
        clear hfull hS2 hL2 hd hok hsm
        go_wp2_with fail
        (with_reducible refine CS.out.mono ?_); rintro e w3 ⟨rfl, hb3⟩
        have HF3 := Lib.hid (HF.out.below hb3)
        have CN3 := Lib.hid (names_any HF3.out HS.out)
        clear CS
        go_wp2_with fail
        (with_reducible refine CN3.out.mono ?_); rintro e w4 ⟨⟨nv, rfl, ho⟩, hb4⟩
        have HT := Lib.hid (names_in ho)
        have HF4 := Lib.hid (HF3.out.below hb4)
        clear ho CN3
        have hbel4 : Below N w w4 := hbel.trans ((hb3.mono hNr).trans (hb4.mono (Nat.le_trans hNr hb3.size)))
        have hM4 : ∀ x, M x → w.heap.size ≤ x := fun x hx => by rw [← HNN.out]; exact HM.out x hx
        have hN4 : N ≤ w4.heap.size := Nat.le_trans (Nat.le_of_eq HNN.out) hbel4.size
        obtain ⟨lb, lo, lc, kv, hlv, hkv, q0, q1, q2, q3, q4, q5⟩ := dos_get HL.out rfl (HNN.out ▸ hbel4) hM4 HD1.out
        have hlv1 := hlv
        injection hlv with hla e11 e12
        clear e11 e12 hlv1
        subst hla
        obtain ⟨ka, kc, rfl⟩ := hkv.val
        have CW := Lib.hid (with_any w4 HF4.out HS.out ⟨_, rfl, hkv⟩ HOK.out.what HOK.out.S (by have := HSM.out.K; omega))
        clear hkv hM4
        generalize withE F d = E at *
        generalize withF F d = F' at *
        generalize d.what = dw at *
        go_wp2_with fail
        (with_reducible refine CW.out.mono ?_); rintro e w5 ⟨rfl, M5, hf5, hM5, ho5⟩
        have HF5 := Lib.hid hf5
        have HM5 := Lib.hid (fun x (hx : M5 x) => (show N ≤ x by rcases hM5 x hx with h | h; exact HM.out x h; omega))
        have hbel5 : Below N w w5 := hbel4.trans (ho5.below hN4 HM.out)
        have CN5 := Lib.hid (names_any HF5.out HS2.out)
        clear hf5 hM5 CW
        go_wp2_with fail
        (with_reducible refine CN5.out.mono ?_); rintro e w6 ⟨⟨nv2, rfl, ho6⟩, hb6⟩
        have hn36 : ∀ x, M x → x < w3.heap.size := HF3.out.lt
        have ht5 := HT.out.eq (P' := fun _ => True) ho5.size fun x hx hp => ⟨ho5.block x hx (fun hm => by have := hn36 x hm; omega), trivial⟩
        have HT6 := Lib.hid ((ht5.below hb6).at)
        have HU6 := Lib.hid (names_in ho6).at
        have HF6 := Lib.hid (HF5.out.below hb6)
        have hNw5 : N ≤ w5.heap.size := Nat.le_trans hN4 ho5.size
        have hbel6 : Below N w w6 := hbel5.trans (hb6.mono hNw5)
        obtain ⟨a1, c1, hv1, _⟩ := HT6.out
        subst hv1
        obtain ⟨a2, c2, hv2, _⟩ := HU6.out
        subst hv2
        clear ht5 ho6 hn36 HF3 HF4 HF5 HT CN5 ho5 hbel5 hbel4 hb3 hb4 HF q0 q1 q2 q3 q4 q5
        have l1 : (F.files.map PF.name).length = F.files.length := List.length_map _
        have l2 : (F'.files.map PF.name).length = F'.files.length := List.length_map _
        rw [l1] at HT6 ⊢
        rw [l2] at HU6 ⊢
        obtain ⟨Z0, hZ0⟩ : ∃ z, z = total F.files := ⟨_, rfl⟩
        obtain ⟨Z, hZ⟩ : ∃ z, z = total F'.files := ⟨_, rfl⟩
        have HZ0 := Lib.hid hZ0
        have HZ := Lib.hid hZ
        rw [← hZ0] at hlim2 ⊢
        rw [← hZ] at hsum
        obtain ⟨m, hm⟩ : ∃ m, m = F'.files.length := ⟨_, rfl⟩
        have Hm := Lib.hid hm
        rw [← hm] at HU6 hcnt2 ⊢
        clear hm
        have CZ : ∀ wx, Below w6.heap.size w6 wx → Hid (Calls Try.prog 16 #[.pointer (some ⟨b, 0, none⟩)] wx fun e w' => e = .returned (.int .i64 (Z : Nat)) ∧ Below wx.heap.size wx w') := fun wx hb => by
          rw [hZ]; exact Lib.hid (size_any (HF6.out.below hb) HS2.out)
        clear hZ0 hZ
        have g3 : ¬ (1 + s < (Z : Int)) := by omega
        have g4 : ¬ ((32 : Int) < (m : Int)) := by omega
        by_cases hE : E = 50
        obtain rfl : F' = F := HFull.out hE
        subst hE
        obtain rfl : Z0 = Z := HZ0.out.trans HZ.out.symm
        have CT : ∀ wx, Below w6.heap.size w6 wx → Hid (Calls Try.prog 19 #[.slice a1 F'.files.length c1, .slice a2 m c2] wx fun e w' => e = .returned (.bool true) ∧ Below wx.heap.size wx w') := fun wx hb => by
          refine Lib.hid ((tsame_any _ _ _ _ wx (HT6.out.below hb) (HU6.out.below hb) (by omega) (by omega)).mono ?_)
          rintro e w' ⟨rfl, hb⟩
          exact ⟨by simp, hb⟩
        go_wp2_with fail
        (with_reducible refine (CZ _ (Below.refl _ _)).out.mono ?_); rintro e w7 ⟨rfl, hb7⟩
        go_wp2_with fail
        (with_reducible refine (CT _ hb7).out.mono ?_); rintro e w8 ⟨rfl, hb8⟩
        go_wp2_with fail
        (with_reducible refine (CZ _ (below_tr hb7 hb8)).out.mono ?_); rintro e wz ⟨rfl, hb9⟩
        have hbz := below_tr (below_tr hb7 hb8) hb9
        clear hb7 hb8 hb9 CT CZ HZ0
        go_wp2_with fail
        rotate_left
        have g1 : (E == 50) = false := by simpa using hE
        go_wp2_with fail
        (with_reducible refine (CZ _ (Below.refl _ _)).out.mono ?_); rintro e wz ⟨rfl, hbz⟩
        clear CZ HZ0 g1
        go_wp2_with fail
        rotate_left
        all_goals
          have HUz := Lib.hid (HU6.out.below hbz)
          have HFz := Lib.hid (HF6.out.below hbz)
          have hNw6 : N ≤ w6.heap.size := Nat.le_trans hNw5 hb6.size
          have hbelz : Below N w wz := hbel6.trans (hbz.mono hNw6)
          go_loopw [12] (fun i wl => ∃ j : Nat, j ≤ m ∧ i = .int .i64 (j : Nat) ∧ Below wz.heap.size wz wl) (fun i _ => m - (intOf i).toNat)
          case atStart => exact ⟨0, Nat.zero_le _, rfl, Below.refl _ _⟩
          case round =>
            obtain ⟨j, hj, rfl, hbl⟩ := hrel
            by_cases hjm : j < m
            · obtain ⟨x, hx⟩ : ∃ x, F'.files[j]? = some x := ⟨_, List.getElem?_eq_getElem (show j < F'.files.length by rw [← Hm.out]; exact hjm)⟩
              have hnam := HS2.out.nam x (List.mem_of_getElem? hx)
              have hlen : (F'.files.map PF.name).length = m := by rw [List.length_map]; exact Hm.out.symm
              obtain ⟨a3, c3, hv3, hh⟩ := HUz.out
              injection hv3 with e1 e2 e3
              clear e2 e3
              subst e1
              obtain ⟨ub, uo, e1, hub, hcc⟩ := hh (by intro e; rw [e] at hlen; simp at hlen; omega)
              subst e1
              have hbb := hbl.block ub hub
              have hx1 : (F'.files.map PF.name)[j]? = some x.name := by rw [List.getElem?_map, hx]; rfl
              have q1 : wr.cell? ⟨ub, uo + j, none⟩ = some (.string x.name) := by
                rw [World.cell?_of_block (a := ⟨ub, uo + j, none⟩) hbb, hcc j (by omega)]
                rw [List.getElem?_eq_getElem (by omega)] at hx1
                injection hx1 with hx1
                rw [hx1]
              have hn1 : decide (((x.name.size : Nat) : Int) < 1) = false := by rw [decide_eq_false_iff_not]; omega
              have hn2 : decide ((16 : Int) < ((x.name.size : Nat) : Int)) = false := by rw [decide_eq_false_iff_not]; omega
              clear hnam
              by_cases hj0 : j = 0
              · subst hj0
                rw [Nat.add_zero] at q1
                clear hcc hx1 hbb
                go_upto_region 17 with fail
                go_quiet (fail)
                go_wp2_with fail
                exact ⟨⟨1, by omega, rfl, below_drewN hbl _⟩, by simp [intOf]; omega⟩
              · obtain ⟨y, hy⟩ : ∃ y, F'.files[j - 1]? = some y := ⟨_, List.getElem?_eq_getElem (show j - 1 < F'.files.length by rw [← Hm.out]; omega)⟩
                have hr : ltN y.name x.name = true := rising_get HS2.out.asc (by omega) hy hx
                have hr2 : Op.bytesLess y.name.toList x.name.toList = true := hr
                have hy1 : (F'.files.map PF.name)[j - 1]? = some y.name := by rw [List.getElem?_map, hy]; rfl
                have q2 : wr.cell? ⟨ub, uo + (j - 1), none⟩ = some (.string y.name) := by
                  rw [World.cell?_of_block (a := ⟨ub, uo + (j - 1), none⟩) hbb, hcc (j - 1) (by omega)]
                  rw [List.getElem?_eq_getElem (by omega)] at hy1
                  injection hy1 with hy1
                  rw [hy1]
                clear hcc hx1 hbb hr hy1 hy hx
                have hdec : decide ((0 : Int) < (j : Int)) = true := by rw [decide_eq_true_eq]; omega
                have hdec2 : decide (0 < j) = true := by rw [decide_eq_true_eq]; omega
                have i1 : (1 : Int) ≤ (j : Int) := by omega
                have i2 : 0 < j := by omega
                have i3 : 1 ≤ j := by omega
                have i4 : (0 : Int) ≤ (j : Int) - 1 := by omega
                have i5 : (j : Int) - 1 < (m : Int) := by omega
                have i6 : (j : Int) ≤ (m : Int) := by omega
                have i7 : ((j : Int) - 1).toNat = j - 1 := by omega
                go_upto_region 17 with fail
                go_quiet (fail)
                go_wp2_with fail
                exact ⟨⟨j + 1, by omega, by go_num, below_drewN hbl _⟩, by simp [intOf]; omega⟩
            · obtain rfl : j = m := by omega
              go_wp2_with fail
              exact ⟨⟨k + 1, by omega, by go_num, F', M5, Lib.hid (HFz.out.below hbl), HS2, HL2, HM5, hbelz.trans (hbl.mono (Nat.le_trans hNw6 hbz.size))⟩, by simp [intOf]; omega⟩
      · obtain rfl : k = n := by omega
        have CD := Lib.hid (does_any wr)
        have hNr : N ≤ wr.heap.size := Nat.le_trans (Nat.le_of_eq HNN.out) hbel.size
        go_wp2_with fail
        (with_reducible refine CD.out.mono ?_); rintro e w3 ⟨rfl, hb3⟩
        go_wp2_with fail
        go_ret
        exact ⟨rfl, hbel.trans (hb3.mono hNr)⟩
end Go.Proofs.Ytmoaecicibjmnaa

namespace Go.Proofs.Ytmoaecicibjmnaa
open Go.RowKit

theorem setX_left (F : FR) (n : ByteArray) (f : PF → PF) : (setX F n f).left = F.left := by unfold setX; split <;> rfl
theorem doneF_left {F F2 : FR} (h : F.left = -1) (h2 : F2.left = F.left) : (doneF F F2).left = -1 := by
  unfold doneF
  rw [if_neg (by omega), if_neg (by omega), h2, h]
theorem with_left {F : FR} {d : DoR} (h : F.left = -1) (hd : d.what % 12 ≠ 11) : (withF F d).left = -1 := by
  unfold withF
  split
  · unfold syncF; split; exact doneF_left h (setX_left _ _ _); exact h
  · unfold syncF; split; exact doneF_left h (setX_left _ _ _); exact h
  · unfold cutF; split; exact doneF_left h (setX_left _ _ _); exact h
  · unfold renameF; split; exact doneF_left h rfl; exact h
  · unfold removeF; split; exact doneF_left h rfl; exact h
  · unfold crashG; split; exact h; rfl
  · unfold startF; split <;> exact h
  · unfold startF; split <;> exact h
  · exact absurd ‹_› hd
  · unfold appF; split
    · exact h
    · have hx : (appX F d.A d.S).left = F.left := (appX_left F d.A d.S).1
      unfold doneA; rw [if_neg (by omega), if_neg (by omega), hx, h]
def afterStep (F : FR) (d : DoR) : FR := if d.what % 12 = 11 then F else withF F d
def afterL (c : Int) (L : List DoR) : FR := L.foldl afterStep (newF c)
def afterF (c : Int) (L : List DoR) : FR := startF (afterL c L)
theorem afterL_succ (c : Int) (L : List DoR) (k : Nat) (d : DoR) (h : L[k]? = some d) : afterL c (L.take (k + 1)) = afterStep (afterL c (L.take k)) d := by
  unfold afterL
  rw [List.take_add_one, h, List.foldl_append]; rfl
/-- What holds behind an After. -/
structure Fresh (c : Int) (F : FR) : Prop where
  sound : Sound F
  limit : F.limit = c
  left : F.left = -1
theorem Fresh.step {c : Int} {F : FR} (h : Fresh c F) {d : DoR} (hN : d.N ≤ 9223372036854775807) (hK : d.K.length ≤ 1000000) : Fresh c (afterStep F d) := by
  unfold afterStep
  split
  · exact h
  · exact ⟨h.sound.with' d hN hK, (with_limit F d).trans h.limit, with_left h.left ‹_›⟩
theorem Fresh.new (c : Int) (h1 : 1 ≤ c) (h2 : c ≤ 1048576) : Fresh c (newF c) := ⟨Sound.new c h1 h2, rfl, rfl⟩
theorem Sound.start {F : FR} (h : Sound F) : Sound (startF F) := by
  unfold startF; split
  · exact ⟨h.lim1, h.lim2, h.cnt, h.asc, h.nam, h.sum, h.lf, h.kl⟩
  · exact h
theorem Fresh.start {c : Int} {F : FR} (h : Fresh c F) : Fresh c (startF F) := by
  refine ⟨h.sound.start, ?_, ?_⟩
  · unfold startF; split <;> exact h.limit
  · unfold startF; split <;> exact h.left
theorem start_on (F : FR) : (startF F).off = false := by
  unfold startF; split
  · rfl
  · rename_i h; cases e : F.off; rfl; exact absurd e h
theorem after_fresh (c : Int) (h1 : 1 ≤ c) (h2 : c ≤ 1048576) (L : List DoR) (hN : ∀ d ∈ L, d.N ≤ 9223372036854775807 ∧ d.K.length ≤ 1000000) : Fresh c (afterL c L) := by
  have key : ∀ (L : List DoR) (F : FR), (∀ d ∈ L, d.N ≤ 9223372036854775807 ∧ d.K.length ≤ 1000000) → Fresh c F → Fresh c (L.foldl afterStep F) := by
    intro L
    induction L with
    | nil => intro F _ h; exact h
    | cons d L ih => intro F hd h; exact ih _ (fun x hx => hd x (List.mem_cons_of_mem _ hx)) (h.step (hd d (by simp)).1 (hd d (by simp)).2)
  exact key L _ hN (Fresh.new c h1 h2)

set_option maxRecDepth 100000 in
set_option maxHeartbeats 8000000 in
theorem after_any (s : Int) (v : Value) (L : List DoR) (w : World) (hs : 0 ≤ s ∧ s < 65536) (h : DosAt (fun k => k < w.heap.size) w v L) (hb : L.length ≤ 9223372036854775807) (hd : ∀ d ∈ L, DoOK d ∧ d.K.length ≤ 1000000) :
    Calls Try.prog 21 #[.int .u16 s, v] w fun e w' => ∃ b, e = .returned (.pointer (some ⟨b, 0, none⟩)) ∧ ∃ M, FSAt M w' b (afterF (1 + s) L) ∧ (∀ k, M k → w.heap.size ≤ k) ∧ Below w.heap.size w w' := by
  have HL := Lib.hid h
  have HD := Lib.hid hd
  have hfr : ∀ k, Fresh (1 + s) (afterL (1 + s) (L.take k)) := fun k => after_fresh _ (by omega) (by omega) _ fun d hd' => by
    have := hd d (List.mem_of_mem_take hd')
    exact ⟨this.1.N2, this.2⟩
  have HFr := Lib.hid hfr
  obtain ⟨a, c, rfl, hc⟩ := h
  clear hc hd hfr
  obtain ⟨n, hn⟩ : ∃ n, n = L.length := ⟨_, rfl⟩
  have HN := Lib.hid hn
  rw [← hn] at hb HL ⊢
  clear hn
  obtain ⟨N, hN⟩ : ∃ N, N = w.heap.size := ⟨_, rfl⟩
  have HNN := Lib.hid hN
  rw [← hN]
  clear hN
  have CN := Lib.hid (new_any (1 + s) w (by omega) (by omega))
  rw [← HNN.out] at CN
  go_enter Try.func21, Try.ntmps21
  go_wp2_with fail
  (with_reducible refine CN.out.mono ?_); rintro e w2 ⟨b, rfl, M, hf, hM, hbel⟩
  have HF := Lib.hid hf
  have HM := Lib.hid hM
  clear hf hM CN
  go_wp2_with fail
  go_loopw [7] (fun i wr => ∃ k : Nat, k ≤ n ∧ i = .int .i64 (k : Nat) ∧ ∃ M, Hid (FSAt M wr b (afterL (1 + s) (L.take k))) ∧ Hid (∀ x, M x → N ≤ x) ∧ Below N w wr) (fun i _ => n - (intOf i).toNat)
  case atStart => exact ⟨0, Nat.zero_le _, rfl, M, HF, HM, hbel⟩
  case round =>
    obtain ⟨k, hk, rfl, M, HF, HM, hbel⟩ := hrel
    by_cases hlt : k < n
    · obtain ⟨d, hd⟩ : ∃ d, L[k]? = some d := ⟨_, List.getElem?_eq_getElem (show k < L.length by rw [← HN.out]; exact hlt)⟩
      have hok := HD.out d (List.mem_of_getElem? hd)
      have hNr : N ≤ wr.heap.size := Nat.le_trans (Nat.le_of_eq HNN.out) hbel.size
      have hMw : ∀ x, M x → w.heap.size ≤ x := fun x hx => by rw [← HNN.out]; exact HM.out x hx
      obtain ⟨lb, lo, lc, kv, hlv, hkv, q0, q1, q2, q3, q4, q5⟩ := dos_get HL.out rfl (HNN.out ▸ hbel) hMw hd
      injection hlv with hla e11 e12
      clear e11 e12
      subst hla
      obtain ⟨ka, kc, rfl⟩ := hkv.val
      have HNX := Lib.hid (afterL_succ (1 + s) L k d hd)
      have CW := Lib.hid (with_any wr HF.out (HFr.out k).sound ⟨_, rfl, hkv⟩ hok.1.what hok.1.S hok.2)
      obtain ⟨r, hr⟩ : ∃ r, r = d.what % 12 := ⟨_, rfl⟩
      have hwi : (d.what : Int) % 12 = (r : Int) := by omega
      have hwb := hok.1.what
      have HR := Lib.hid hr
      clear hkv hMw hr hok hd
      by_cases h11 : r = 11
      · subst h11
        have hX : afterL (1 + s) (L.take (k + 1)) = afterL (1 + s) (L.take k) := by rw [HNX.out, afterStep, if_pos HR.out.symm]
        have HX := Lib.hid hX
        clear hX
        generalize d.what = dw at *
        go_wp2_with fail
        case roundEnd => exact ⟨⟨k + 1, by omega, by go_num, M, by rw [HX.out]; exact HF, HM, hbel⟩, by simp [intOf]; omega⟩
      · have hX : afterL (1 + s) (L.take (k + 1)) = withF (afterL (1 + s) (L.take k)) d := by rw [HNX.out, afterStep, if_neg (fun e => h11 (HR.out.trans e))]
        have HX := Lib.hid hX
        have g1 : ((r : Int) == 11) = false := by simp; omega
        have g2 : ¬ (r : Int) = 11 := by omega
        clear hX
        generalize withE (afterL (1 + s) (L.take k)) d = E at *
        generalize d.what = dw at *
        go_wp2_with fail
        (with_reducible refine CW.out.mono ?_); rintro e w5 ⟨rfl, M5, hf5, hM5, ho5⟩
        have HF5 := Lib.hid hf5
        have HM5 := Lib.hid (fun x (hx : M5 x) => (show N ≤ x by rcases hM5 x hx with h | h; exact HM.out x h; omega))
        have hbel5 : Below N w w5 := hbel.trans (ho5.below hNr HM.out)
        clear hf5 hM5 CW ho5
        go_wp2_with fail
        case roundEnd => exact ⟨⟨k + 1, by omega, by go_num, M5, by rw [HX.out]; exact HF5, HM5, hbel5⟩, by simp [intOf]; omega⟩
    · obtain rfl : k = n := by omega
      have hall : L.take k = L := by rw [HN.out, List.take_length]
      rw [hall] at HF
      have hfr := HFr.out k
      rw [hall] at hfr
      clear hall
      obtain ⟨R, hR⟩ : ∃ R, R = afterF (1 + s) L := ⟨_, rfl⟩
      have hAF : R = startF (afterL (1 + s) L) := hR
      have HR := Lib.hid hR
      clear hR
      generalize afterL (1 + s) L = F at *
      have CU := Lib.hid (up_any HF.out hfr.sound.lim)
      have CS := Lib.hid (start_any wr HF.out hfr.sound)
      have hNr : N ≤ wr.heap.size := Nat.le_trans (Nat.le_of_eq HNN.out) hbel.size
      cases ho : F.off with
      | true =>
        rw [ho] at CU
        unfold startE at CS
        rw [if_pos ho] at CS
        rw [← hAF] at CS
        clear hAF ho hfr
        go_wp2_with fail
        (with_reducible refine CU.out.mono ?_); rintro e w3 ⟨rfl, rfl⟩
        go_wp2_with fail
        (with_reducible refine CS.out.mono ?_); rintro e w4 ⟨rfl, M4, hf4, hM4, ho4⟩
        have HF4 := Lib.hid hf4
        have HM4 := Lib.hid (fun x (hx : M4 x) => (show N ≤ x by rcases hM4 x hx with h | h; exact HM.out x h; omega))
        have hbel5 : Below N w w4 := hbel.trans (ho4.below hNr HM.out)
        clear hf4 hM4 CS CU ho4
        go_wp2_with fail
        go_ret
        exact ⟨_, rfl, M4, by rw [← HR.out]; exact HF4.out, HM4.out, hbel5⟩
      | false =>
        rw [ho] at CU
        have hRF : R = F := by rw [hAF, startF, if_neg (by rw [ho]; simp)]
        subst hRF
        clear hAF ho hfr CS
        go_wp2_with fail
        (with_reducible refine CU.out.mono ?_); rintro e w3 ⟨rfl, rfl⟩
        go_wp2_with fail
        go_ret
        exact ⟨_, rfl, M, by rw [← HR.out]; exact HF.out, HM.out, hbel⟩
end Go.Proofs.Ytmoaecicibjmnaa

namespace Go.Proofs.Ytmoaecicibjmnaa
open Go.RowKit

theorem place_self {L : List PF} (hL : Rising L) {k : Nat} {x : PF} (hx : L[k]? = some x) : place L x.name = k := by
  refine place_eq L x.name k (Nat.le_of_lt (List.getElem?_eq_some_iff.1 hx).1) (fun t y ht hy => rising_get hL ht hy hx) fun y hy => ?_
  rw [hx] at hy
  injection hy with hy
  subst hy
  exact ltN_irr _
theorem isAt_self {L : List PF} (hL : Rising L) {k : Nat} {x : PF} (hx : L[k]? = some x) : isAt L x.name = true := by
  unfold isAt
  rw [place_self hL hx, hx]
  simp
theorem read_self {F : FR} (hG : Sound F) (ho : F.off = false) {k : Nat} {x : PF} (hx : F.files[k]? = some x) : hasE F x.name = 0 ∧ readS F x.name = x.bytes := by
  have h0 : hasE F x.name = 0 := by unfold hasE; rw [if_neg (by rw [ho]; simp), if_pos (isAt_self hG.asc hx)]
  refine ⟨h0, ?_⟩
  unfold readS
  rw [if_pos h0, place_self hG.asc hx, hx]

set_option maxRecDepth 100000 in
set_option maxHeartbeats 8000000 in
theorem held_any {M : Nat → Prop} {b : Nat} {F : FR} (w : World) (h : FSAt M w b F) (hG : Sound F) (ho : F.off = false) :
    Calls Try.prog 35 #[.pointer (some ⟨b, 0, none⟩)] w fun e w' => (∃ v, e = .returned v ∧ TextsIn (fun k => w.heap.size ≤ k) w' v (F.files.map PF.bytes)) ∧ Below w.heap.size w w' := by
  have H := Lib.hid h
  have HG := Lib.hid hG
  have HO := Lib.hid ho
  have CN := Lib.hid (names_any h hG)
  have hcnt := hG.cnt
  obtain ⟨q, hq⟩ : ∃ q, q = F.files.length := ⟨_, rfl⟩
  have HQ := Lib.hid hq
  rw [← hq] at hcnt
  clear h hG ho hq
  go_enter Try.func35, Try.ntmps35
  go_wp2_with fail
  (with_reducible refine CN.out.mono ?_); rintro e w2 ⟨⟨nv, rfl, hn⟩, hb2⟩
  have HT := Lib.hid (names_in hn)
  obtain ⟨na, nc, hnv, _⟩ := HT.out
  subst hnv
  have hl : (F.files.map PF.name).length = q := by rw [List.length_map]; exact HQ.out.symm
  rw [hl] at HT ⊢
  clear hn CN hl
  go_wp2_with fail
  go_loopw [5, 3] (fun i out wr => ∃ k : Nat, k ≤ q ∧ i = .int .i64 (k : Nat) ∧ Hid (wr.ownsRow w2.heap.size 9 1 out k ((F.files.take k).map fun x => Value.string x.bytes)) ∧ Below w2.heap.size w2 wr) (fun i _ _ => q - (intOf i).toNat)
  case atStart => exact ⟨0, Nat.zero_le _, rfl, Lib.hid (World.ownsRow_nil _ _ _ _), Below.refl _ _⟩
  case round =>
    obtain ⟨k, hkq, rfl, hown, hbel⟩ := hrel
    by_cases hlt : k < q
    · obtain ⟨x, hx⟩ := get_of_lt F.files k (by rw [← HQ.out]; exact hlt)
      have hl : (F.files.map PF.name).length = q := by rw [List.length_map]; exact HQ.out.symm
      obtain ⟨a3, c3, hv3, hh⟩ := HT.out
      injection hv3 with e1 e2 e3
      clear e2 e3
      subst e1
      obtain ⟨ub, uo, e1, hub, _, hcc⟩ := hh (by intro e; rw [e] at hl; simp at hl; omega)
      subst e1
      have hx1 : (F.files.map PF.name)[k]? = some x.name := by rw [List.getElem?_map, hx]; rfl
      have q1 : wr.cell? ⟨ub, uo + k, none⟩ = some (.string x.name) := by
        rw [World.cell?_of_block (a := ⟨ub, uo + k, none⟩) (hbel.block ub hub), hcc k (by omega)]
        rw [List.getElem?_eq_getElem (by omega)] at hx1
        injection hx1 with hx1
        rw [hx1]
      obtain ⟨r0, r1⟩ := read_self HG.out HO.out hx
      have CR0 := read_any ((H.out.below hb2).below hbel) HG.out x.name
      rw [r0, r1] at CR0
      have CR := Lib.hid CR0
      have hts : (F.files.take (k + 1)).map (fun x => Value.string x.bytes) = (F.files.take k).map (fun x => Value.string x.bytes) ++ [Value.string x.bytes] := by
        rw [List.take_add_one, hx, List.map_append]; rfl
      obtain ⟨z, hz⟩ : ∃ z, z = x.bytes := ⟨_, rfl⟩
      rw [← hz] at hts CR
      have HTS := Lib.hid hts
      clear hcc hx1 hx hts hz CR0 r0 r1 hh hl
      go_wp2_with fail
      (with_reducible refine CR.out.mono ?_); rintro e w4 ⟨rfl, hb4⟩
      have hown4 := Lib.hid (own_below hown.out hb4)
      have hb5 : Below w2.heap.size w2 w4 := hbel.trans (hb4.mono hbel.size)
      have hB2 : w2.heap.size ≤ (w4.alloc (.cells #[.string z] 9)).heap.size := by rw [size_alloc]; have := hb5.size; omega
      go_wp2_with (at_builtin; refine wpList_append_one rfl (.tmp 27) (.tmp 29) 30 rfl 9 (.string ByteArray.empty) 16 (by kernel_rfl) (by kernel_rfl) rfl w2.heap.size u3 k _ (by simp [Act.eval]) (hown4.out.alloc _) w4.heap.size 1 (by simp [Act.eval]) (.string z) (new_one _ _ _) rfl (by omega) (by decide) hB2 ?_; intro g7 c7 w7 hown7 hgr7 hb7)
      go_roundw
      case rel => exact ⟨k + 1, by omega, by go_num, Lib.hid (by rw [HTS.out]; exact hown7.out), (hb5.alloc hb5.size _).trans hb7⟩
      case measure => simp [intOf]; omega
    · obtain rfl : k = q := by omega
      go_wp2_with fail
      go_ret
      refine ⟨⟨_, rfl, ?_⟩, below_tr hb2 hbel⟩
      have h1 := hown.out
      rw [List.take_of_length_le (by rw [HQ.out]; exact Nat.le_refl _)] at h1
      have hl : (F.files.map PF.bytes).length = k := by rw [List.length_map]; exact HQ.out.symm
      have h2 : TextsIn (fun x => w2.heap.size ≤ x) wr u3 (F.files.map PF.bytes) := texts_in (e := 9) (by rw [hl, List.map_map]; exact h1)
      exact h2.eq (Nat.le_refl _) fun x _ hx => ⟨rfl, Nat.le_trans hb2.size hx⟩
end Go.Proofs.Ytmoaecicibjmnaa

namespace Go.Proofs.Ytmoaecicibjmnaa
open Go.RowKit

theorem TextsIn.turn {M M' : Nat → Prop} {w w' : World} {v : Value} {T : List ByteArray} (h : TextsIn (fun k => ¬ M k) w v T) (hM : ∀ k, M' k → M k ∨ w.heap.size ≤ k) (ho : Out M w w') : TextsIn (fun k => ¬ M' k) w' v T :=
  h.eq ho.size fun k hk hn => ⟨ho.block k hk hn, fun hm => by rcases hM k hm with h1 | h1; exact hn h1; omega⟩
theorem IntsIn.turn {M M' : Nat → Prop} {w w' : World} {v : Value} {T : List Int} (h : IntsIn (fun k => ¬ M k) w v T) (hM : ∀ k, M' k → M k ∨ w.heap.size ≤ k) (ho : Out M w w') : IntsIn (fun k => ¬ M' k) w' v T :=
  h.eq ho.size fun k hk hn => ⟨ho.block k hk hn, fun hm => by rcases hM k hm with h1 | h1; exact hn h1; omega⟩
theorem TextsIn.off {M : Nat → Prop} {B : Nat} {w : World} {v : Value} {T : List ByteArray} (h : TextsIn (fun k => B ≤ k) w v T) (hM : ∀ k, M k → k < B) : TextsIn (fun k => ¬ M k) w v T :=
  h.eq (Nat.le_refl _) fun k _ hb => ⟨rfl, fun hm => by have := hM k hm; omega⟩
theorem IntsIn.off {M : Nat → Prop} {B : Nat} {w : World} {v : Value} {T : List Int} (h : IntsIn (fun k => B ≤ k) w v T) (hM : ∀ k, M k → k < B) : IntsIn (fun k => ¬ M k) w v T :=
  h.eq (Nat.le_refl _) fun k _ hb => ⟨rfl, fun hm => by have := hM k hm; omega⟩
theorem IntsIn.later {P : Nat → Prop} {w w' : World} {v : Value} {T : List Int} (h : IntsIn P w v T) (hb : Below w.heap.size w w') : IntsIn P w' v T := h.eq hb.size fun k hk hp => ⟨hb.block k hk, hp⟩
theorem ints_in {B : Nat} {e : TypeId} {w : World} {v : Value} {l : List PF} {f : PF → Int} (h : w.ownsRow B e 1 v l.length (l.map fun x => Value.int .i64 (f x))) : IntsIn (fun k => B ≤ k) w v (l.map f) := by
  refine ints_of_own (e := e) ?_
  unfold intVs
  rw [List.length_map, List.map_map]; exact h

theorem ext_app (p a : ByteArray) (j : Nat) : (p ++ a).extract 0 (p.size + j) = p ++ a.extract 0 j := by
  have h1 : ((p ++ a).extract 0 (p.size + j)).data = (p ++ a.extract 0 j).data := by
    simp only [ByteArray.data_extract, ByteArray.data_append]
    have hp : p.size = p.data.size := rfl
    rw [Array.extract_append, hp, Array.extract_eq_self_of_le (by omega)]
    congr 1
    congr 1 <;> omega
  exact ByteArray.ext h1
/-- What is left of a file over a crash, as FilesKeep reckons it. -/
def leftN (x : PF) (keep : List Int) (i : Nat) : Nat := x.pl.size + min (keepAt keep i).toNat x.air.size
theorem left_bytes (x : PF) (keep : List Int) (i : Nat) : x.bytes.extract 0 (leftN x keep i) = (cr x (keepAt keep i)).bytes := by
  unfold leftN PF.bytes cr
  rw [ext_app]
  simp
theorem crash_get (L : List PF) (keep : List Int) {i : Nat} {x : PF} (h : L[i]? = some x) : (crashL L keep)[i]? = some (cr x (keepAt keep i)) := by
  unfold crashL
  rw [crashTo_get L keep L.length i x h, if_pos (List.getElem?_eq_some_iff.1 h).1]
theorem crash_len (L : List PF) (keep : List Int) : (crashL L keep).length = L.length := crashTo_len L keep L.length
theorem crash_again (L : List PF) (k1 k2 : List Int) : (crashL (crashL L k1) k2).map PF.bytes = (crashL L k1).map PF.bytes := by
  apply List.ext_getElem?
  intro i
  rw [List.getElem?_map, List.getElem?_map]
  cases h : (crashL L k1)[i]? with
  | none => rw [List.getElem?_eq_none (by rw [crash_len]; exact List.getElem?_eq_none_iff.1 h)]
  | some y =>
    rw [crash_get _ k2 h]
    obtain ⟨x, hx⟩ : ∃ x, L[i]? = some x := ⟨_, List.getElem?_eq_getElem (by have := (List.getElem?_eq_some_iff.1 h).1; rw [crash_len] at this; exact this)⟩
    have hy := crash_get L k1 hx
    rw [h] at hy
    injection hy with hy
    subst hy
    simp [cr, PF.bytes]
end Go.Proofs.Ytmoaecicibjmnaa

namespace Go.Proofs.Ytmoaecicibjmnaa
open Go.RowKit

set_option maxRecDepth 100000 in
set_option maxHeartbeats 4000000 in
/-- What is done one behind the other, up to an error: by an invariant of the steps. -/
theorem row_any {n b0 c : Nat} (hn : n ≤ 100) (g : Nat → Nat) (cap : Nat → Array Value) (I : Nat → World → Prop) (R : Int → World → Prop)
    (eg : ∀ j, j < n → ∀ args w, (callFunc (g j) args).run Try.prog w = .ok (.enter (g j) args) w)
    (hcell : ∀ j w, j < n → I j w → w.cell? ⟨b0, j, none⟩ = some (.func (.func (g j)) #[] (cap j)))
    (hstep : ∀ j w, j < n → I j w → Calls Try.prog (g j) (cap j) w fun e w' => ∃ r : Int, e = .returned (.int .i64 r) ∧ (r = 0 → I (j + 1) w') ∧ (r ≠ 0 → R r w'))
    (w : World) (h0 : I 0 w) : Calls Try.prog 76 #[.slice (some ⟨b0, 0, none⟩) n c] w fun e w' => ∃ r : Int, e = .returned (.int .i64 r) ∧ (r = 0 ∧ I n w' ∨ r ≠ 0 ∧ R r w') := by
  have HE := Lib.hid eg
  have HC := Lib.hid hcell
  have HS := Lib.hid hstep
  have H0 := Lib.hid h0
  clear eg hcell hstep h0
  obtain ⟨K, hK⟩ : ∃ K : Ending → World → Prop, K = fun e w' => ∃ r : Int, e = .returned (.int .i64 r) ∧ (r = 0 ∧ I n w' ∨ r ≠ 0 ∧ R r w') := ⟨_, rfl⟩
  have HK := Lib.hid hK
  rw [← hK]
  clear hK
  go_enter Try.func76, Try.ntmps76
  go_wp2_with fail
  go_loopw [8] (fun i wr => ∃ j : Nat, j ≤ n ∧ i = .int .i64 (j : Nat) ∧ Hid (I j wr)) (fun i _ => n - (intOf i).toNat)
  case atStart => exact ⟨0, Nat.zero_le _, rfl, H0⟩
  case round =>
    obtain ⟨j, hj, rfl, HI⟩ := hrel
    by_cases hlt : j < n
    · have q1 := HC.out j wr hlt HI.out
      have e1 := HE.out j hlt
      have C1 := Lib.hid (HS.out j wr hlt HI.out)
      generalize cap j = cj at *
      generalize g j = gj at *
      go_wp2_with fail
      (with_reducible refine C1.out.mono ?_); rintro e w2 ⟨r, rfl, h1, h2⟩
      by_cases hr : r = 0
      · have HI2 := Lib.hid (h1 hr)
        subst hr
        clear h1 h2 C1
        go_wp2_with fail
        case roundEnd => exact ⟨⟨j + 1, by omega, by go_num, HI2⟩, by simp [intOf]; omega⟩
      · have HR2 := Lib.hid (h2 hr)
        clear h1 h2 C1
        go_wp2_with fail
        rw [HK.out]
        exact ⟨_, rfl, .inr ⟨hr, HR2.out⟩⟩
    · obtain rfl : j = n := by omega
      go_wp2_with fail
      rw [HK.out]
      exact ⟨_, rfl, .inl ⟨rfl, HI.out⟩⟩
set_option maxRecDepth 100000 in
set_option maxHeartbeats 4000000 in
theorem son_any {M : Nat → Prop} {b : Nat} {F : FR} (w : World) (h : FSAt M w b F) (hG : Sound F) :
    Calls Try.prog 78 #[.pointer (some ⟨b, 0, none⟩)] w fun e w' => e = .returned (.int .i64 (onE F)) ∧ Turned M w w' b F := by
  have CF := fail_any w h hG (-1) (v := .slice none 0 0) (l := []) (P := fun _ => True) ⟨none, 0, rfl, fun h => absurd rfl h⟩ (Nat.zero_le _)
  have e1 : failF F (-1) [] = F := by unfold failF; rw [if_pos (.inr (by omega))]
  rw [e1] at CF
  unfold failE at CF
  unfold onE
  clear h hG e1
  by_cases ho : F.off = true
  · rw [if_pos ho] at CF ⊢
    have C1 := Lib.hid CF
    clear CF ho
    go_enter Try.func78, Try.ntmps78
    go_wp2_with fail
    (with_reducible refine C1.out.mono ?_); rintro e w2 ⟨rfl, ht⟩
    have HT := Lib.hid ht
    clear ht
    go_wp2_with fail
    go_ret
    exact ⟨rfl, HT.out⟩
  · rw [if_neg ho] at CF ⊢
    rw [if_pos (by omega)] at CF
    have C1 := Lib.hid CF
    clear CF ho
    go_enter Try.func78, Try.ntmps78
    go_wp2_with fail
    (with_reducible refine C1.out.mono ?_); rintro e w2 ⟨rfl, ht⟩
    have HT := Lib.hid ht
    clear ht
    go_wp2_with fail
    go_ret
    exact ⟨rfl, HT.out⟩
/-- The draft's name. -/
abbrev dN : ByteArray := tx [126]
def badN (n : ByteArray) : Prop := n.size = 0 ∨ 16 < n.size ∨ n = dN
instance (n : ByteArray) : Decidable (badN n) := by unfold badN; exact inferInstance
def nameE (n : ByteArray) : Int := if badN n then 2 else 0
theorem toList_beq (a b : ByteArray) : (a.toList == b.toList) = decide (a = b) := by
  by_cases h : a = b
  · subst h; simp
  · rw [decide_eq_false h]
    cases e : (a.toList == b.toList) with
    | false => rfl
    | true => exact absurd (toList_inj (by simpa using e)) h
theorem empty_iff (a : ByteArray) : a = ⟨#[]⟩ ↔ a.size = 0 := by
  constructor
  · rintro rfl; rfl
  · intro h; exact ByteArray.ext (Array.eq_empty_of_size_eq_zero h)
set_option maxRecDepth 100000 in
set_option maxHeartbeats 4000000 in
theorem snamed_any (w : World) (n : ByteArray) : Calls Try.prog 80 #[.string n] w fun e w' => e = .returned (.int .i64 (nameE n)) ∧ w' = w := by
  have t1 : n.toList.isEmpty = decide (n.size = 0) := by
    rw [ByteArray.toList_eq]
    show n.data.toList.isEmpty = decide (n.data.size = 0)
    rw [← Array.length_toList]
    cases n.data.toList <;> simp
  have t2 : (n.toList == [126]) = decide (n = ⟨#[126]⟩) := by
    have h : (⟨#[126]⟩ : ByteArray).toList = [126] := by rw [ByteArray.toList_eq]
    have h2 := toList_beq n ⟨#[126]⟩
    rw [h] at h2
    exact h2
  have t3 : n.toList = [] ↔ n.size = 0 := by
    rw [← List.isEmpty_iff, t1]; simp
  unfold nameE
  by_cases h1 : n.size = 0
  · rw [if_pos (show badN n from .inl h1)]
    rw [decide_eq_true h1] at t1
    have t4 := t3.2 h1
    rw [t4] at t2
    rw [show ([] == [(126 : UInt8)]) = false from rfl] at t2
    clear t2 t3
    go_enter Try.func80, Try.ntmps80
    go_wp2_with fail
    go_ret
    exact ⟨rfl, rfl⟩
  · rw [decide_eq_false h1] at t1
    have t4 : ¬ n.toList = [] := fun e => h1 (t3.1 e)
    clear t3
    by_cases h2 : 16 < n.size
    · rw [if_pos (show badN n from .inr (.inl h2))]
      clear t2
      go_enter Try.func80, Try.ntmps80
      go_wp2_with fail
      go_ret
      exact ⟨rfl, rfl⟩
    · by_cases h3 : n = ⟨#[126]⟩
      · rw [if_pos (show badN n from .inr (.inr h3))]
        rw [decide_eq_true h3] at t2
        clear h3
        go_enter Try.func80, Try.ntmps80
        go_wp2_with fail
        go_ret
        exact ⟨rfl, rfl⟩
      · rw [if_neg (show ¬ badN n from fun h => by rcases h with h | h | h; exact h1 h; exact h2 h; exact h3 h)]
        rw [decide_eq_false h3] at t2
        clear h3
        go_enter Try.func80, Try.ntmps80
        go_wp2_with fail
        go_ret
        exact ⟨rfl, rfl⟩
def cleanE (F : FR) : Int := if strokeE F dN = 4 then 0 else strokeE F dN
set_option maxRecDepth 100000 in
set_option maxHeartbeats 4000000 in
theorem clean_any {M : Nat → Prop} {b : Nat} {F : FR} (w : World) (h : FSAt M w b F) (hG : Sound F) :
    Calls Try.prog 39 #[.pointer (some ⟨b, 0, none⟩)] w fun e w' => e = .returned (.int .i64 (cleanE F)) ∧ Turned M w w' b (removeF F dN) := by
  have C1 := Lib.hid (remove_any w h hG dN)
  unfold cleanE
  generalize removeF F dN = R at *
  generalize strokeE F dN = E at *
  clear h hG
  by_cases h4 : E = 4
  · subst h4
    rw [if_pos rfl]
    go_enter Try.func39, Try.ntmps39
    go_wp2_with fail
    (with_reducible refine C1.out.mono ?_); rintro e w2 ⟨rfl, ht⟩
    have HT := Lib.hid ht
    clear ht
    go_wp2_with fail
    go_ret
    exact ⟨rfl, HT.out⟩
  · rw [if_neg h4]
    go_enter Try.func39, Try.ntmps39
    go_wp2_with fail
    (with_reducible refine C1.out.mono ?_); rintro e w2 ⟨rfl, ht⟩
    have HT := Lib.hid ht
    clear ht
    go_wp2_with fail
    go_ret
    exact ⟨rfl, HT.out⟩
end Go.Proofs.Ytmoaecicibjmnaa

namespace Go.Proofs.Ytmoaecicibjmnaa
open Go.RowKit

theorem three (w : World) (oA oB oC : Obj) : ∃ W, ((w.alloc oA).alloc oB).alloc oC = W ∧ Below w.heap.size w W ∧ W.heap.size = w.heap.size + 3 ∧ W.heap[w.heap.size]? = some oA ∧ W.heap[w.heap.size + 1]? = some oB ∧ W.heap[w.heap.size + 1 + 1]? = some oC := by
  refine ⟨_, rfl, ?_, by simp only [size_alloc], ?_, ?_, ?_⟩
  · exact (((Below.refl _ _).alloc (Nat.le_refl _) oA).alloc (by rw [size_alloc]; omega) oB).alloc (by rw [size_alloc, size_alloc]; omega) oC
  · rw [heap_alloc, if_neg (by simp only [size_alloc]; omega), heap_alloc, if_neg (by simp only [size_alloc]; omega), heap_alloc, if_pos rfl]
  · rw [heap_alloc, if_neg (by simp only [size_alloc]; omega), heap_alloc, if_pos (by simp only [size_alloc])]
  · rw [heap_alloc, if_pos (by simp only [size_alloc])]
set_option maxRecDepth 100000 in
theorem load1_any {M : Nat → Prop} {b p : Nat} {F : FR} (w : World) (h : FSAt M w b F) (hG : Sound F) (hp : w.cell? ⟨p, 0, none⟩ = some (.pointer (some ⟨b, 0, none⟩))) :
    Calls Try.prog 77 #[.pointer (some ⟨p, 0, none⟩)] w fun e w' => e = .returned (.int .i64 (onE F)) ∧ Turned M w w' b F := by
  have C1 := Lib.hid (son_any w h hG)
  generalize onE F = E at *
  clear h hG
  go_enter Try.func77, Try.ntmps77
  go_wp2_with fail
  (with_reducible refine C1.out.mono ?_); rintro e w2 ⟨rfl, ht⟩
  have HT := Lib.hid ht
  clear ht
  go_wp2_with fail
  go_ret
  exact ⟨rfl, HT.out⟩
set_option maxRecDepth 100000 in
theorem load2_any {p : Nat} {n : ByteArray} (w : World) (hp : w.cell? ⟨p, 0, none⟩ = some (.string n)) :
    Calls Try.prog 79 #[.pointer (some ⟨p, 0, none⟩)] w fun e w' => e = .returned (.int .i64 (nameE n)) ∧ w' = w := by
  have C1 := Lib.hid (snamed_any w n)
  generalize nameE n = E at *
  go_enter Try.func79, Try.ntmps79
  go_wp2_with fail
  (with_reducible refine C1.out.mono ?_); rintro e w2 ⟨rfl, rfl⟩
  go_wp2_with fail
  go_ret
  exact ⟨rfl, rfl⟩
def loadE (F : FR) (n : ByteArray) : Int := if F.off = true then 51 else if badN n then 2 else hasE F n
def loadS (F : FR) (n : ByteArray) : ByteArray := if loadE F n = 0 then readS F n else ⟨#[]⟩
theorem Turned.re {M : Nat → Prop} {w a w' : World} {b : Nat} {F F' : FR} (h : Turned M w a b F) (h2 : ∀ K, FSAt K a b F → Turned K a w' b F') : Turned M w w' b F' := by
  obtain ⟨M1, hf, hM, ho⟩ := h
  exact Turned.trans hM ho (h2 M1 hf)
theorem Turned.later {M : Nat → Prop} {w a w' : World} {b : Nat} {F : FR} (h : Turned M w a b F) (hb : Below a.heap.size a w') : Turned M w w' b F := by
  obtain ⟨M1, hf, hM, ho⟩ := h
  exact ⟨M1, hf.below hb, hM, ho.trans (Out.of_below hb) (fun _ hk => .inl hk)⟩
theorem Turned.start {M : Nat → Prop} {w W w' : World} {b : Nat} {F : FR} (hb : Below w.heap.size w W) (h : Turned M W w' b F) : Turned M w w' b F :=
  Turned.trans (fun _ hk => .inl hk) (Out.of_below hb) h
set_option maxRecDepth 100000 in
set_option maxHeartbeats 4000000 in
theorem load_any {M : Nat → Prop} {b : Nat} {F : FR} (w : World) (h : FSAt M w b F) (hG : Sound F) (n : ByteArray) :
    Calls Try.prog 37 #[.pointer (some ⟨b, 0, none⟩), .string n] w fun e w' => e = .returned (.tuple #[.string (loadS F n), .int .i64 (loadE F n)]) ∧ Turned M w w' b F := by
  have H := Lib.hid h
  have HG := Lib.hid hG
  clear h hG
  go_enter Try.func37, Try.ntmps37
  have hmf : ∀ (fn : Fn) (first cap : Array Value) (w : World), (Instr.makeFunc fn first cap).run Try.prog w = .ok (.func fn first cap) w := fun _ _ _ _ => rfl
  go_wp2_with fail
  obtain ⟨W, hW, hbW, hsW, x0, x1, x2⟩ := three w (.cells #[.pointer (some ⟨b, 0, none⟩)] 25) (.cells #[.string n] 9) (.cells #[.func (.func 77) #[] #[.pointer (some ⟨w.heap.size, 0, none⟩)], .func (.func 79) #[] #[.pointer (some ⟨w.heap.size + 1, 0, none⟩)]] 44)
  rw [hW]
  have y0 := cell_at x0 0
  have y1 := cell_at x1 0
  have z0 := cell_at x2 0
  have z1 := cell_at x2 1
  clear hW x0 x1 x2
  have nM : ∀ k, w.heap.size ≤ k → ¬ M k := fun k hk hm => by have := H.out.lt k hm; omega
  have C1 := row_any (n := 2) (b0 := w.heap.size + 1 + 1) (c := 2) (by omega) (fun j => if j = 0 then 77 else 79) (fun j => if j = 0 then #[.pointer (some ⟨w.heap.size, 0, none⟩)] else #[.pointer (some ⟨w.heap.size + 1, 0, none⟩)])
    (fun j w' => (1 ≤ j → onE F = 0) ∧ (2 ≤ j → nameE n = 0) ∧ Turned M W w' b F) (fun r w' => (r = if onE F = 0 then nameE n else onE F) ∧ Turned M W w' b F)
    (fun j hj args w => by
      rcases (show j = 0 ∨ j = 1 by omega) with rfl | rfl
      · exact enters_of Try.func77 (by kernel_rfl) rfl args w
      · exact enters_of Try.func79 (by kernel_rfl) rfl args w)
    (fun j w' hj hI => by
      obtain ⟨_, _, _, _, _, ho⟩ := hI
      have e := fun i => ho.cell (show w.heap.size + 1 + 1 < W.heap.size by omega) (nM _ (by omega)) i
      rcases (show j = 0 ∨ j = 1 by omega) with rfl | rfl
      · exact (e 0).trans z0
      · exact (e 1).trans z1)
    (fun j w' hj hI => by
      obtain ⟨h1, _, ht⟩ := hI
      obtain ⟨M1, hf1, hM1, ho⟩ := ht
      rcases (show j = 0 ∨ j = 1 by omega) with rfl | rfl
      · refine (load1_any w' hf1 HG.out ((ho.cell (show w.heap.size < W.heap.size by omega) (nM _ (by omega)) 0).trans y0)).mono ?_
        rintro e w2 ⟨rfl, ht2⟩
        have ht3 := Turned.trans hM1 ho ht2
        refine ⟨_, rfl, fun h => ⟨fun _ => h, fun h => by omega, ht3⟩, fun h => ⟨by rw [if_neg h], ht3⟩⟩
      · refine (load2_any w' ((ho.cell (show w.heap.size + 1 < W.heap.size by omega) (nM _ (by omega)) 0).trans y1)).mono ?_
        rintro e w2 ⟨rfl, rfl⟩
        exact ⟨_, rfl, fun h => ⟨fun _ => h1 (Nat.le_refl _), fun _ => h, M1, hf1, hM1, ho⟩, fun h => ⟨by rw [if_pos (h1 (Nat.le_refl _))], M1, hf1, hM1, ho⟩⟩)
    W ⟨fun h => by omega, fun h => by omega, Turned.below (H.out.below hbW) (Below.refl _ _)⟩
  have C2 := Lib.hid C1
  clear C1 z0 z1
  (with_reducible refine C2.out.mono ?_); rintro e w3 ⟨r, rfl, hr⟩
  rcases hr with ⟨rfl, h1, h2, M3, hf3, hM3, ho3⟩ | ⟨hr, he, ht⟩
  · have hon : ¬ F.off = true := fun e => by have := h1 (by omega); unfold onE at this; rw [if_pos e] at this; omega
    have hbad : ¬ badN n := fun e => by have := h2 (by omega); unfold nameE at this; rw [if_pos e] at this; omega
    have hE : loadE F n = hasE F n := by unfold loadE; rw [if_neg hon, if_neg hbad]
    have hS : loadS F n = readS F n := by
      unfold loadS; rw [hE]
      by_cases hh : hasE F n = 0
      · rw [if_pos hh]
      · rw [if_neg hh]; unfold readS; rw [if_neg hh]; rfl
    have q0 := (ho3.cell (show w.heap.size < W.heap.size by omega) (nM _ (by omega)) 0).trans y0
    have q1 := (ho3.cell (show w.heap.size + 1 < W.heap.size by omega) (nM _ (by omega)) 0).trans y1
    have CR := read_any hf3 HG.out n
    rw [← hE, ← hS] at CR
    have CR1 := Lib.hid CR
    have HT : Hid (Turned M w w3 b F) := Lib.hid (Turned.start hbW ⟨M3, hf3, hM3, ho3⟩)
    generalize hE1 : loadE F n = E at *
    generalize hS1 : loadS F n = S at *
    have HE1 := Lib.hid hE1
    have HS1 := Lib.hid hS1
    clear hE1 hS1
    clear CR hE hS hon hbad h1 h2 hf3 hM3 ho3 y0 y1 C2
    go_wp2_with fail
    (with_reducible refine CR1.out.mono ?_); rintro e w4 ⟨rfl, hb4⟩
    go_wp2_with fail
    go_ret2
    exact ⟨by rw [HE1.out, HS1.out]; rfl, HT.out.later hb4⟩
  · have hE : loadE F n = r := by
      rw [he]; unfold loadE onE nameE
      by_cases ho : F.off = true
      · rw [if_pos ho, if_pos ho, if_neg (by omega)]
      · rw [if_neg ho, if_neg ho, if_pos rfl]
        by_cases hb : badN n
        · rw [if_pos hb, if_pos hb]
        · exfalso; apply hr; rw [he]; unfold onE nameE; rw [if_neg ho, if_pos rfl, if_neg hb]
    have hS : loadS F n = ⟨#[]⟩ := by unfold loadS; rw [hE, if_neg hr]
    have HE := Lib.hid hE
    have HS := Lib.hid hS
    have HT : Hid (Turned M w w3 b F) := Lib.hid (Turned.start hbW ht)
    clear hE hS he ht C2
    go_wp2_with fail
    go_ret2
    exact ⟨by rw [HE.out, HS.out]; rfl, HT.out⟩
end Go.Proofs.Ytmoaecicibjmnaa

namespace Go.Proofs.Ytmoaecicibjmnaa
open Go.RowKit

set_option maxRecDepth 100000 in
theorem write1_any {M : Nat → Prop} {b p : Nat} {F : FR} (w : World) (h : FSAt M w b F) (hG : Sound F) (hp : w.cell? ⟨p, 0, none⟩ = some (.pointer (some ⟨b, 0, none⟩))) :
    Calls Try.prog 81 #[.pointer (some ⟨p, 0, none⟩)] w fun e w' => e = .returned (.int .i64 (onE F)) ∧ Turned M w w' b (F) := by
  have C1 := Lib.hid (son_any w h hG)
  generalize onE F = E at *
  clear h hG
  go_enter Try.func81, Try.ntmps81
  go_wp2_with fail
  (with_reducible refine C1.out.mono ?_); rintro e w2 ⟨rfl, ht⟩
  have HT := Lib.hid ht
  clear ht
  go_wp2_with fail
  go_ret
  exact ⟨rfl, HT.out⟩
set_option maxRecDepth 100000 in
theorem write2_any {p : Nat} {n : ByteArray} (w : World) (hp : w.cell? ⟨p, 0, none⟩ = some (.string n)) :
    Calls Try.prog 82 #[.pointer (some ⟨p, 0, none⟩)] w fun e w' => e = .returned (.int .i64 (nameE n)) ∧ w' = w := by
  have C1 := Lib.hid (snamed_any w n)
  generalize nameE n = E at *
  go_enter Try.func82, Try.ntmps82
  go_wp2_with fail
  (with_reducible refine C1.out.mono ?_); rintro e w2 ⟨rfl, rfl⟩
  go_wp2_with fail
  go_ret
  exact ⟨rfl, rfl⟩
set_option maxRecDepth 100000 in
theorem write3_any {M : Nat → Prop} {b p : Nat} {F : FR} (w : World) (h : FSAt M w b F) (hG : Sound F) (hp : w.cell? ⟨p, 0, none⟩ = some (.pointer (some ⟨b, 0, none⟩))) :
    Calls Try.prog 83 #[.pointer (some ⟨p, 0, none⟩)] w fun e w' => e = .returned (.int .i64 (cleanE F)) ∧ Turned M w w' b (removeF F dN) := by
  have C1 := Lib.hid (clean_any w h hG)
  generalize cleanE F = E at *
  clear h hG
  go_enter Try.func83, Try.ntmps83
  go_wp2_with fail
  (with_reducible refine C1.out.mono ?_); rintro e w2 ⟨rfl, ht⟩
  have HT := Lib.hid ht
  clear ht
  go_wp2_with fail
  go_ret
  exact ⟨rfl, HT.out⟩
set_option maxRecDepth 100000 in
theorem write4_any {M : Nat → Prop} {b p q : Nat} {t : ByteArray} {F : FR} (w : World) (h : FSAt M w b F) (hG : Sound F) (hp : w.cell? ⟨p, 0, none⟩ = some (.pointer (some ⟨b, 0, none⟩))) (hq : w.cell? ⟨q, 0, none⟩ = some (.string t)) (ht : t.size ≤ 9223372036854775807) :
    Calls Try.prog 84 #[.pointer (some ⟨p, 0, none⟩), .pointer (some ⟨q, 0, none⟩)] w fun e w' => e = .returned (.int .i64 (appE F dN t)) ∧ Turned M w w' b (appF F dN t) := by
  have C1 := Lib.hid (append_any w h hG dN t ht)
  generalize appE F dN t = E at *
  clear h hG ht
  go_enter Try.func84, Try.ntmps84
  go_wp2_with fail
  (with_reducible refine C1.out.mono ?_); rintro e w2 ⟨rfl, ht⟩
  have HT := Lib.hid ht
  clear ht
  go_wp2_with fail
  go_ret
  exact ⟨rfl, HT.out⟩
set_option maxRecDepth 100000 in
theorem write5_any {M : Nat → Prop} {b p : Nat} {F : FR} (w : World) (h : FSAt M w b F) (hG : Sound F) (hp : w.cell? ⟨p, 0, none⟩ = some (.pointer (some ⟨b, 0, none⟩))) :
    Calls Try.prog 85 #[.pointer (some ⟨p, 0, none⟩)] w fun e w' => e = .returned (.int .i64 (strokeE F dN)) ∧ Turned M w w' b (syncF F dN) := by
  have C1 := Lib.hid (sync_any w h hG dN)
  generalize strokeE F dN = E at *
  clear h hG
  go_enter Try.func85, Try.ntmps85
  go_wp2_with fail
  (with_reducible refine C1.out.mono ?_); rintro e w2 ⟨rfl, ht⟩
  have HT := Lib.hid ht
  clear ht
  go_wp2_with fail
  go_ret
  exact ⟨rfl, HT.out⟩
set_option maxRecDepth 100000 in
theorem write6_any {M : Nat → Prop} {b p q : Nat} {n : ByteArray} {F : FR} (w : World) (h : FSAt M w b F) (hG : Sound F) (hp : w.cell? ⟨p, 0, none⟩ = some (.pointer (some ⟨b, 0, none⟩))) (hq : w.cell? ⟨q, 0, none⟩ = some (.string n)) :
    Calls Try.prog 86 #[.pointer (some ⟨p, 0, none⟩), .pointer (some ⟨q, 0, none⟩)] w fun e w' => e = .returned (.int .i64 (renE F dN n)) ∧ Turned M w w' b (renameF F dN n) := by
  have C1 := Lib.hid (rename_any w h hG dN n)
  generalize renE F dN n = E at *
  clear h hG
  go_enter Try.func86, Try.ntmps86
  go_wp2_with fail
  (with_reducible refine C1.out.mono ?_); rintro e w2 ⟨rfl, ht⟩
  have HT := Lib.hid ht
  clear ht
  go_wp2_with fail
  go_ret
  exact ⟨rfl, HT.out⟩
/-- The states, and the answers, of a Write's steps. -/
def wF3 (F : FR) : FR := removeF F dN
def wF4 (F : FR) (t : ByteArray) : FR := appF (wF3 F) dN t
def wF5 (F : FR) (t : ByteArray) : FR := syncF (wF4 F t) dN
def wF6 (F : FR) (n t : ByteArray) : FR := renameF (wF5 F t) dN n
def wF (F : FR) (n t : ByteArray) (j : Nat) : FR := if j ≤ 2 then F else if j = 3 then wF3 F else if j = 4 then wF4 F t else if j = 5 then wF5 F t else wF6 F n t
def wE (F : FR) (n t : ByteArray) (j : Nat) : Int := if j = 0 then onE F else if j = 1 then nameE n else if j = 2 then cleanE F else if j = 3 then appE (wF3 F) dN t else if j = 4 then strokeE (wF4 F t) dN else renE (wF5 F t) dN n
def saveE (F : FR) (n t : ByteArray) : Int :=
  if wE F n t 0 ≠ 0 then wE F n t 0 else if wE F n t 1 ≠ 0 then wE F n t 1 else if wE F n t 2 ≠ 0 then wE F n t 2 else if wE F n t 3 ≠ 0 then wE F n t 3 else if wE F n t 4 ≠ 0 then wE F n t 4 else wE F n t 5
def saveF (F : FR) (n t : ByteArray) : FR :=
  if wE F n t 0 ≠ 0 then F else if wE F n t 1 ≠ 0 then F else if wE F n t 2 ≠ 0 then wF3 F else if wE F n t 3 ≠ 0 then wF4 F t else if wE F n t 4 ≠ 0 then wF5 F t else wF6 F n t
theorem Sound.w3 {F : FR} (h : Sound F) : Sound (wF3 F) := h.with' ⟨7, dN, tx [], tx [], 0, []⟩ (by show (0 : Int) ≤ _; omega) (Nat.zero_le _)
theorem Sound.w4 {F : FR} (h : Sound F) (t : ByteArray) : Sound (wF4 F t) := h.w3.with' ⟨0, dN, tx [], t, 0, []⟩ (by show (0 : Int) ≤ _; omega) (Nat.zero_le _)
theorem Sound.w5 {F : FR} (h : Sound F) (t : ByteArray) : Sound (wF5 F t) := (h.w4 t).with' ⟨3, dN, tx [], tx [], 0, []⟩ (by show (0 : Int) ≤ _; omega) (Nat.zero_le _)
theorem Sound.w6 {F : FR} (h : Sound F) (n t : ByteArray) : Sound (wF6 F n t) := (h.w5 t).with' ⟨6, dN, n, tx [], 0, []⟩ (by show (0 : Int) ≤ _; omega) (Nat.zero_le _)
theorem Sound.saved {F : FR} (h : Sound F) (n t : ByteArray) : Sound (saveF F n t) := by
  unfold saveF
  split; exact h
  split; exact h
  split; exact h.w3
  split; exact h.w4 t
  split; exact h.w5 t
  exact h.w6 n t
theorem saved_at {F : FR} {n t : ByteArray} {j : Nat} (hj : j < 6) (h0 : ∀ i, i < j → wE F n t i = 0) (hr : wE F n t j ≠ 0) : saveE F n t = wE F n t j ∧ saveF F n t = wF F n t (j + 1) := by
  unfold saveE saveF
  rcases (show j = 0 ∨ j = 1 ∨ j = 2 ∨ j = 3 ∨ j = 4 ∨ j = 5 by omega) with rfl | rfl | rfl | rfl | rfl | rfl
  · rw [if_pos hr, if_pos hr]; exact ⟨rfl, rfl⟩
  · simp only [h0 0 (by omega), ne_eq, not_true_eq_false, if_false]; rw [if_pos hr, if_pos hr]; exact ⟨rfl, rfl⟩
  · simp only [h0 0 (by omega), h0 1 (by omega), ne_eq, not_true_eq_false, if_false]; rw [if_pos hr, if_pos hr]; exact ⟨rfl, rfl⟩
  · simp only [h0 0 (by omega), h0 1 (by omega), h0 2 (by omega), ne_eq, not_true_eq_false, if_false]; rw [if_pos hr, if_pos hr]; exact ⟨rfl, rfl⟩
  · simp only [h0 0 (by omega), h0 1 (by omega), h0 2 (by omega), h0 3 (by omega), ne_eq, not_true_eq_false, if_false]; rw [if_pos hr, if_pos hr]; exact ⟨rfl, rfl⟩
  · simp only [h0 0 (by omega), h0 1 (by omega), h0 2 (by omega), h0 3 (by omega), h0 4 (by omega), ne_eq, not_true_eq_false, if_false]; exact ⟨trivial, rfl⟩
theorem saved_ok {F : FR} {n t : ByteArray} (h0 : ∀ i, i < 6 → wE F n t i = 0) : saveE F n t = 0 ∧ saveF F n t = wF6 F n t := by
  unfold saveE saveF
  simp only [h0 0 (by omega), h0 1 (by omega), h0 2 (by omega), h0 3 (by omega), h0 4 (by omega), h0 5 (by omega), ne_eq, not_true_eq_false, if_false]
  exact ⟨trivial, trivial⟩
set_option maxRecDepth 100000 in
set_option maxHeartbeats 4000000 in
theorem write_any {M : Nat → Prop} {b : Nat} {F : FR} (w : World) (h : FSAt M w b F) (hG : Sound F) (n t : ByteArray) (ht : t.size ≤ 9223372036854775807) :
    Calls Try.prog 38 #[.pointer (some ⟨b, 0, none⟩), .string n, .string t] w fun e w' => e = .returned (.int .i64 (saveE F n t)) ∧ Turned M w w' b (saveF F n t) := by
  have H := Lib.hid h
  have HG := Lib.hid hG
  have HTT := Lib.hid ht
  clear h hG ht
  go_enter Try.func38, Try.ntmps38
  have hmf : ∀ (fn : Fn) (first cap : Array Value) (w : World), (Instr.makeFunc fn first cap).run Try.prog w = .ok (.func fn first cap) w := fun _ _ _ _ => rfl
  go_wp2_with fail
  obtain ⟨W, hW, hbW, hsW, x0, x1, x2, x3⟩ := four w (.cells #[.pointer (some ⟨b, 0, none⟩)] 25) (.cells #[.string n] 9) (.cells #[.string t] 9) (.cells #[.func (.func 81) #[] #[.pointer (some ⟨w.heap.size, 0, none⟩)], .func (.func 82) #[] #[.pointer (some ⟨w.heap.size + 1, 0, none⟩)], .func (.func 83) #[] #[.pointer (some ⟨w.heap.size, 0, none⟩)], .func (.func 84) #[] #[.pointer (some ⟨w.heap.size, 0, none⟩), .pointer (some ⟨w.heap.size + 1 + 1, 0, none⟩)], .func (.func 85) #[] #[.pointer (some ⟨w.heap.size, 0, none⟩)], .func (.func 86) #[] #[.pointer (some ⟨w.heap.size, 0, none⟩), .pointer (some ⟨w.heap.size + 1, 0, none⟩)]] 44)
  rw [hW]
  have y0 := cell_at x0 0
  have y1 := cell_at x1 0
  have y2 := cell_at x2 0
  have z0 := cell_at x3 0
  have z1 := cell_at x3 1
  have z2 := cell_at x3 2
  have z3 := cell_at x3 3
  have z4 := cell_at x3 4
  have z5 := cell_at x3 5
  clear hW x0 x1 x2 x3
  have nM : ∀ k, w.heap.size ≤ k → ¬ M k := fun k hk hm => by have := H.out.lt k hm; omega
  have j6 : ∀ j, j < 6 → j = 0 ∨ j = 1 ∨ j = 2 ∨ j = 3 ∨ j = 4 ∨ j = 5 := fun j hj => by omega
  have C1 := row_any (n := 6) (b0 := w.heap.size + 1 + 1 + 1) (c := 6) (by omega) (fun j => if j = 0 then 81 else if j = 1 then 82 else if j = 2 then 83 else if j = 3 then 84 else if j = 4 then 85 else 86)
    (fun j => if j = 0 then #[.pointer (some ⟨w.heap.size, 0, none⟩)] else if j = 1 then #[.pointer (some ⟨w.heap.size + 1, 0, none⟩)] else if j = 2 then #[.pointer (some ⟨w.heap.size, 0, none⟩)] else if j = 3 then #[.pointer (some ⟨w.heap.size, 0, none⟩), .pointer (some ⟨w.heap.size + 1 + 1, 0, none⟩)] else if j = 4 then #[.pointer (some ⟨w.heap.size, 0, none⟩)] else #[.pointer (some ⟨w.heap.size, 0, none⟩), .pointer (some ⟨w.heap.size + 1, 0, none⟩)])
    (fun j w' => (∀ i, i < j → wE F n t i = 0) ∧ Turned M W w' b (wF F n t j)) (fun r w' => r = saveE F n t ∧ Turned M W w' b (saveF F n t))
    (fun j hj args w => by
      rcases j6 j hj with rfl | rfl | rfl | rfl | rfl | rfl
      · exact enters_of Try.func81 (by kernel_rfl) rfl args w
      · exact enters_of Try.func82 (by kernel_rfl) rfl args w
      · exact enters_of Try.func83 (by kernel_rfl) rfl args w
      · exact enters_of Try.func84 (by kernel_rfl) rfl args w
      · exact enters_of Try.func85 (by kernel_rfl) rfl args w
      · exact enters_of Try.func86 (by kernel_rfl) rfl args w)
    (fun j w' hj hI => by
      obtain ⟨_, _, _, _, ho⟩ := hI
      have e := fun i => ho.cell (show w.heap.size + 1 + 1 + 1 < W.heap.size by omega) (nM _ (by omega)) i
      rcases j6 j hj with rfl | rfl | rfl | rfl | rfl | rfl
      · exact (e 0).trans z0
      · exact (e 1).trans z1
      · exact (e 2).trans z2
      · exact (e 3).trans z3
      · exact (e 4).trans z4
      · exact (e 5).trans z5)
    (fun j w' hj hI => by
      obtain ⟨h1, M1, hf1, hM1, ho⟩ := hI
      have p0 := (ho.cell (show w.heap.size < W.heap.size by omega) (nM _ (by omega)) 0).trans y0
      have p1 := (ho.cell (show w.heap.size + 1 < W.heap.size by omega) (nM _ (by omega)) 0).trans y1
      have p2 := (ho.cell (show w.heap.size + 1 + 1 < W.heap.size by omega) (nM _ (by omega)) 0).trans y2
      have fin : ∀ w2, Turned M W w2 b (wF F n t (j + 1)) → ∃ r : Int, (Ending.returned (.int .i64 (wE F n t j)) = .returned (.int .i64 r)) ∧ (r = 0 → (∀ i, i < j + 1 → wE F n t i = 0) ∧ Turned M W w2 b (wF F n t (j + 1))) ∧ (r ≠ 0 → r = saveE F n t ∧ Turned M W w2 b (saveF F n t)) := fun w2 ht3 =>
        ⟨_, rfl, fun h => ⟨fun i hi => by
          rcases Nat.lt_or_ge i j with h2 | h2
          · exact h1 i h2
          · obtain rfl : i = j := by omega
            exact h, ht3⟩, fun h => by
          obtain ⟨e1, e2⟩ := saved_at hj h1 h
          rw [e1, e2]; exact ⟨rfl, ht3⟩⟩
      rcases j6 j hj with rfl | rfl | rfl | rfl | rfl | rfl
      · refine (write1_any w' hf1 HG.out p0).mono ?_
        rintro e w2 ⟨rfl, ht2⟩
        exact fin w2 (Turned.trans hM1 ho ht2)
      · refine (write2_any w' p1).mono ?_
        rintro e w2 ⟨rfl, rfl⟩
        exact fin _ ⟨M1, hf1, hM1, ho⟩
      · refine (write3_any w' hf1 HG.out p0).mono ?_
        rintro e w2 ⟨rfl, ht2⟩
        exact fin w2 (Turned.trans hM1 ho ht2)
      · refine (write4_any w' hf1 HG.out.w3 p0 p2 HTT.out).mono ?_
        rintro e w2 ⟨rfl, ht2⟩
        exact fin w2 (Turned.trans hM1 ho ht2)
      · refine (write5_any w' hf1 (HG.out.w4 t) p0).mono ?_
        rintro e w2 ⟨rfl, ht2⟩
        exact fin w2 (Turned.trans hM1 ho ht2)
      · refine (write6_any w' hf1 (HG.out.w5 t) p0 p1).mono ?_
        rintro e w2 ⟨rfl, ht2⟩
        exact fin w2 (Turned.trans hM1 ho ht2))
    W ⟨fun i hi => by omega, Turned.below (H.out.below hbW) (Below.refl _ _)⟩
  have C2 := Lib.hid C1
  clear C1 z0 z1 z2 z3 z4 z5 y0 y1 y2 j6 nM
  (with_reducible refine C2.out.mono ?_); rintro e w3 ⟨r, rfl, hr⟩
  have hfin : r = saveE F n t ∧ Turned M W w3 b (saveF F n t) := by
    rcases hr with ⟨rfl, h1, h2⟩ | ⟨_, h⟩
    · obtain ⟨e1, e2⟩ := saved_ok h1
      rw [e1, e2]; exact ⟨rfl, h2⟩
    · exact h
  obtain ⟨he, ht⟩ := hfin
  have HE := Lib.hid he
  have HT : Hid (Turned M w w3 b (saveF F n t)) := Lib.hid (Turned.start hbW ht)
  clear hr he ht C2
  go_wp2_with fail
  go_ret
  exact ⟨by rw [HE.out]; rfl, HT.out⟩
end Go.Proofs.Ytmoaecicibjmnaa

namespace Go.Proofs.Ytmoaecicibjmnaa
open Go.RowKit

theorem mem_isAt {L : List PF} (hL : Rising L) (n : ByteArray) : isAt L n = true ↔ ∃ x ∈ L, x.name = n := by
  constructor
  · intro h
    obtain ⟨x, hx, hn⟩ := isAt_get h
    exact ⟨x, List.mem_of_getElem? hx, hn⟩
  · rintro ⟨x, hx, rfl⟩
    obtain ⟨k, hk⟩ := List.mem_iff_getElem?.1 hx
    exact isAt_self hL hk
theorem mem_uniq {L : List PF} (hL : Rising L) {x y : PF} (hx : x ∈ L) (hy : y ∈ L) (hn : x.name = y.name) : x = y := by
  obtain ⟨i, hi⟩ := List.mem_iff_getElem?.1 hx
  obtain ⟨j, hj⟩ := List.mem_iff_getElem?.1 hy
  have h1 := place_self hL hi
  have h2 := place_self hL hj
  rw [hn, h2] at h1
  subst h1
  rw [hi] at hj
  injection hj
theorem rising_drop {L : List PF} (hL : Rising L) (n : ByteArray) : Rising (dropL L n) := by
  unfold dropL
  split
  · exact List.Pairwise.sublist (List.eraseIdx_sublist _ _) hL
  · exact hL
theorem mem_drop {L : List PF} (hL : Rising L) (n : ByteArray) (y : PF) : y ∈ dropL L n ↔ y ∈ L ∧ y.name ≠ n := by
  constructor
  · intro h
    refine ⟨?_, fun hn => ?_⟩
    · unfold dropL at h
      split at h
      · exact (List.eraseIdx_sublist _ _).subset h
      · exact h
    · have := drop_none hL n
      rw [(mem_isAt (rising_drop hL n) n).2 ⟨y, h, hn⟩] at this
      cases this
  · rintro ⟨h, hn⟩
    unfold dropL
    split
    · rename_i hi
      obtain ⟨x, hx, hxn⟩ := isAt_get hi
      obtain ⟨j, hj⟩ := List.mem_iff_getElem?.1 h
      refine List.mem_eraseIdx_iff_getElem?.2 ⟨j, fun e => ?_, hj⟩
      rw [e, hx] at hj
      injection hj with hj
      subst hj
      exact hn hxn
    · exact h
theorem mem_insL {L : List PF} {i : Nat} {x y : PF} : y ∈ insL L i x ↔ y = x ∨ y ∈ L := by
  refine ⟨mem_ins, fun h => ?_⟩
  unfold insL
  rw [List.mem_append, List.mem_cons]
  rcases h with h | h
  · exact .inr (.inl h)
  · rw [← List.take_append_drop i L, List.mem_append] at h
    rcases h with h | h
    · exact .inl h
    · exact .inr (.inr h)
theorem mem_setL {L : List PF} (hL : Rising L) {i : Nat} {x x' : PF} (h : L[i]? = some x) (y : PF) : y ∈ L.set i x' ↔ y = x' ∨ (y ∈ L ∧ y.name ≠ x.name) := by
  have hi := (List.getElem?_eq_some_iff.1 h).1
  constructor
  · intro hy
    obtain ⟨j, hj⟩ := List.mem_iff_getElem?.1 hy
    by_cases e : j = i
    · subst e
      rw [List.getElem?_set_self hi] at hj
      injection hj with hj
      exact .inl hj.symm
    · rw [List.getElem?_set_ne (Ne.symm e)] at hj
      refine .inr ⟨List.mem_of_getElem? hj, fun hn => e ?_⟩
      have h1 := place_self hL hj
      have h2 := place_self hL h
      rw [hn, h2] at h1
      exact h1.symm
  · rintro (rfl | ⟨hy, hn⟩)
    · exact List.mem_iff_getElem?.2 ⟨i, List.getElem?_set_self hi⟩
    · obtain ⟨j, hj⟩ := List.mem_iff_getElem?.1 hy
      refine List.mem_iff_getElem?.2 ⟨j, ?_⟩
      rw [List.getElem?_set_ne (fun e => ?_)]
      · exact hj
      · subst e
        rw [h] at hj
        injection hj with hj
        subst hj
        exact hn rfl
theorem cr_synced {x : PF} (h : x.air = ByteArray.empty) (k : Int) : cr x k = x := by
  cases x with
  | mk a p r =>
    subst h
    simp [cr]
theorem cr_name (x : PF) (k : Int) : (cr x k).name = x.name := rfl

/-- All but the draft is on the platter. -/
def Synced (F : FR) : Prop := ∀ y ∈ F.files, y.name ≠ dN → y.air = ByteArray.empty
theorem crash_rest {F : FR} (hs : Synced F) (keep : List Int) (y : PF) (hy : y.name ≠ dN) : y ∈ (crashF F keep).files ↔ y ∈ F.files := by
  show y ∈ crashL F.files keep ↔ _
  constructor
  · intro h
    obtain ⟨i, hi⟩ := List.mem_iff_getElem?.1 h
    obtain ⟨x, hx⟩ : ∃ x, F.files[i]? = some x := ⟨_, List.getElem?_eq_getElem (by have := (List.getElem?_eq_some_iff.1 hi).1; rw [crash_len] at this; exact this)⟩
    have := crash_get F.files keep hx
    rw [hi] at this
    injection this with this
    have hxm := List.mem_of_getElem? hx
    have hxn : x.name ≠ dN := by rw [← cr_name x (keepAt keep i), ← this]; exact hy
    rw [this, cr_synced (hs x hxm hxn)]
    exact hxm
  · intro h
    obtain ⟨i, hi⟩ := List.mem_iff_getElem?.1 h
    have := crash_get F.files keep hi
    rw [cr_synced (hs y h hy)] at this
    exact List.mem_of_getElem? this
/-- A state of a Write, ahead of its Rename. -/
structure Mid (F G : FR) : Prop where
  off : G.off = false
  lim : G.limit = F.limit
  neg : F.left = -1 → G.left = -1
  rest : ∀ y : PF, y.name ≠ dN → (y ∈ G.files ↔ y ∈ F.files)
  snd : Sound G
theorem Mid.synced {F G : FR} (h : Mid F G) (hs : Synced F) : Synced G := fun y hy hn => hs y ((h.rest y hn).1 hy) hn
/-- What a Write that is cut off leaves. -/
structure Cut (F G : FR) : Prop where
  hit : F.left ≠ -1
  off : G.off = true
  left : G.left = -1
  lim : G.limit = F.limit
  rest : ∀ y : PF, y.name ≠ dN → (y ∈ G.files ↔ y ∈ F.files)
theorem Mid.cut {F G : FR} (h : Mid F G) (hs : Synced F) (hl : G.left = 0) (keep : List Int) : Cut F (crashF G keep) :=
  ⟨fun e => by have := h.neg e; omega, rfl, rfl, h.lim, fun y hy => (crash_rest (h.synced hs) keep y hy).trans (h.rest y hy)⟩
theorem d_named : namedB dN = true := by decide +kernel
theorem hasE_on {F : FR} (hG : Sound F) (ho : F.off = false) (n : ByteArray) : (hasE F n = 0 ∧ ∃ x ∈ F.files, x.name = n) ∨ (hasE F n = 4 ∧ ∀ x ∈ F.files, x.name ≠ n) := by
  unfold hasE
  rw [if_neg (by rw [ho]; simp)]
  by_cases hi : isAt F.files n = true
  · rw [if_pos hi]; exact .inl ⟨rfl, (mem_isAt hG.asc n).1 hi⟩
  · rw [if_neg hi]; exact .inr ⟨rfl, fun x hx hn => hi ((mem_isAt hG.asc n).2 ⟨x, hx, hn⟩)⟩
end Go.Proofs.Ytmoaecicibjmnaa

namespace Go.Proofs.Ytmoaecicibjmnaa
open Go.RowKit

theorem done_cases {F F2 : FR} (h2 : F2.left = F.left) : (F.left = 0 ∧ doneF F F2 = crashF F F.keep) ∨ (F.left ≠ 0 ∧ (doneF F F2).files = F2.files ∧ (doneF F F2).off = F2.off ∧ (doneF F F2).limit = F2.limit ∧ (F.left = -1 → (doneF F F2).left = -1)) := by
  unfold doneF
  by_cases h : F.left = 0
  · rw [if_pos h]; exact .inl ⟨h, rfl⟩
  · rw [if_neg h]
    by_cases h3 : 0 < F.left
    · rw [if_pos h3]; exact .inr ⟨h, rfl, rfl, rfl, fun e => by omega⟩
    · rw [if_neg h3]; exact .inr ⟨h, rfl, rfl, rfl, fun e => by rw [h2, e]⟩
theorem doneA_cases (F : FR) : (F.left = 0 ∧ doneA F = crashF F F.keep) ∨ (F.left ≠ 0 ∧ (doneA F).files = F.files ∧ (doneA F).off = F.off ∧ (doneA F).limit = F.limit ∧ (F.left = -1 → (doneA F).left = -1)) := by
  unfold doneA
  by_cases h : F.left = 0
  · rw [if_pos h]; exact .inl ⟨h, rfl⟩
  · rw [if_neg h]
    by_cases h3 : 0 < F.left
    · rw [if_pos h3]; exact .inr ⟨h, rfl, rfl, rfl, fun e => by omega⟩
    · rw [if_neg h3]; exact .inr ⟨h, rfl, rfl, rfl, fun e => e⟩
theorem Mid.self {F : FR} (hG : Sound F) (ho : F.off = false) : Mid F F := ⟨ho, rfl, fun h => h, fun _ _ => Iff.rfl, hG⟩
theorem clean_law {F : FR} (hG : Sound F) (ho : F.off = false) (hs : Synced F) :
    (cleanE F = 51 ∧ Cut F (wF3 F)) ∨ (cleanE F = 0 ∧ Mid F (wF3 F) ∧ (∀ y ∈ (wF3 F).files, y.name ≠ dN)) := by
  rcases hasE_on hG ho dN with ⟨h0, _⟩ | ⟨h4, hno⟩
  · have hw : wF3 F = doneF F (dropF F dN) := by unfold wF3 removeF; rw [if_pos h0]
    have hst : strokeE F dN = if F.left = 0 then 51 else 0 := by unfold strokeE; rw [if_pos h0]
    rcases done_cases (F := F) (F2 := dropF F dN) rfl with ⟨hl, hd⟩ | ⟨hl, d1, d2, d3, d4⟩
    · refine .inl ⟨?_, ?_⟩
      · unfold cleanE; rw [hst, if_pos hl, if_neg (by omega)]
      · rw [hw, hd]; exact (Mid.self hG ho).cut hs hl _
    · refine .inr ⟨?_, ?_, ?_⟩
      · unfold cleanE; rw [hst, if_neg hl, if_neg (by omega)]
      · refine ⟨?_, ?_, ?_, ?_, hG.w3⟩
        · rw [hw, d2]; exact ho
        · rw [hw, d3]; rfl
        · rw [hw]; exact d4
        · intro y hy
          rw [hw, d1]
          show y ∈ dropL F.files dN ↔ _
          rw [mem_drop hG.asc]
          exact ⟨fun h => h.1, fun h => ⟨h, hy⟩⟩
      · intro y hy
        rw [hw, d1] at hy
        exact ((mem_drop hG.asc dN y).1 hy).2
  · have hw : wF3 F = F := by unfold wF3 removeF; rw [if_neg (by rw [h4]; omega)]
    have hst : strokeE F dN = 4 := by unfold strokeE; rw [if_neg (by rw [h4]; omega), h4]
    refine .inr ⟨?_, ?_, ?_⟩
    · unfold cleanE; rw [hst, if_pos rfl]
    · rw [hw]; exact Mid.self hG ho
    · rw [hw]; exact hno
theorem rising_insL {F : FR} (hG : Sound F) (hno : ∀ y ∈ F.files, y.name ≠ dN) : Rising (insL F.files (place F.files dN) (noX dN)) := by
  refine rising_ins hG.asc (noX dN) ?_
  cases h : isAt F.files dN with
  | false => exact h
  | true =>
    obtain ⟨x, hx, hn⟩ := (mem_isAt hG.asc dN).1 h
    exact absurd hn (hno x hx)
theorem appX_mem {F : FR} (hG : Sound F) (hno : ∀ y ∈ F.files, y.name ≠ dN) (t : ByteArray) (y : PF) : y ∈ (appX F dN t).files ↔ y = ⟨dN, ByteArray.empty, t⟩ ∨ y ∈ F.files := by
  have hi : ¬ isAt F.files dN = true := fun h => by
    obtain ⟨x, hx, hn⟩ := (mem_isAt hG.asc dN).1 h
    exact hno x hx hn
  have hg : (insL F.files (place F.files dN) (noX dN))[place F.files dN]? = some (noX dN) := insL_get F.files _ _ (place_le _ _)
  have ha : addX (noX dN) t = ⟨dN, ByteArray.empty, t⟩ := by simp [addX, noX]
  unfold appX
  rw [if_neg hi]
  show y ∈ (insL F.files (place F.files dN) (noX dN)).set (place F.files dN) (addX (noX dN) t) ↔ _
  rw [mem_setL (rising_insL hG hno) hg, mem_insL, ha]
  constructor
  · rintro (h | ⟨h | h, hn⟩)
    · exact .inl h
    · exact absurd (by rw [h]) hn
    · exact .inr h
  · rintro (h | h)
    · exact .inl h
    · exact .inr ⟨.inr h, hno y h⟩
theorem append_law {F G : FR} (hm : Mid F G) (hs : Synced F) (hno : ∀ y ∈ G.files, y.name ≠ dN) (t : ByteArray) :
    (appE G dN t = 50 ∧ appF G dN t = G ∧ (G.files.length = 32 ∨ F.limit < (total G.files : Int) + (t.size : Int))) ∨ (appE G dN t = 51 ∧ Cut F (appF G dN t)) ∨
    (appE G dN t = 0 ∧ Mid F (appF G dN t) ∧ (⟨dN, ByteArray.empty, t⟩ : PF) ∈ (appF G dN t).files) := by
  have hoff : ¬ G.off = true := by rw [hm.off]; simp
  have hnd : ¬ namedB dN = false := by rw [d_named]; simp
  by_cases hf : fullB G dN t = true
  · refine .inl ⟨?_, ?_, ?_⟩
    · unfold appE; rw [if_neg hoff, if_neg hnd, if_pos hf]
    · unfold appF; rw [if_pos (.inr (.inr hf))]
    · unfold fullB at hf
      simp only [Bool.or_eq_true, Bool.and_eq_true, decide_eq_true_eq] at hf
      rcases hf with h | h
      · exact .inl h.2
      · have := hm.lim; exact .inr (by omega)
  · have hE : appE G dN t = if G.left = 0 then 51 else 0 := by unfold appE; rw [if_neg hoff, if_neg hnd, if_neg hf]
    have hF : appF G dN t = doneA (appX G dN t) := by
      unfold appF
      rw [if_neg (fun h => by rcases h with h | h | h; exact hoff h; exact hnd h; exact hf h)]
    obtain ⟨x1, x2, x3, _, _⟩ := appX_left G dN t
    have hsnd : Sound (appF G dN t) := hm.snd.with' ⟨0, dN, tx [], t, 0, []⟩ (by show (0 : Int) ≤ _; omega) (Nat.zero_le _)
    have hrest : ∀ y : PF, y.name ≠ dN → (y ∈ (appX G dN t).files ↔ y ∈ F.files) := fun y hy => by
      rw [appX_mem hm.snd hno]
      constructor
      · rintro (h | h)
        · exact absurd (by rw [h]) hy
        · exact (hm.rest y hy).1 h
      · exact fun h => .inr ((hm.rest y hy).2 h)
    rcases doneA_cases (appX G dN t) with ⟨hl, hd⟩ | ⟨hl, d1, d2, d3, d4⟩
    · refine .inr (.inl ⟨by rw [hE, if_pos (by rw [← x1]; exact hl)], ?_⟩)
      rw [hF, hd]
      have hsy : Synced (appX G dN t) := fun y hy hn => hs y ((hrest y hn).1 hy) hn
      exact ⟨fun e => by have := hm.neg e; omega, rfl, rfl, x3.trans hm.lim, fun y hy => (crash_rest hsy _ y hy).trans (hrest y hy)⟩
    · refine .inr (.inr ⟨by rw [hE, if_neg (by rw [← x1]; exact hl)], ⟨?_, ?_, ?_, ?_, hsnd⟩, ?_⟩)
      · rw [hF, d2, x2]; exact hm.off
      · rw [hF, d3, x3]; exact hm.lim
      · intro h; rw [hF]; exact d4 (x1.trans (hm.neg h))
      · intro y hy; rw [hF, d1]; exact hrest y hy
      · rw [hF, d1, appX_mem hm.snd hno]; exact .inl rfl
theorem sync_law {F G : FR} (hm : Mid F G) (hs : Synced F) {t : ByteArray} (hd : (⟨dN, ByteArray.empty, t⟩ : PF) ∈ G.files) :
    (strokeE G dN = 51 ∧ Cut F (syncF G dN)) ∨ (strokeE G dN = 0 ∧ Mid F (syncF G dN) ∧ (⟨dN, t, ByteArray.empty⟩ : PF) ∈ (syncF G dN).files) := by
  have h0 : hasE G dN = 0 := by
    rcases hasE_on hm.snd hm.off dN with ⟨h, _⟩ | ⟨_, h⟩
    · exact h
    · exact absurd rfl (h _ hd)
  have hst : strokeE G dN = if G.left = 0 then 51 else 0 := by unfold strokeE; rw [if_pos h0]
  have hw : syncF G dN = doneF G (setX G dN syncX) := by unfold syncF; rw [if_pos h0]
  obtain ⟨k, hk⟩ := List.mem_iff_getElem?.1 hd
  have hp : place G.files dN = k := place_self hm.snd.asc hk
  have hset : setX G dN syncX = putF G k ⟨dN, t, ByteArray.empty⟩ := by
    unfold setX
    rw [hp, hk]
    simp [syncX, PF.bytes]
  have hsnd : Sound (syncF G dN) := hm.snd.with' ⟨3, dN, tx [], tx [], 0, []⟩ (by show (0 : Int) ≤ _; omega) (Nat.zero_le _)
  rcases done_cases (F := G) (F2 := setX G dN syncX) (by rw [hset]; rfl) with ⟨hl, hd'⟩ | ⟨hl, d1, d2, d3, d4⟩
  · refine .inl ⟨by rw [hst, if_pos hl], ?_⟩
    rw [hw, hd']; exact hm.cut hs hl _
  · have hmem : ∀ y, y ∈ (syncF G dN).files ↔ y = ⟨dN, t, ByteArray.empty⟩ ∨ (y ∈ G.files ∧ y.name ≠ dN) := fun y => by
      rw [hw, d1, hset]
      exact mem_setL hm.snd.asc hk y
    refine .inr ⟨by rw [hst, if_neg hl], ⟨?_, ?_, ?_, ?_, hsnd⟩, (hmem _).2 (.inl rfl)⟩
    · rw [hw, d2, hset]; exact hm.off
    · rw [hw, d3, hset]; exact hm.lim
    · intro h; rw [hw]; exact d4 (hm.neg h)
    · intro y hy
      rw [hmem, ← hm.rest y hy]
      exact ⟨fun h => by rcases h with h | h; exact absurd (by rw [h]) hy; exact h.1, fun h => .inr ⟨h, hy⟩⟩
/-- What a Write that was done leaves. -/
structure Done (F : FR) (n t : ByteArray) (G : FR) : Prop where
  off : G.off = false
  lim : G.limit = F.limit
  neg : F.left = -1 → G.left = -1
  files : ∀ y, y ∈ G.files ↔ y = ⟨n, t, ByteArray.empty⟩ ∨ (y ∈ F.files ∧ y.name ≠ n ∧ y.name ≠ dN)
theorem good_name {n : ByteArray} (h : ¬ badN n) : namedB n = true ∧ n ≠ dN := by
  unfold badN at h
  refine ⟨?_, fun e => h (.inr (.inr e))⟩
  unfold namedB
  rw [Bool.and_eq_true, decide_eq_true_eq, decide_eq_true_eq]
  refine ⟨?_, ?_⟩
  · have : ¬ n.size = 0 := fun e => h (.inl e)
    omega
  · have : ¬ 16 < n.size := fun e => h (.inr (.inl e))
    omega
theorem rename_law {F G : FR} (hm : Mid F G) (hs : Synced F) {n t : ByteArray} (hd : (⟨dN, t, ByteArray.empty⟩ : PF) ∈ G.files) (hn : ¬ badN n) :
    (renE G dN n = 51 ∧ Cut F (renameF G dN n)) ∨ (renE G dN n = 0 ∧ Done F n t (renameF G dN n)) := by
  obtain ⟨hnm, hne⟩ := good_name hn
  have h0 : hasE G dN = 0 := by
    rcases hasE_on hm.snd hm.off dN with ⟨h, _⟩ | ⟨_, h⟩
    · exact h
    · exact absurd rfl (h _ hd)
  have hst : renE G dN n = if G.left = 0 then 51 else 0 := by unfold renE; rw [if_pos h0, if_pos hnm]
  have hw : renameF G dN n = doneF G (renF G dN n (fileX G dN)) := by unfold renameF; rw [if_pos ⟨h0, hnm⟩]
  obtain ⟨k, hk⟩ := List.mem_iff_getElem?.1 hd
  have hp : place G.files dN = k := place_self hm.snd.asc hk
  have hx : fileX G dN = ⟨dN, t, ByteArray.empty⟩ := by unfold fileX; rw [hp, hk]; rfl
  rcases done_cases (F := G) (F2 := renF G dN n (fileX G dN)) rfl with ⟨hl, hd'⟩ | ⟨hl, d1, d2, d3, d4⟩
  · refine .inl ⟨by rw [hst, if_pos hl], ?_⟩
    rw [hw, hd']; exact hm.cut hs hl _
  · refine .inr ⟨by rw [hst, if_neg hl], ?_, ?_, ?_, ?_⟩
    · rw [hw, d2]; exact hm.off
    · rw [hw, d3]; exact hm.lim
    · intro h; rw [hw]; exact d4 (hm.neg h)
    · intro y
      rw [hw, d1, hx]
      show y ∈ insL (dropL (dropL G.files dN) n) _ (renX _ n) ↔ _
      rw [mem_insL, mem_drop (rising_drop hm.snd.asc dN), mem_drop hm.snd.asc]
      show (y = ⟨n, t, ByteArray.empty⟩ ∨ _) ↔ _
      constructor
      · rintro (h | ⟨⟨h1, h2⟩, h3⟩)
        · exact .inl h
        · exact .inr ⟨(hm.rest y h2).1 h1, h3, h2⟩
      · rintro (h | ⟨h1, h2, h3⟩)
        · exact .inl h
        · exact .inr ⟨⟨(hm.rest y h3).2 h1, h3⟩, h2⟩
/-- WHAT A WRITE DOES: it is done, or there is no room, or it is cut off. -/
theorem save_law {F : FR} (hG : Sound F) (ho : F.off = false) (hs : Synced F) {n : ByteArray} (hn : ¬ badN n) (t : ByteArray) :
    (saveE F n t = 0 ∧ Done F n t (saveF F n t)) ∨
    (saveE F n t = 50 ∧ Mid F (saveF F n t) ∧ saveF F n t = wF3 F ∧ ((wF3 F).files.length = 32 ∨ F.limit < (total (wF3 F).files : Int) + (t.size : Int))) ∨
    (saveE F n t = 51 ∧ Cut F (saveF F n t)) := by
  have e0 : wE F n t 0 = 0 := by show onE F = 0; unfold onE; rw [if_neg (by rw [ho]; simp)]
  have e1 : wE F n t 1 = 0 := by show nameE n = 0; unfold nameE; rw [if_neg hn]
  have e2 : wE F n t 2 = cleanE F := rfl
  have e3 : wE F n t 3 = appE (wF3 F) dN t := rfl
  have e4 : wE F n t 4 = strokeE (wF4 F t) dN := rfl
  have e5 : wE F n t 5 = renE (wF5 F t) dN n := rfl
  have lt1 : ∀ j, j < 2 → wE F n t j = 0 := fun j hj => by
    rcases (show j = 0 ∨ j = 1 by omega) with rfl | rfl
    · exact e0
    · exact e1
  rcases clean_law hG ho hs with ⟨h, hc⟩ | ⟨h, hm3, hno⟩
  · obtain ⟨a1, a2⟩ := saved_at (j := 2) (by omega) lt1 (by rw [e2, h]; omega)
    rw [a1, a2, e2, h]
    exact .inr (.inr ⟨rfl, hc⟩)
  · have lt2 : ∀ j, j < 3 → wE F n t j = 0 := fun j hj => by
      rcases (show j < 2 ∨ j = 2 by omega) with h1 | rfl
      · exact lt1 j h1
      · rw [e2, h]
    rcases append_law hm3 hs hno t with ⟨h, hf, hr⟩ | ⟨h, hc⟩ | ⟨h, hm4, hd⟩
    · obtain ⟨a1, a2⟩ := saved_at (j := 3) (by omega) lt2 (by rw [e3, h]; omega)
      have hf' : wF F n t (3 + 1) = wF3 F := hf
      rw [a1, a2, e3, h, hf']
      exact .inr (.inl ⟨rfl, hm3, rfl, hr⟩)
    · obtain ⟨a1, a2⟩ := saved_at (j := 3) (by omega) lt2 (by rw [e3, h]; omega)
      rw [a1, a2, e3, h]
      exact .inr (.inr ⟨rfl, hc⟩)
    · have lt3 : ∀ j, j < 4 → wE F n t j = 0 := fun j hj => by
        rcases (show j < 3 ∨ j = 3 by omega) with h1 | rfl
        · exact lt2 j h1
        · rw [e3, h]
      have hm4' : Mid F (wF4 F t) := hm4
      rcases sync_law hm4' hs hd with ⟨h, hc⟩ | ⟨h, hm5, hd5⟩
      · obtain ⟨a1, a2⟩ := saved_at (j := 4) (by omega) lt3 (by rw [e4, h]; omega)
        rw [a1, a2, e4, h]
        exact .inr (.inr ⟨rfl, hc⟩)
      · have lt4 : ∀ j, j < 5 → wE F n t j = 0 := fun j hj => by
          rcases (show j < 4 ∨ j = 4 by omega) with h1 | rfl
          · exact lt3 j h1
          · rw [e4, h]
        have hm5' : Mid F (wF5 F t) := hm5
        rcases rename_law hm5' hs hd5 hn with ⟨h, hc⟩ | ⟨h, hdone⟩
        · obtain ⟨a1, a2⟩ := saved_at (j := 5) (by omega) lt4 (by rw [e5, h]; omega)
          rw [a1, a2, e5, h]
          exact .inr (.inr ⟨rfl, hc⟩)
        · obtain ⟨a1, a2⟩ := saved_ok (F := F) (n := n) (t := t) (fun j hj => by
            rcases (show j < 5 ∨ j = 5 by omega) with h1 | rfl
            · exact lt4 j h1
            · rw [e5, h])
          rw [a1, a2]
          exact .inl ⟨rfl, hdone⟩
end Go.Proofs.Ytmoaecicibjmnaa

namespace Go.Proofs.Ytmoaecicibjmnaa
open Go.RowKit

theorem save_bad {F : FR} (ho : F.off = false) {n : ByteArray} (hn : badN n) (t : ByteArray) : saveE F n t = 2 ∧ saveF F n t = F := by
  have e0 : wE F n t 0 = 0 := by show onE F = 0; unfold onE; rw [if_neg (by rw [ho]; simp)]
  have e1 : wE F n t 1 = 2 := by show nameE n = 2; unfold nameE; rw [if_pos hn]
  obtain ⟨a1, a2⟩ := saved_at (F := F) (n := n) (t := t) (j := 1) (by omega) (fun i hi => by rw [show i = 0 by omega]; exact e0) (by rw [e1]; omega)
  exact ⟨a1.trans e1, a2⟩
theorem clean_none {F : FR} (hG : Sound F) (ho : F.off = false) (hno : ∀ y ∈ F.files, y.name ≠ dN) : wF3 F = F := by
  rcases hasE_on hG ho dN with ⟨_, x, hx, hn⟩ | ⟨h, _⟩
  · exact absurd hn (hno x hx)
  · unfold wF3 removeF; rw [if_neg (by rw [h]; omega)]
theorem load_bad {F : FR} (ho : F.off = false) {n : ByteArray} (hn : badN n) : loadE F n = 2 := by
  unfold loadE; rw [if_neg (by rw [ho]; simp), if_pos hn]
theorem load_mem {F : FR} (hG : Sound F) (ho : F.off = false) {n : ByteArray} (hn : ¬ badN n) {y : PF} (hy : y ∈ F.files) (hyn : y.name = n) : loadE F n = 0 ∧ loadS F n = y.bytes := by
  obtain ⟨k, hk⟩ := List.mem_iff_getElem?.1 hy
  obtain ⟨h1, h2⟩ := read_self hG ho hk
  rw [hyn] at h1 h2
  have h0 : loadE F n = 0 := by unfold loadE; rw [if_neg (by rw [ho]; simp), if_neg hn]; exact h1
  exact ⟨h0, by unfold loadS; rw [if_pos h0]; exact h2⟩
theorem load_none {F : FR} (hG : Sound F) (ho : F.off = false) {n : ByteArray} (hn : ¬ badN n) (hno : ∀ y ∈ F.files, y.name ≠ n) : loadE F n = 4 := by
  unfold loadE
  rw [if_neg (by rw [ho]; simp), if_neg hn]
  rcases hasE_on hG ho n with ⟨_, x, hx, he⟩ | ⟨h, _⟩
  · exact absurd he (hno x hx)
  · exact h
/-- A list of one. -/
theorem one_file {L : List PF} (hL : Rising L) {x : PF} (h : ∀ y, y ∈ L ↔ y = x) : L = [x] := by
  match L, hL, h with
  | [], _, h => exact absurd ((h x).2 rfl) (by simp)
  | [a], _, h => rw [(h a).1 (by simp)]
  | a :: b :: L, hL, h =>
    have h1 := (h a).1 (by simp)
    have h2 := (h b).1 (by simp)
    have := rising_get hL (i := 0) (j := 1) (by omega) (y := a) (x := b) rfl rfl
    rw [h1, h2, ltN_irr] at this
    cases this
/-- Without a draft, on, none of its strokes fails. -/
structure Plain (F : FR) : Prop where
  snd : Sound F
  off : F.off = false
  left : F.left = -1
  sync : ∀ y ∈ F.files, y.name ≠ dN ∧ y.air = ByteArray.empty
theorem Plain.save {F : FR} (h : Plain F) (n t : ByteArray) (hr : F.files.length ≠ 32 ∧ (total F.files : Int) + (t.size : Int) ≤ F.limit) :
    Plain (saveF F n t) ∧ (saveF F n t).limit = F.limit ∧ ((badN n ∧ saveE F n t = 2 ∧ saveF F n t = F) ∨ (¬ badN n ∧ saveE F n t = 0 ∧ ∀ y, y ∈ (saveF F n t).files ↔ y = ⟨n, t, ByteArray.empty⟩ ∨ (y ∈ F.files ∧ y.name ≠ n))) := by
  by_cases hb : badN n
  · obtain ⟨h1, h2⟩ := save_bad h.off hb t
    rw [h2]
    exact ⟨h, rfl, .inl ⟨hb, h1, rfl⟩⟩
  · rcases save_law h.snd h.off (fun y hy _ => (h.sync y hy).2) hb t with ⟨he, hd⟩ | ⟨_, _, _, hf⟩ | ⟨_, hc⟩
    · have hm : ∀ y, y ∈ (saveF F n t).files ↔ y = ⟨n, t, ByteArray.empty⟩ ∨ (y ∈ F.files ∧ y.name ≠ n) := fun y => by
        rw [hd.files]
        constructor
        · rintro (h1 | ⟨h1, h2, _⟩)
          · exact .inl h1
          · exact .inr ⟨h1, h2⟩
        · rintro (h1 | ⟨h1, h2⟩)
          · exact .inl h1
          · exact .inr ⟨h1, h2, (h.sync y h1).1⟩
      refine ⟨⟨h.snd.saved n t, hd.off, hd.neg h.left, fun y hy => ?_⟩, hd.lim, .inr ⟨hb, he, hm⟩⟩
      rcases (hm y).1 hy with rfl | ⟨h1, _⟩
      · exact ⟨(good_name hb).2, rfl⟩
      · exact h.sync y h1
    · rw [clean_none h.snd h.off fun y hy => (h.sync y hy).1] at hf
      rcases hf with hf | hf
      · exact absurd hf hr.1
      · omega
    · exact absurd h.left hc.hit
/-- Over a crash, and a start. -/
theorem Plain.crash {F : FR} (h : Plain F) (keep : List Int) : Plain (startF (crashF F keep)) ∧ ∀ y, y ∈ (startF (crashF F keep)).files ↔ y ∈ F.files := by
  have hm : ∀ y, y ∈ (startF (crashF F keep)).files ↔ y ∈ F.files := fun y => by
    show y ∈ crashL F.files keep ↔ _
    constructor
    · intro hy
      obtain ⟨i, hi⟩ := List.mem_iff_getElem?.1 hy
      obtain ⟨x, hx⟩ : ∃ x, F.files[i]? = some x := ⟨_, List.getElem?_eq_getElem (by have := (List.getElem?_eq_some_iff.1 hi).1; rw [crash_len] at this; exact this)⟩
      have h1 := crash_get F.files keep hx
      rw [hi] at h1
      injection h1 with h1
      rw [h1, cr_synced (h.sync x (List.mem_of_getElem? hx)).2]
      exact List.mem_of_getElem? hx
    · intro hy
      obtain ⟨i, hi⟩ := List.mem_iff_getElem?.1 hy
      have h1 := crash_get F.files keep hi
      rw [cr_synced (h.sync y hy).2] at h1
      exact List.mem_of_getElem? h1
  exact ⟨⟨(h.snd.crash keep).start, rfl, rfl, fun y hy => h.sync y ((hm y).1 hy)⟩, hm⟩
theorem bytes_flat (n t : ByteArray) : PF.bytes ⟨n, t, ByteArray.empty⟩ = t := by simp [PF.bytes]
/-- SavesBack. -/
theorem back_law (n0 n1 t0 t1 : ByteArray) (h0 : t0.size ≤ 3000) (h1 : t1.size ≤ 3000) (keep : List Int) (F1 F2 F4 : FR) (e1 : F1 = saveF (newF 20000) n0 t0) (e2 : F2 = saveF F1 n1 t1) (e4 : F4 = startF (crashF F2 keep)) :
    Sound F1 ∧ Plain F2 ∧ Sound F4 ∧ loadE F4 n0 = saveE (newF 20000) n0 t0 ∧ loadE F4 n1 = saveE F1 n1 t1 ∧
    (saveE (newF 20000) n0 t0 = 0 → loadS F4 n0 = if n0 = n1 then t1 else t0) ∧ (saveE F1 n1 t1 = 0 → loadS F4 n1 = t1) := by
  have p0 : Plain (newF 20000) := ⟨Sound.new 20000 (by omega) (by omega), rfl, rfl, fun y hy => by cases hy⟩
  obtain ⟨p1, l1, c1⟩ := p0.save n0 t0 ⟨by show (0 : Nat) ≠ 32; omega, by show ((0 : Nat) : Int) + _ ≤ 20000; omega⟩
  rw [← e1] at p1 l1 c1
  have r1 : F1.files.length ≠ 32 ∧ (total F1.files : Int) + (t1.size : Int) ≤ F1.limit := by
    rw [l1]
    show _ ∧ _ ≤ (20000 : Int)
    rcases c1 with ⟨_, _, hf⟩ | ⟨_, _, hm⟩
    · rw [hf]
      exact ⟨by show (0 : Nat) ≠ 32; omega, by show ((0 : Nat) : Int) + _ ≤ 20000; omega⟩
    · have hx : ∀ y, y ∈ F1.files ↔ y = ⟨n0, t0, ByteArray.empty⟩ := fun y => by
        rw [hm]
        constructor
        · rintro (h | ⟨h, _⟩)
          · exact h
          · cases h
        · exact fun h => .inl h
      have hl := one_file p1.snd.asc hx
      rw [hl]
      refine ⟨by simp, ?_⟩
      have : total [⟨n0, t0, ByteArray.empty⟩] = t0.size := by simp [total]
      rw [this]; omega
  obtain ⟨p2, _, c2⟩ := p1.save n1 t1 r1
  rw [← e2] at p2 c2
  obtain ⟨p4, m4⟩ := p2.crash keep
  rw [← e4] at p4 m4
  have a1 : ∀ {n : ByteArray}, n = n1 → ¬ badN n1 → saveE F1 n1 t1 = 0 ∧ loadE F4 n = 0 ∧ loadS F4 n = t1 := by
    rintro n rfl hb
    rcases c2 with ⟨hb', _⟩ | ⟨_, he, hm⟩
    · exact absurd hb' hb
    · obtain ⟨q1, q2⟩ := load_mem p4.snd p4.off hb ((m4 _).2 ((hm _).2 (.inl rfl))) rfl
      exact ⟨he, q1, q2.trans (bytes_flat _ _)⟩
  refine ⟨p1.snd, p2, p4.snd, ?_, ?_, ?_, ?_⟩
  · rcases c1 with ⟨hb, he, _⟩ | ⟨hb, he, hm⟩
    · rw [he, load_bad p4.off hb]
    · by_cases hnn : n0 = n1
      · rw [he]; exact (a1 hnn (hnn ▸ hb)).2.1
      · rw [he]
        refine (load_mem p4.snd p4.off hb (y := ⟨n0, t0, ByteArray.empty⟩) ((m4 _).2 ?_) rfl).1
        rcases c2 with ⟨_, _, hf⟩ | ⟨_, _, hm2⟩
        · rw [hf]; exact (hm _).2 (.inl rfl)
        · exact (hm2 _).2 (.inr ⟨(hm _).2 (.inl rfl), hnn⟩)
  · by_cases hb : badN n1
    · rw [load_bad p4.off hb]
      rcases c2 with ⟨_, he, _⟩ | ⟨hb', _⟩
      · exact he.symm
      · exact absurd hb hb'
    · obtain ⟨q0, q1, _⟩ := a1 rfl hb
      rw [q0, q1]
  · intro hz
    rcases c1 with ⟨_, he, _⟩ | ⟨hb, he, hm⟩
    · omega
    · by_cases hnn : n0 = n1
      · rw [if_pos hnn]; exact (a1 hnn (hnn ▸ hb)).2.2
      · rw [if_neg hnn]
        refine ((load_mem p4.snd p4.off hb (y := ⟨n0, t0, ByteArray.empty⟩) ((m4 _).2 ?_) rfl).2).trans (bytes_flat _ _)
        rcases c2 with ⟨_, _, hf⟩ | ⟨_, _, hm2⟩
        · rw [hf]; exact (hm _).2 (.inl rfl)
        · exact (hm2 _).2 (.inr ⟨(hm _).2 (.inl rfl), hnn⟩)
  · intro hz
    by_cases hb : badN n1
    · rcases c2 with ⟨_, he, _⟩ | ⟨hb', _⟩
      · omega
      · exact absurd hb hb'
    · exact (a1 rfl hb).2.2
end Go.Proofs.Ytmoaecicibjmnaa
