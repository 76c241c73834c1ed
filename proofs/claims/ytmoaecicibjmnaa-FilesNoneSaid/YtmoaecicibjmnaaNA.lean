/- FilesNone: the walk. -/
import Derived.Test.YtmoaecicibjmnaaSZ
namespace Go.Proofs.Ytmoaecicibjmnaa
open Go.RowKit

abbrev nN : ByteArray := tx [110]
def nF : FR := appF (newF 9) nN (tx [49, 50, 51, 52])
theorem nF_e : appE (newF 9) nN (tx [49, 50, 51, 52]) = 0 := by decide +kernel
theorem nF_names : nF.files.map PF.name = [nN] := by decide +kernel
theorem nF_air : nF.files.map (fun x => ((x.air.size : Nat) : Int)) = [4] := by decide +kernel
theorem nF_len : nF.files.length = 1 := by decide +kernel
theorem box_six (w : World) (v0 v1 v2 v3 v4 v5 : Value) (t : TypeId) : ∃ W, w.alloc (.cells #[v0, v1, v2, v3, v4, v5] t) = W ∧ Below w.heap.size w W ∧ Box6 W w.heap.size t v0 v1 v2 v3 v4 v5 := by
  have h : (w.alloc (.cells #[v0, v1, v2, v3, v4, v5] t)).heap[w.heap.size]? = some (.cells #[v0, v1, v2, v3, v4, v5] t (0, 0)) := by rw [heap_alloc, if_pos rfl]
  exact ⟨_, rfl, (Below.refl _ _).alloc (Nat.le_refl _) _, h⟩
theorem Box6.s0 {w : World} {b : Nat} {t : TypeId} {v0 v1 v2 v3 v4 v5 : Value} (h : Box6 w b t v0 v1 v2 v3 v4 v5) (v : Value) : Box6 (w.setCell ⟨b, 0, none⟩ v) b t v v1 v2 v3 v4 v5 := setCell_heap_same w b 0 v _ t h
theorem one_list (w : World) (d : DoR) (kv : Value) (hk : IntsIn (fun k => k < w.heap.size) w kv d.K) : DosAt (fun k => k < (w.alloc (.cells #[.int .u8 (d.what : Int), .string d.A, .string d.B, .string d.S, .int .i64 d.N, kv] 35)).heap.size) (w.alloc (.cells #[.int .u8 (d.what : Int), .string d.A, .string d.B, .string d.S, .int .i64 d.N, kv] 35)) (.slice (some ⟨w.heap.size, 0, none⟩) 1 1) [d] := by
  obtain ⟨W, hW, hb, hbox⟩ := box_six w (.int .u8 (d.what : Int)) (.string d.A) (.string d.B) (.string d.S) (.int .i64 d.N) kv 35
  have hs : w.heap.size < W.heap.size := by rw [← hW, size_alloc]; omega
  rw [hW]
  clear hW
  refine ⟨_, 1, rfl, fun _ => ⟨_, 0, rfl, hs, hs, fun j x hj => ?_⟩⟩
  have hj2 : j < 1 := (List.getElem?_eq_some_iff.1 hj).1
  obtain rfl : j = 0 := by omega
  injection hj with hj
  subst hj
  exact ⟨_, hk.eq hb.size fun k hk' h => ⟨hb.block k hk', Nat.lt_of_lt_of_le h hb.size⟩, hbox.c0, hbox.c1, hbox.c2, hbox.c3, hbox.c4, hbox.c5⟩
theorem row_one {B : Nat} {e : TypeId} {w : World} {v : Value} {n : Nat} {x : Value} (h : w.ownsRow B e 1 v n [x]) (hn : n = 1) : ∃ g c, v = .slice (some ⟨g, 0, none⟩) 1 c ∧ B ≤ g ∧ g < w.heap.size ∧ w.cell? ⟨g, 0, none⟩ = some x ∧ w.frozen? ⟨g, 0, none⟩ = false := by
  subst hn
  rcases h.2 with ⟨_, h0⟩ | ⟨g, cap, cu, rfl, hBg, hgg, _⟩
  · omega
  · exact ⟨g, cap, rfl, hBg, (Array.getElem?_eq_some_iff.1 hgg).1, h.cellAt 0 (by omega), by simp [World.frozen?, hgg]⟩

theorem ints_one (w : World) (t : TypeId) (a : Int) : IntsIn (fun k => w.heap.size ≤ k) (w.alloc (.cells #[.int .i64 a] t)) (.slice (some ⟨w.heap.size, 0, none⟩) 1 1) [a] :=
  ⟨_, 1, rfl, fun _ => ⟨_, 0, rfl, by rw [size_alloc]; exact Nat.lt_succ_self _, Nat.le_refl _, fun j hj => by
    have hj : j < 1 := hj
    obtain rfl : j = 0 := by omega
    exact new_one w (.int .i64 a) t⟩⟩
theorem nF_vals : (nF.files.map fun x => Value.string x.name) = [.string nN] ∧ (nF.files.map fun x => Value.int .i64 ((x.air.size : Nat) : Int)) = [.int .i64 4] := by
  have h1 := congrArg (List.map Value.string) nF_names
  have h2 := congrArg (List.map (Value.int .i64)) nF_air
  rw [List.map_map] at h1 h2
  exact ⟨h1, h2⟩
theorem nF_sound : Sound nF := (Sound.new 9 (by omega) (by omega)).with' ⟨0, nN, tx [], tx [49, 50, 51, 52], 0, []⟩ (by show (0 : Int) ≤ _; omega) (Nat.zero_le _)
set_option maxRecDepth 100000 in
set_option maxHeartbeats 8000000 in
theorem filesNone_walk (v : Value) (d : DoR) (w : World) (hd : DoAt (fun k => k < w.heap.size) w v d) (hok : DoOK d) :
    Calls Try.prog 6 #[v] w fun e w' => e = .returned (.bool true) ∧ Below w.heap.size w w' := by
  obtain ⟨kv, rfl, hk⟩ := hd
  have HK := Lib.hid hk
  obtain ⟨ka, kc, rfl⟩ := hk.val
  have HOK := Lib.hid hok
  clear hk hok
  go_enter Try.func6, Try.ntmps6
  go_upto_region 1 with fail
  obtain ⟨W, hW, hbW, hbox⟩ := box_six w (.int .u8 (d.what : Int)) (.string d.A) (.string d.B) (.string d.S) (.int .i64 d.N) (.slice ka d.K.length kc) 35
  rw [hW]
  clear hW
  obtain ⟨X, hX⟩ : ∃ X, X = w.heap.size := ⟨_, rfl⟩
  have HX := Lib.hid hX
  rw [← hX] at hbox ⊢
  clear hX
  have c0 := hbox.c0
  have c1 := hbox.c1
  have c2 := hbox.c2
  have c3 := hbox.c3
  have c4 := hbox.c4
  have c5 := hbox.c5
  have HB := Lib.hid hbox
  have CM := Lib.hid (much5_any _ [d] _ (one_list W d (.slice ka d.K.length kc) (HK.out.eq hbW.size fun k hk h => ⟨hbW.block k hk, Nat.lt_of_lt_of_le h hbW.size⟩)) (by show 1 ≤ _; omega) (fun x hx => by rw [List.mem_singleton.1 hx]; exact HOK.out))
  clear hbox
  generalize d.what = dw at *
  generalize d.A = dA at *
  generalize d.B = dB at *
  generalize d.S = dS at *
  generalize d.N = dX at *
  generalize d.K.length = dK at *
  go_wp2_with fail
  (with_reducible refine CM.out.mono ?_); rintro e w3 ⟨⟨q, rfl, hq⟩, hb3⟩
  have hbA : Below W.heap.size W (W.alloc (.cells #[.int .u8 (dw : Int), .string dA, .string dB, .string dS, .int .i64 dX, .slice ka dK kc] 35)) := (Below.refl _ _).alloc (Nat.le_refl _) _
  have hbel3 : Below w.heap.size w w3 := below_tr (below_tr hbW hbA) hb3
  have HB3 : Hid (Box6 w3 X 35 (.int .u8 (dw : Int)) (.string dA) (.string dB) (.string dS) (.int .i64 dX) (.slice ka dK kc)) := Lib.hid ((HB.out.eq (hbA.block X HB.out.lt)).eq (hb3.block X (Nat.lt_of_lt_of_le HB.out.lt hbA.size)))
  clear hbA hb3 CM HB c0 c1 c2 c3 c4 c5 hbW
  cases q with
  | true =>
    clear hq
    go_wp2_with fail
    go_ret
    exact ⟨rfl, hbel3⟩
  | false =>
    clear hq
    go_wp2_with fail
    go_loopw [4, 3] (fun i pv wr => ∃ (k : Nat) (p : Option Addr) (z : Int), k ≤ 2 ∧ i = .int .i64 (k : Nat) ∧ pv = .pointer p ∧ Hid (None2 wr p) ∧ Hid (∀ b, p = some ⟨b, 0, none⟩ → b ≠ X) ∧ Hid (Box6 wr X 35 (.int .u8 z) (.string dA) (.string dB) (.string dS) (.int .i64 dX) (.slice ka dK kc)) ∧ Below w.heap.size w wr) (fun i _ _ => 2 - (intOf i).toNat)
    case atStart => exact ⟨0, none, _, by omega, rfl, rfl, Lib.hid (.inl rfl), Lib.hid (fun b h => by cases h), HB3, hbel3⟩
    case round =>
      obtain ⟨k, p, z, hk, rfl, rfl, HP, HPX, HB, hbel⟩ := hrel
      by_cases hlt : k < 2
      · have hki : (k : Int) < 2 := by omega
        go_wp2_with fail
        go_loopw [5] (fun i wi => ∃ (j : Nat) (z : Int), j ≤ 12 ∧ i = .int .u8 (j : Nat) ∧ Hid (None2 wi p) ∧ Hid (Box6 wi X 35 (.int .u8 z) (.string dA) (.string dB) (.string dS) (.int .i64 dX) (.slice ka dK kc)) ∧ Below w.heap.size w wi) (fun i _ => 12 - (intOf i).toNat)
        case atStart => exact ⟨0, z, by omega, rfl, HP, HB, hbel⟩
        case round =>
          obtain ⟨j, z1, hj, rfl, HP1, HB1, hbel1⟩ := hrel
          by_cases hj12 : j < 12
          · have c0 := HB1.out.c0
            have f0 := HB1.out.free 0
            go_upto_region 11 with fail
            clear c0 f0
            have hbx := HB1.out.s0 (.int .u8 (j : Int))
            have hnx : None2 (wr.setCell ⟨X, 0, none⟩ (.int .u8 (j : Int))) p := HP1.out.eq fun b hb _ => setCell_heap_other _ _ _ _ _ (HPX.out b hb)
            have hbS : Below w.heap.size w (wr.setCell ⟨X, 0, none⟩ (.int .u8 (j : Int))) := hbel1.setCell (p := ⟨X, 0, none⟩) (Nat.le_of_eq HX.out.symm) _
            generalize wr.setCell ⟨X, 0, none⟩ (.int .u8 (j : Int)) = Ws at *
            have c0 := hbx.c0
            have c1 := hbx.c1
            have c2 := hbx.c2
            have c3 := hbx.c3
            have c4 := hbx.c4
            have c5 := hbx.c5
            have HBX := Lib.hid hbx
            have HNX := Lib.hid hnx
            have C1 := Lib.hid (with_gone Ws hnx.gone j hj12 dA dB dS dX ka dK kc)
            clear hbx hnx
            go_wp2_with fail
            (with_reducible refine C1.out.mono ?_); rintro e w4 ⟨rfl, hb4⟩
            go_wp2_with fail
            go_roundw
            case rel => exact ⟨j + 1, _, by omega, by go_num, Lib.hid (HNX.out.below hb4), Lib.hid (HBX.out.eq (hb4.block X HBX.out.lt)), below_tr hbS hb4⟩
            case measure => simp [intOf]; omega
          · obtain rfl : j = 12 := by omega
            have c1 := HB1.out.c1
            obtain ⟨wa, hwa⟩ : ∃ wa, wa = wr := ⟨_, rfl⟩
            subst hwa
            have HPa := HP1
            have HBa := HB1
            have hbela := hbel1
            clear HP1 HB1 hbel1
            have C1 := Lib.hid (read_gone wa HPa.out.gone dA)
            go_wp2_with fail
            (with_reducible refine C1.out.mono ?_); rintro e wb ⟨rfl, hbb⟩
            have HPb := Lib.hid (HPa.out.below hbb)
            have hbelb := below_tr hbela hbb
            have HBb := Lib.hid (HBa.out.eq (hbb.block X (HBa.out.lt)))
            clear C1 hbb HPa hbela HBa
            have C1 := Lib.hid (names_none wb HPb.out)
            go_wp2_with fail
            (with_reducible refine C1.out.mono ?_); rintro e wc ⟨rfl, hbc⟩
            have HPc := Lib.hid (HPb.out.below hbc)
            have hbelc := below_tr hbelb hbc
            have HBc := Lib.hid (HBb.out.eq (hbc.block X (HBb.out.lt)))
            clear C1 hbc HPb hbelb HBb
            have C1 := Lib.hid (unsynced_none wc HPc.out)
            go_wp2_with fail
            (with_reducible refine C1.out.mono ?_); rintro e wd ⟨rfl, hbd⟩
            have HPd := Lib.hid (HPc.out.below hbd)
            have hbeld := below_tr hbelc hbd
            have HBd := Lib.hid (HBc.out.eq (hbd.block X (HBc.out.lt)))
            clear C1 hbd HPc hbelc HBc
            have C1 := Lib.hid (size_none wd HPd.out)
            go_wp2_with fail
            (with_reducible refine C1.out.mono ?_); rintro e we ⟨rfl, hbe⟩
            have HPe := Lib.hid (HPd.out.below hbe)
            have hbele := below_tr hbeld hbe
            have HBe := Lib.hid (HBd.out.eq (hbe.block X (HBd.out.lt)))
            clear C1 hbe HPd hbeld HBd
            have C1 := Lib.hid (up_gone we HPe.out.gone)
            go_wp2_with fail
            (with_reducible refine C1.out.mono ?_); rintro e wf ⟨rfl, hbf⟩
            have HPf := Lib.hid (HPe.out.below hbf)
            have hbelf := below_tr hbele hbf
            have HBf := Lib.hid (HBe.out.eq (hbf.block X (HBe.out.lt)))
            clear C1 hbf HPe hbele HBe
            have C1 := Lib.hid (starts_none wf HPf.out)
            go_wp2_with fail
            (with_reducible refine C1.out.mono ?_); rintro e wg ⟨rfl, hbg⟩
            have HPg := Lib.hid (HPf.out.below hbg)
            have hbelg := below_tr hbelf hbg
            have HBg := Lib.hid (HBf.out.eq (hbg.block X (HBf.out.lt)))
            clear C1 hbg HPf hbelf HBf
            go_wp2_with fail
            have hbA : Below wg.heap.size wg (wg.alloc (.cells #[.int .i64 0, .int .i64 0, .bool false, .slice none 0 0, .int .i64 0, .slice none 0 0] 58)) := (Below.refl _ _).alloc (Nat.le_refl _) _
            have hbx : Box6 (wg.alloc (.cells #[.int .i64 0, .int .i64 0, .bool false, .slice none 0 0, .int .i64 0, .slice none 0 0] 58)) wg.heap.size 58 (.int .i64 0) (.int .i64 0) (.bool false) (.slice none 0 0) (.int .i64 0) (.slice none 0 0) := by
              unfold Box6
              rw [heap_alloc, if_pos rfl]
            refine ⟨⟨k + 1, some ⟨wg.heap.size, 0, none⟩, z1, by omega, by go_num, rfl, Lib.hid (.inr ⟨_, rfl, hbx.c0, hbx.c1, hbx.c3⟩), Lib.hid (fun b hb => ?_), Lib.hid (HBg.out.eq (hbA.block X HBg.out.lt)), below_tr hbelg hbA⟩, by simp [intOf]; omega⟩
            injection hb with hb
            injection hb with hb
            rw [← hb]
            have := HBg.out.lt
            omega
      · obtain rfl : k = 2 := by omega
        have CN := Lib.hid (new_any 9 wr (by omega) (by omega))
        go_wp2_with fail
        (with_reducible refine CN.out.mono ?_); rintro e w1 ⟨b, rfl, M1, hf1, hM1, hb1⟩
        have hbel1 := below_tr hbel hb1
        have HM1 := Lib.hid (fun x (hx : M1 x) => Nat.le_trans hbel.size (hM1 x hx))
        have C0 := append_any w1 hf1 (Sound.new 9 (by omega) (by omega)) nN (tx [49, 50, 51, 52]) (by decide)
        rw [nF_e] at C0
        have C1 : Hid (Calls Try.prog 23 #[.pointer (some ⟨b, 0, none⟩), .string nN, .string (tx [49, 50, 51, 52])] w1 fun e w' => e = .returned (.int .i64 0) ∧ Turned M1 w1 w' b nF) := Lib.hid C0
        clear C0 hf1 hM1 hb1 CN HP HPX HB hbel
        go_wp2_with fail
        (with_reducible refine C1.out.mono ?_); rintro e w2 ⟨rfl, M2, hf2, hM2, ho2⟩
        have hbel2 : Below w.heap.size w w2 := hbel1.trans (ho2.below hbel1.size HM1.out)
        have HF2 := Lib.hid hf2
        clear hf2 hM2 ho2 C1 HM1 hbel1
        have CN := Lib.hid (names_any HF2.out nF_sound)
        go_wp2_with fail
        (with_reducible refine CN.out.mono ?_); rintro e w3 ⟨⟨nv, rfl, ho⟩, hb3⟩
        rw [nF_vals.1] at ho
        obtain ⟨g1, k1, rfl, l1, m1, x1, z1⟩ := row_one ho nF_len
        have HF3 := Lib.hid (HF2.out.below hb3)
        have hbel3 := below_tr hbel2 hb3
        have CU := Lib.hid (unsynced_any HF3.out nF_sound)
        clear ho CN
        go_wp2_with fail
        (with_reducible refine CU.out.mono ?_); rintro e w4 ⟨⟨uv, rfl, ho⟩, hb4⟩
        rw [nF_vals.2] at ho
        obtain ⟨g2, k2, rfl, l2, m2, x2, z2⟩ := row_one ho nF_len
        have HF4 := Lib.hid (HF3.out.below hb4)
        have hbel4 := below_tr hbel3 hb4
        have y1 : w4.cell? ⟨g1, 0, none⟩ = some (.string nN) := (hb4.cell (p := ⟨g1, 0, none⟩) m1).trans x1
        have f1 : w4.frozen? ⟨g1, 0, none⟩ = false := (World.frozen?_of_block (a := ⟨g1, 0, none⟩) (hb4.block g1 m1)).trans z1
        have hne : g2 ≠ g1 := by omega
        have s3 := hb3.size
        have s2 := hbel2.size
        clear ho CU x1 z1 hb4 hb3
        go_upto_region 24 with fail
        have ho5 : Out (fun k => k = g1 ∨ k = g2) w4 ((w4.setCell ⟨g1, 0, none⟩ (.string ⟨#[122]⟩)).setCell ⟨g2, 0, none⟩ (.int .i64 0)) := ((Out.refl _ _).set (.inl (.inl rfl)) 0 _).set (.inl (.inr rfl)) 0 _
        have hbel5 : Below w.heap.size w ((w4.setCell ⟨g1, 0, none⟩ (.string ⟨#[122]⟩)).setCell ⟨g2, 0, none⟩ (.int .i64 0)) := (hbel4.setCell (p := ⟨g1, 0, none⟩) (Nat.le_trans s2 l1) _).setCell (p := ⟨g2, 0, none⟩) (Nat.le_trans (Nat.le_trans s2 s3) l2) _
        generalize (w4.setCell ⟨g1, 0, none⟩ (.string ⟨#[122]⟩)).setCell ⟨g2, 0, none⟩ (.int .i64 0) = w5 at *
        have HF5 := Lib.hid (HF4.out.out ho5 (fun k hk h => by
          have := HF2.out.lt k hk
          rcases h with h | h <;> omega))
        have CN := Lib.hid (names_any HF5.out nF_sound)
        clear ho5 y1 f1 x2 z2 HF4 hbel4 HF3 hbel3
        go_wp2_with fail
        (with_reducible refine CN.out.mono ?_); rintro e w6 ⟨⟨nv, rfl, ho⟩, hb6⟩
        have hn := names_in ho
        rw [nF_names] at hn
        obtain ⟨na, nc, rfl⟩ := hn.val
        have hb7 : Below w6.heap.size w6 (w6.alloc (.cells #[.string nN] 9)) := (Below.refl _ _).alloc (Nat.le_refl _) _
        have CT := tsame_any _ _ _ _ _ ((hn.below hb7).at) (texts_lit w6 nN 9) (by decide) (by decide)
        rw [decide_eq_true (show [nN] = [nN] from rfl)] at CT
        have CT1 : Hid (Calls Try.prog 19 #[.slice na 1 nc, .slice (some ⟨w6.heap.size, 0, none⟩) 1 1] (w6.alloc (.cells #[.string nN] 9)) fun e w' => e = .returned (.bool true) ∧ Below (w6.alloc (.cells #[.string nN] 9)).heap.size (w6.alloc (.cells #[.string nN] 9)) w') := Lib.hid CT
        have hbel7 := below_tr (below_tr hbel5 hb6) hb7
        have HF7 := Lib.hid ((HF5.out.below hb6).below hb7)
        clear CT hn ho hb6 hb7 CN HF5 hbel5
        go_wp2_with fail
        (with_reducible refine CT1.out.mono ?_); rintro e w8 ⟨rfl, hb8⟩
        have hbel8 := below_tr hbel7 hb8
        have HF8 := Lib.hid (HF7.out.below hb8)
        have CU := Lib.hid (unsynced_any HF8.out nF_sound)
        clear hb8 CT1 HF7 hbel7
        go_wp2_with fail
        (with_reducible refine CU.out.mono ?_); rintro e w9 ⟨⟨uv, rfl, ho⟩, hb9⟩
        have hn := ints_in ho
        rw [nF_air] at hn
        obtain ⟨ua, uc, rfl⟩ := hn.val
        have hb10 : Below w9.heap.size w9 (w9.alloc (.cells #[.int .i64 4] 3)) := (Below.refl _ _).alloc (Nat.le_refl _) _
        have CT := numbers_any _ _ _ _ _ (hn.later hb10) (ints_one w9 3 4) (by decide) (by decide)
        rw [decide_eq_true (show [(4 : Int)] = [4] from rfl)] at CT
        have CT1 : Hid (Calls Try.prog 31 #[.slice ua 1 uc, .slice (some ⟨w9.heap.size, 0, none⟩) 1 1] (w9.alloc (.cells #[.int .i64 4] 3)) fun e w' => e = .returned (.bool true) ∧ Below (w9.alloc (.cells #[.int .i64 4] 3)).heap.size (w9.alloc (.cells #[.int .i64 4] 3)) w') := Lib.hid CT
        have hbel10 := below_tr (below_tr hbel8 hb9) hb10
        clear CT hn ho hb9 hb10 CU HF8 hbel8
        go_wp2_with fail
        (with_reducible refine CT1.out.mono ?_); rintro e w11 ⟨rfl, hb11⟩
        have hbel11 := below_tr hbel10 hb11
        have CD := Lib.hid (does_any w11)
        clear hb11 CT1 hbel10
        go_wp2_with fail
        (with_reducible refine CD.out.mono ?_); rintro e w12 ⟨rfl, hb12⟩
        go_wp2_with fail
        go_ret
        exact ⟨rfl, below_tr hbel11 hb12⟩
end Go.Proofs.Ytmoaecicibjmnaa
