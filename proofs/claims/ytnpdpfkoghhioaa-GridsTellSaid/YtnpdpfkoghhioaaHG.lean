/- GridsTell: its walk. -/
import Derived.Test.YtnpdpfkoghhioaaHF
import Derived.Deep.CutRange
namespace Go.Proofs.Ytnpdpfkoghhioaa
open Go.RowKit

set_option maxRecDepth 100000 in
set_option maxHeartbeats 8000000 in
theorem tell_law (v : Value) (g : G) (x y : Int) (w : World) (hg : GridAt w.heap.size w v g)
    (hb1 : g.cells.length ≤ 9223372036854775807) (hb2 : ∀ r ∈ g.cells, r.length ≤ 9223372036854775807) :
    Calls Try.prog 4 #[v, .int .i64 x, .int .i64 y] w fun e w' => e = .returned (.bool true) ∧ Below w.heap.size w w' := by
  have M1 : ∀ w1, Below w.heap.size w w1 → Hid (Calls Try.prog 13 #[v] w1 fun e w' => e = .returned (.bool (muchB g)) ∧ Below w1.heap.size w1 w') := fun w1 hw => Lib.hid (much_any v g w1 (hg.later hw) hb1 hb2)
  obtain ⟨p, hp⟩ : ∃ p, p = muchB g := ⟨_, rfl⟩
  simp only [← hp] at M1
  have Hp := Lib.hid hp
  have Hg := Lib.hid hg
  clear hp hb1 hb2
  obtain ⟨a1, k1, rfl⟩ := agg_at hg
  clear hg
  go_enter Try.func4, Try.ntmps4
  go_wp2_with fail
  generalize hW1 : World.alloc _ _ = W1
  have hB1 : Below w.heap.size w W1 := by rw [← hW1]; go_grown
  have q1 : GBox W1 w.heap.size g a1 k1 := by rw [← hW1]; exact gbox_new _ _ _ _
  have hs1 : W1.heap.size = w.heap.size + 1 := by rw [← hW1, size_alloc]
  clear hW1
  (with_reducible refine (M1 _ hB1).out.mono ?_); rintro e w2 ⟨rfl, hb2⟩
  have hB2 := below_tr hB1 hb2
  have hs2 := hb2.size
  have X1 : Hid (GBox w2 w.heap.size g a1 k1) := Lib.hid (q1.below hb2 (by omega))
  clear q1
  cases p with
  | true =>
    go_wp2_with fail
    go_ret
    exact ⟨rfl, hB2⟩
  | false =>
    have sg := Small_of_much Hp.out.symm
    have c0 := X1.out.c0
    have c1 := X1.out.c1
    have c2 := X1.out.c2
    have c3 := X1.out.c3
    have c4 := X1.out.c4
    go_upto_region 4 with fail
    go_cut [28] from 15 (fun s28 wx => (∃ b : Bool, s28 = .bool b ∧ Hid (b = true → ∃ (hb o rb ro rc : Nat) (r0 : List UInt8), a1 = some ⟨hb, o, none⟩ ∧ w2.cell? ⟨hb, o, none⟩ = some (.slice (some ⟨rb, ro, none⟩) r0.length rc) ∧ 0 < r0.length ∧ 0 < g.cells.length ∧ ∃ z : UInt8, w2.cell? ⟨rb, ro, none⟩ = some (.int .u8 (z.toNat : Int)))) ∧ w2 = wx)
    case first =>
      have Hc := (Hg.out.later hB2)
      obtain ⟨cv, hcv, ca, cc, hcv2, hcells⟩ := Hc
      have ea : ca = a1 := by
        simp only [gval, Value.agg.injEq] at hcv
        injection hcv with hcv
        injection hcv with _ hcv; injection hcv with _ hcv; injection hcv with hcv _
        rw [hcv2] at hcv
        injection hcv with h1 _ _
        exact h1.symm
      clear hcv hcv2
      subst ea
      obtain ⟨n, hnl⟩ : ∃ n, n = g.cells.length := ⟨_, rfl⟩
      rw [← hnl] at c2
      have Hn := Lib.hid hnl
      by_cases hL : g.cells = []
      · have hz : n = 0 := by rw [hnl, hL]; rfl
        clear hcells hL hnl
        subst hz
        go_wp2_with fail
        go_meet
        case rel => exact ⟨⟨false, rfl, Lib.hid fun h => by cases h⟩, rfl⟩
      · obtain ⟨hb, o, rfl, hlt, hrows⟩ := hcells hL
        have hn0 : 0 < n := by rw [hnl]; exact Nat.pos_of_ne_zero (fun e => hL (List.eq_nil_of_length_eq_zero e))
        obtain ⟨rv, hr1, ra, rc, rfl, hr2⟩ := hrows 0 (by rw [← hnl]; exact hn0)
        rw [Nat.add_zero] at hr1
        have hn : decide ((0 : Int) < (n : Int)) = true := by simp; omega
        clear hrows hL hnl
        generalize g.cells[0]?.getD [] = r0 at hr1 hr2
        obtain ⟨m, hml⟩ : ∃ m, m = r0.length := ⟨_, rfl⟩
        rw [← hml] at hr1
        have Hm := Lib.hid hml
        by_cases hR : r0 = []
        · have hz : m = 0 := by rw [hml, hR]; rfl
          clear hr2 hR hml
          subst hz
          go_wp2_with fail
          go_meet
          case rel => exact ⟨⟨false, by simp, Lib.hid fun h => by cases h⟩, rfl⟩
        · obtain ⟨rb, ro, rfl, hlt2, hz⟩ := hr2 hR
          have hn1 : 0 < m := by rw [hml]; exact Nat.pos_of_ne_zero (fun e => hR (List.eq_nil_of_length_eq_zero e))
          have hz0 := hz 0 (by rw [← hml]; exact hn1)
          rw [Nat.add_zero] at hz0
          have hn2 : decide ((0 : Int) < (m : Int)) = true := by simp; omega
          clear hz hR hml
          go_wp2_with fail
          go_meet
          case rel => exact ⟨⟨true, by with_reducible rfl, Lib.hid fun _ => ⟨hb, o, rb, ro, rc, r0, rfl, by rw [← Hm.out]; exact hr1, by rw [← Hm.out]; exact hn1, by rw [← Hn.out]; exact hn0, _, hz0⟩⟩, rfl⟩
    case rest =>
      obtain ⟨⟨b, rfl, hb⟩, hw⟩ := hcut
      subst hw
      go_upto_if 28 with fail
      go_cut [7] from 15 (fun s7 wx => (∃ ch : UInt8, s7 = .int .u8 (ch.toNat : Int)) ∧ w2 = wx)
      case first =>
        cases b with
        | false =>
          go_wp2_with fail
          go_meet
          case rel => exact ⟨⟨120, rfl⟩, rfl⟩
        | true =>
          obtain ⟨hb, o, rb, ro, rc, r0, rfl, hr1, hn1, hn0, z, hz0⟩ := hb.out rfl
          go_wp2_with fail
          go_meet
          case rel => exact ⟨⟨z + 1, by first | rfl | simp⟩, rfl⟩
      case rest =>
        obtain ⟨⟨ch, rfl⟩, hw⟩ := hcut
        subst hw
        have P1 : ∀ w5, Below w2.heap.size w2 w5 → Hid (Calls Try.prog 14 #[gval g a1 k1] w5 fun e w' => (∃ v', e = .returned v' ∧ OwnGrid w5.heap.size w' v' g) ∧ Below w5.heap.size w5 w') := fun w5 hb => Lib.hid (rclone_any _ g w5 ((Hg.out.later hB2).later hb) sg)
        go_upto_region 6 with fail
        go_cut [8] from 15 (fun s8 wx => ∃ b h3 k3, s8 = .pointer (some ⟨b, 0, none⟩) ∧ w2.heap.size ≤ b ∧ Hid (GBox wx b g h3 k3) ∧ Hid (GridAt wx.heap.size wx (gval g h3 k3) g) ∧ Below w2.heap.size w2 wx)
        case first =>
          go_wp2_with (go_at_call 14; with_reducible (refine (P1 _ (Below.refl _ _)).out.mono ?_); rintro e w7 ⟨⟨v7, rfl, ho7⟩, hb7⟩; obtain ⟨h7, k7, rfl⟩ := agg_of ho7)
          go_meet
          case rel =>
            exact ⟨w7.heap.size, h7, k7, by with_reducible rfl, hb7.size, Lib.hid (gbox_new _ _ _ _), Lib.hid (ho7.at.later ((Below.refl _ _).alloc (Nat.le_refl _) _)), hb7.alloc hb7.size _⟩
        case rest =>
        obtain ⟨w3, rfl⟩ : ∃ w3 : World, w3 = wc := ⟨_, rfl⟩
        obtain ⟨b8, h8, k8, rfl, hb8, X8, G8, hbx⟩ := hcut
        have hB3 := below_tr hB2 hbx
        have hs3 := hbx.size
        have X1' := Lib.hid (X1.out.below hbx (by omega))
        clear c0 c1 c2 c3 c4
        have c0 := X1'.out.c0
        have c1 := X1'.out.c1
        have c2 := X1'.out.c2
        have c3 := X1'.out.c3
        have c4 := X1'.out.c4
        have l1 : w.heap.size < w3.heap.size := by omega
        obtain ⟨gp, hgp⟩ : ∃ gp, gp = putG g x y ch := ⟨_, rfl⟩
        have HGP := Lib.hid hgp
        have CA : ∀ w5, Below w3.heap.size w3 w5 → Hid (Calls Try.prog 15 #[gval g a1 k1] w5 fun e w' => (∃ v', e = .returned v' ∧ OwnGrid w5.heap.size w' v' g) ∧ Below w5.heap.size w5 w') := fun w5 hb => Lib.hid (clone_any _ g w5 ((Hg.out.later hB3).later hb) sg)
        have PA : ∀ w5, Below w3.heap.size w3 w5 → Hid (Calls Try.prog 16 #[gval g a1 k1, .int .i64 x, .int .i64 y, .int .u8 (ch.toNat : Int)] w5 fun e w' => (∃ v', e = .returned v' ∧ OwnGrid w5.heap.size w' v' gp) ∧ Below w5.heap.size w5 w') := fun w5 hb => by rw [hgp]; exact Lib.hid (put_any _ g x y ch w5 ((Hg.out.later hB3).later hb) sg)
        clear hgp P1
        go_upto_region 7 with fail
        go_cut [9, 10] from 38 (fun s9 s10 wx => ∃ b9 b10 h9 k9 h10 k10 l1 u1 l2 u2, s9 = .pointer (some ⟨b9, 0, none⟩) ∧ s10 = .pointer (some ⟨b10, 0, none⟩) ∧ Hid (GBox wx b9 g h9 k9) ∧ Hid (GBox wx b10 gp h10 k10) ∧ Hid (Owned wx h9 g l1 u1) ∧ Hid (Owned wx h10 gp l2 u2) ∧ Hid (Apart w3.heap.size b9 b10 l1 u1 l2 u2) ∧ Below w3.heap.size w3 wx)
        case first =>
          go_region_held3 (fun w' => (∀ b o, b < w3.heap.size → w'.cell? ⟨b, o, none⟩ = w3.cell? ⟨b, o, none⟩) ∧ Below w3.heap.size w3 w') (first | with_reducible exact Held.drew | with_reducible exact Held.call (by assumption) (by assumption) rfl | with_reducible exact Held.alloc (by assumption) rfl _ | with_reducible exact Held.allocD rfl _ | with_reducible exact Held.sets (by assumption) (by omega) _ _ _ _ _ | with_reducible exact Held.realloc (by assumption) (by omega) _ | (refine Held.of ?_; repeat (first | with_reducible exact And.right (by assumption) | with_reducible exact Below.refl _ _ | with_reducible refine below_alloc ?_ _ | with_reducible refine Below_setCell ?_ _ _ _ (by omega) | with_reducible refine Below.drew ?_ | with_reducible refine below_tr ?_ (by assumption))))
            (first
              | (go_at_call 15; with_reducible (refine (CA _ (And.right (by assumption))).out.mono ?_); rintro e w7 ⟨⟨v7, rfl, ho7⟩, hb7⟩; obtain ⟨h7, k7, rfl⟩ := agg_of ho7; have hc7 := hcell hb7; have hf7 := hfree hb7; have hz7 := hb7.size; (try simp only [drew_heap] at hz7); (try simp only [size_alloc] at hz7); (try have := fun o : Nat => hc7 (w3.heap.size) o (by first | omega | (simp only [drew_heap, size_alloc]; omega))); (try have := fun o : Nat => hf7 (w3.heap.size) o (by first | omega | (simp only [drew_heap, size_alloc]; omega))); (try have := fun o : Nat => hc7 (w3.heap.size + 1) o (by first | omega | (simp only [drew_heap, size_alloc]; omega))); (try have := fun o : Nat => hf7 (w3.heap.size + 1) o (by first | omega | (simp only [drew_heap, size_alloc]; omega))); (try have := fun o : Nat => hc7 (w8.heap.size) o (by first | omega | (simp only [drew_heap, size_alloc]; omega))); (try have := fun o : Nat => hf7 (w8.heap.size) o (by first | omega | (simp only [drew_heap, size_alloc]; omega))); (try have := fun o : Nat => hc7 (w8.heap.size + 1) o (by first | omega | (simp only [drew_heap, size_alloc]; omega))); (try have := fun o : Nat => hf7 (w8.heap.size + 1) o (by first | omega | (simp only [drew_heap, size_alloc]; omega))); (try have : w3.heap.size < w7.heap.size := by omega); (try have : w3.heap.size + 1 < w7.heap.size := by omega); (try have : w8.heap.size < w7.heap.size := by omega); (try have : w8.heap.size + 1 < w7.heap.size := by omega); clear hc7 hf7)
              | (go_at_call 16; with_reducible (refine (PA _ (And.right (by assumption))).out.mono ?_); rintro e w8 ⟨⟨v8, rfl, ho8⟩, hb8⟩; obtain ⟨h8, k8, rfl⟩ := agg_of ho8; have hc8 := hcell hb8; have hf8 := hfree hb8; have hz8 := hb8.size; (try simp only [drew_heap] at hz8); (try simp only [size_alloc] at hz8); (try have := fun o : Nat => hc8 (w3.heap.size) o (by first | omega | (simp only [size_alloc]; omega))); (try have := fun o : Nat => hf8 (w3.heap.size) o (by first | omega | (simp only [size_alloc]; omega))); (try have := fun o : Nat => hc8 (w3.heap.size + 1) o (by first | omega | (simp only [size_alloc]; omega))); (try have := fun o : Nat => hf8 (w3.heap.size + 1) o (by first | omega | (simp only [size_alloc]; omega))); (try have := fun o : Nat => hc8 (w7.heap.size) o (by first | omega | (simp only [size_alloc]; omega))); (try have := fun o : Nat => hf8 (w7.heap.size) o (by first | omega | (simp only [size_alloc]; omega))); (try have := fun o : Nat => hc8 (w7.heap.size + 1) o (by first | omega | (simp only [size_alloc]; omega))); (try have := fun o : Nat => hf8 (w7.heap.size + 1) o (by first | omega | (simp only [size_alloc]; omega))); (try have : w3.heap.size < w8.heap.size := by omega); (try have : w3.heap.size + 1 < w8.heap.size := by omega); (try have : w7.heap.size < w8.heap.size := by omega); (try have : w7.heap.size + 1 < w8.heap.size := by omega); clear hc8 hf8))
          all_goals
            go_wp2_with fail
            go_meet
            obtain ⟨lo7, hl7, O7⟩ := Owned.of' ho7
            obtain ⟨lo8, hl8, O8⟩ := Owned.of' ho8
            (try simp only [drew_heap] at hl7 hl8)
            (try simp only [size_alloc] at hl7 hl8)
            refine ⟨_, _, h7, k7, h8, k8, lo7, w7.heap.size, lo8, w8.heap.size, by with_reducible rfl, by with_reducible rfl, Lib.hid ?_, Lib.hid ?_, Lib.hid ?_, Lib.hid ?_, Lib.hid ?_, ?_⟩
            · repeat (first | with_reducible exact box_new _ _ _ _ _ _ _ (by first | (with_reducible rfl) | (simp only [size_alloc, size_setCell]; done) | omega) | with_reducible exact boxy_new _ _ _ _ _ _ _ (by first | (with_reducible rfl) | (simp only [size_alloc]; done) | omega) | with_reducible refine box_sets ?_ _ _ _ _ _ | with_reducible refine Box5.other ?_ _ _ _ (by omega) | with_reducible refine boxy_other ?_ _ _ _ (by omega) | with_reducible refine box_alloc ?_ _ | with_reducible refine boxy_alloc ?_ _ | with_reducible refine boxy_drew ?_ | with_reducible refine box_later ?_ (by assumption) | with_reducible refine boxy_later ?_ (by assumption))
            · repeat (first | with_reducible exact box_new _ _ _ _ _ _ _ (by first | (with_reducible rfl) | (simp only [size_alloc, size_setCell]; done) | omega) | with_reducible exact boxy_new _ _ _ _ _ _ _ (by first | (with_reducible rfl) | (simp only [size_alloc]; done) | omega) | with_reducible refine box_sets ?_ _ _ _ _ _ | with_reducible refine Box5.other ?_ _ _ _ (by omega) | with_reducible refine boxy_other ?_ _ _ _ (by omega) | with_reducible refine box_alloc ?_ _ | with_reducible refine boxy_alloc ?_ _ | with_reducible refine boxy_drew ?_ | with_reducible refine box_later ?_ (by assumption) | with_reducible refine boxy_later ?_ (by assumption))
            · repeat (first | with_reducible assumption | with_reducible refine Owned.set ?_ _ _ _ (by omega) | with_reducible refine Owned.alloc ?_ _ | with_reducible refine Owned.drew ?_ | with_reducible refine Owned.later ?_ (by assumption))
            · repeat (first | with_reducible assumption | with_reducible refine Owned.set ?_ _ _ _ (by omega) | with_reducible refine Owned.alloc ?_ _ | with_reducible refine Owned.drew ?_ | with_reducible refine Owned.later ?_ (by assumption))
            · constructor <;> omega
            · repeat (first | with_reducible exact Below.refl _ _ | with_reducible refine below_alloc ?_ _ | with_reducible refine Below_setCell ?_ _ _ _ (by omega) | with_reducible refine Below.drew ?_ | with_reducible refine below_tr ?_ (by assumption))
        case rest =>
        obtain ⟨w4, rfl⟩ : ∃ w4 : World, w4 = wc := ⟨_, rfl⟩
        obtain ⟨b9, b10, h9, k9, h10, k10, lo1, hi1, lo2, hi2, rfl, rfl, X9, X10, O9, O10, AP, hbx4⟩ := hcut
        have hB4 := below_tr hB3 hbx4
        have hs4 := hbx4.size
        have X3 := Lib.hid (X1'.out.below hbx4 l1)
        have Y8 := Lib.hid (X8.out.below hbx4 X8.out.lt)
        have GW := Lib.hid (G8.out.later hbx4)
        clear c0 c1 c2 c3 c4 CA PA
        go_upto_region 8 with fail
        go_cut [73] from 45 (fun s73 wx => s73 = .bool false ∧ Below w4.heap.size w4 wx)
        case first =>
          have c0 := X3.out.c0
          have c1 := X3.out.c1
          have c2 := X3.out.c2
          have c3 := X3.out.c3
          have c4 := X3.out.c4
          have d0 := Y8.out.c0
          have d1 := Y8.out.c1
          have d2 := Y8.out.c2
          have d3 := Y8.out.c3
          have d4 := Y8.out.c4
          have e0 := X9.out.c0
          have e1 := X9.out.c1
          have e2 := X9.out.c2
          have e3 := X9.out.c3
          have e4 := X9.out.c4
          have f0 := X10.out.c0
          have f1 := X10.out.c1
          have f2 := X10.out.c2
          have f3 := X10.out.c3
          have f4 := X10.out.c4
          have m1 : w.heap.size < w4.heap.size := by omega
          have m2 : b8 < w4.heap.size := Y8.out.lt
          have m3 : b9 < w4.heap.size := X9.out.lt
          have m4 : b10 < w4.heap.size := X10.out.lt
          have sp : Small gp := by rw [HGP.out]; exact put_small sg _ _ _
          obtain ⟨z, hz⟩ : ∃ z : Int, z = if mayB g = true then 0 else 2 := ⟨_, rfl⟩
          have K1 : ∀ w5, Below w4.heap.size w4 w5 → Hid (Calls Try.prog 17 #[gval g a1 k1] w5 fun e w' => e = .returned (.int .i64 z) ∧ Below w5.heap.size w5 w') := by
            intro w5 hb
            have hx := check_any _ g w5 ((Hg.out.later hB4).later hb) sg
            rw [← hz] at hx
            exact Lib.hid hx
          have K2 : ∀ w5, Below w4.heap.size w4 w5 → Hid (Calls Try.prog 18 #[gval g a1 k1] w5 fun e w' => e = .returned (.int .i64 z) ∧ Below w5.heap.size w5 w') := by
            intro w5 hb
            have hx := rcheck_any _ g w5 ((Hg.out.later hB4).later hb) sg
            rw [← hz] at hx
            exact Lib.hid hx
          clear hz
          have SA : ∀ w5, Below w4.heap.size w4 w5 → Hid (Calls Try.prog 11 #[gval g h9 k9, gval g h8 k8] w5 fun e w' => e = .returned (.bool true) ∧ Below w5.heap.size w5 w') := by
            intro w5 hb
            have hx := lsame_any (gval g h9 k9) (gval g h8 k8) g g w5 (O9.out.later hb).at (GW.out.later hb) sg.1 sg.1
            rw [sameB_self] at hx
            exact Lib.hid hx
          have RP : ∀ w5, Below w4.heap.size w4 w5 → Hid (Calls Try.prog 19 #[gval g a1 k1, .int .i64 x, .int .i64 y, .int .u8 (ch.toNat : Int)] w5 fun e w' => (∃ v', e = .returned v' ∧ OwnGrid w5.heap.size w' v' gp) ∧ Below w5.heap.size w5 w') := fun w5 hb => by rw [HGP.out]; exact Lib.hid (rput_any _ g x y ch w5 ((Hg.out.later hB4).later hb) sg)
          have SB : ∀ v w5, GridAt w5.heap.size w5 v gp → Below w4.heap.size w4 w5 → Hid (Calls Try.prog 11 #[gval gp h10 k10, v] w5 fun e w' => e = .returned (.bool true) ∧ Below w5.heap.size w5 w') := by
            intro v w5 hv hb
            have hx := lsame_any (gval gp h10 k10) _ gp gp w5 (O10.out.later hb).at hv sp.1 sp.1
            rw [sameB_self] at hx
            exact Lib.hid hx
          obtain ⟨T, hT⟩ : ∃ T, T = texts g.cells := ⟨_, rfl⟩
          have TX : ∀ w5, Below w4.heap.size w4 w5 → Hid (Calls Try.prog 21 #[gval g a1 k1] w5 fun e w' => (∃ v', e = .returned v' ∧ TextsAt w' v' T) ∧ Below w5.heap.size w5 w') := fun w5 hb => by rw [hT]; exact Lib.hid (text_any _ g w5 ((Hg.out.later hB4).later hb) sg)
          have RT : ∀ w5, Below w4.heap.size w4 w5 → Hid (Calls Try.prog 22 #[gval g a1 k1] w5 fun e w' => (∃ v', e = .returned v' ∧ TextsAt w' v' T) ∧ Below w5.heap.size w5 w') := fun w5 hb => by rw [hT]; exact Lib.hid (rtext_any _ g w5 ((Hg.out.later hB4).later hb) sg)
          have hTl : T.length ≤ 1000000 := by rw [hT, texts, List.length_map]; exact sg.1
          have TS : ∀ u v w5, TextsAt w5 u T → TextsAt w5 v T → Hid (Calls Try.prog 20 #[u, v] w5 fun e w' => e = .returned (.bool true) ∧ Below w5.heap.size w5 w') := by
            intro u v w5 h1 h2
            have hx := tsame_any u v T T w5 h1 h2 hTl hTl
            rw [decide_eq_true rfl] at hx
            exact Lib.hid hx
          clear hT hTl sp
          go_region_held3 (fun w' => (∀ b o, b < w4.heap.size → w'.cell? ⟨b, o, none⟩ = w4.cell? ⟨b, o, none⟩) ∧ Below w4.heap.size w4 w') (first | with_reducible exact Held.drew | with_reducible exact Held.call (by assumption) (by assumption) rfl)
            (first
              | (go_at_call 17; with_reducible (refine (K1 _ (And.right (by assumption))).out.mono ?_); rintro e w5 ⟨rfl, hb5⟩)
              | (go_at_call 18; with_reducible (refine (K2 _ (And.right (by assumption))).out.mono ?_); rintro e w5 ⟨rfl, hb5⟩)
              | (go_at_call 11; with_reducible (refine (SA _ (And.right (by assumption))).out.mono ?_); rintro e w5 ⟨rfl, hb5⟩)
              | (go_at_call 19; with_reducible (refine (RP _ (And.right (by assumption))).out.mono ?_); rintro e w6 ⟨⟨v6, rfl, ho6⟩, hb6⟩)
              | (go_at_call 11; with_reducible (refine (SB _ _ ho6.at (And.right (by assumption))).out.mono ?_); rintro e w5 ⟨rfl, hb5⟩)
              | (go_at_call 21; with_reducible (refine (TX _ (And.right (by assumption))).out.mono ?_); rintro e w7 ⟨⟨v7, rfl, ht7⟩, hb7⟩)
              | (go_at_call 22; with_reducible (refine (RT _ (And.right (by assumption))).out.mono ?_); rintro e w8 ⟨⟨v8, rfl, ht8⟩, hb8⟩)
              | (go_at_call 20; with_reducible (refine (TS _ _ _ (ht7.later hb8) ht8).out.mono ?_); rintro e w5 ⟨rfl, hb5⟩)
              | (go_at_call 20; with_reducible (refine (TS _ _ _ ht7 (ht8.later hb7)).out.mono ?_); rintro e w5 ⟨rfl, hb5⟩))
          all_goals
            go_wp2_with fail
            go_meet
            exact ⟨rfl, And.right (by assumption)⟩
        case rest =>
        obtain ⟨rfl, hbx5⟩ := hcut
        go_upto_if 73 with fail
        obtain ⟨w5, rfl⟩ : ∃ w5 : World, w5 = wc := ⟨_, rfl⟩
        have Z9 := Lib.hid (gbox_later X9.out hbx5)
        have Z10 := Lib.hid (gbox_later X10.out hbx5)
        have P9 := Lib.hid (O9.out.later hbx5)
        have P10 := Lib.hid (O10.out.later hbx5)
        have hN5 := hbx4.trans (hbx5.mono hbx4.size)
        have sp : Small gp := by rw [HGP.out]; exact put_small sg _ _ _
        clear X9 X10 O9 O10 X3 Y8 GW
        obtain ⟨an1, an2, am1, am2, ane, a11, a12, a21, a22, ay⟩ := AP.out
        obtain ⟨n, hn⟩ : ∃ n, n = g.cells.length := ⟨_, rfl⟩
        have HN := Lib.hid hn
        have hn6 : n ≤ 1000000 := by rw [hn]; exact sg.1
        have b9c2 := Z9.out.c2
        rw [← hn] at b9c2
        clear hn
        go_wp2_with fail
        go_loopw [11, 12] (fun i _ wr => ∃ k : Nat, k ≤ n ∧ i = .int .i64 (k : Nat) ∧ Hid (Fill w5 h9 g lo1 hi1 wr)) (fun i _ _ => n - (intOf i).toNat)
        case atStart => exact ⟨0, Nat.zero_le _, rfl, Lib.hid (Fill.start P9.out)⟩
        case round =>
        obtain ⟨k, hk, rfl, hf⟩ := hrel
        obtain ⟨L0, _, _, hW0⟩ := hf.out
        have y2 : wr.cell? ⟨b9, 2, none⟩ = some (.slice h9 n k9) := by rw [hW0.cell (by omega)]; exact b9c2
        clear hW0
        by_cases hkn : k < n
        · obtain ⟨m, hm⟩ : ∃ m, m = (g.cells[k]?.getD []).length := ⟨_, rfl⟩
          have HM := Lib.hid hm
          have hm6 : m ≤ 1000000 := by rw [hm]; exact row_small sg k
          obtain ⟨hb, rb, ro, rc, rfl, hrow⟩ := hf.out.row (i := k) (by rw [← HN.out]; exact hkn)
          rw [← hm] at hrow
          clear hm
          go_wp2_with fail
          go_loopw [12] (fun j ws => ∃ q : Nat, q ≤ m ∧ j = .int .i64 (q : Nat) ∧ Hid (Fill w5 (some ⟨hb, 0, none⟩) g lo1 hi1 ws)) (fun j _ => m - (intOf j).toNat)
          case atStart => exact ⟨0, Nat.zero_le _, rfl, hf⟩
          case round =>
          obtain ⟨q, hq, rfl, hf2⟩ := hrel
          clear hrow y2
          obtain ⟨L1, _, _, hW1⟩ := hf2.out
          have y3 : wr.cell? ⟨b9, 2, none⟩ = some (.slice (some ⟨hb, 0, none⟩) n k9) := by rw [hW1.cell (by omega)]; exact b9c2
          clear hW1
          by_cases hqm : q < m
          · obtain ⟨hb', rb', ro', rc', he, r1, ⟨z, r2⟩, r3, hset⟩ := hf2.out.at (i := k) (by rw [← HN.out]; exact hkn) (k := q) (by rw [← HM.out]; exact hqm)
            rw [← HM.out] at r1
            cases he
            have HS := Lib.hid hset
            clear hset
            go_wp2_with fail
            go_roundw
            case rel => exact ⟨q + 1, by omega, by go_num, Lib.hid (HS.out 1)⟩
            case measure => simp [intOf]; omega
          · obtain rfl : q = m := by omega
            obtain ⟨hb', rb', ro', rc', he, r1⟩ := hf2.out.row (i := k) (by rw [← HN.out]; exact hkn)
            rw [← HM.out] at r1
            cases he
            go_wp2_with fail
            go_roundw
            case rel => exact ⟨k + 1, by omega, by go_num, hf2⟩
            case measure => simp [intOf]; omega
        obtain rfl : k = n := by omega
        obtain ⟨L2, _, _, hW0⟩ := hf.out
        obtain ⟨w6, rfl⟩ : ∃ w6 : World, w6 = wr := ⟨_, rfl⟩
        have hs6 := hW0.size
        have R10 := Lib.hid (P10.out.keep (fun c h1 h2 => hW0.block c (by omega)) (by rw [hs6]; exact P10.out.1))
        have hN6 := hN5.trans (hW0.below am1)
        obtain ⟨n2, hn2⟩ : ∃ n2, n2 = gp.cells.length := ⟨_, rfl⟩
        have HN2 := Lib.hid hn2
        have hn26 : n2 ≤ 1000000 := by rw [hn2]; exact sp.1
        have b10c2 : w6.cell? ⟨b10, 2, none⟩ = some (.slice h10 gp.cells.length k10) := by rw [hW0.cell (by omega)]; exact Z10.out.c2
        rw [← hn2] at b10c2
        clear hn2 hW0 b9c2
        go_wp2_with fail
        clear y2
        go_loopw [13, 14] (fun i _ wr => ∃ k : Nat, k ≤ n2 ∧ i = .int .i64 (k : Nat) ∧ Hid (Fill w6 h10 gp lo2 hi2 wr)) (fun i _ _ => n2 - (intOf i).toNat)
        case atStart => exact ⟨0, Nat.zero_le _, rfl, Lib.hid (Fill.start R10.out)⟩
        case round =>
        obtain ⟨k, hk, rfl, hf⟩ := hrel
        obtain ⟨L0, _, _, hW0⟩ := hf.out
        have y2 : wr.cell? ⟨b10, 2, none⟩ = some (.slice h10 n2 k10) := by rw [hW0.cell (by omega)]; exact b10c2
        clear hW0
        by_cases hkn : k < n2
        · obtain ⟨m, hm⟩ : ∃ m, m = (gp.cells[k]?.getD []).length := ⟨_, rfl⟩
          have HM := Lib.hid hm
          have hm6 : m ≤ 1000000 := by rw [hm]; exact row_small sp k
          obtain ⟨hb, rb, ro, rc, rfl, hrow⟩ := hf.out.row (i := k) (by rw [← HN2.out]; exact hkn)
          rw [← hm] at hrow
          clear hm
          go_wp2_with fail
          go_loopw [14] (fun j ws => ∃ q : Nat, q ≤ m ∧ j = .int .i64 (q : Nat) ∧ Hid (Fill w6 (some ⟨hb, 0, none⟩) gp lo2 hi2 ws)) (fun j _ => m - (intOf j).toNat)
          case atStart => exact ⟨0, Nat.zero_le _, rfl, hf⟩
          case round =>
          obtain ⟨q, hq, rfl, hf2⟩ := hrel
          clear hrow y2
          obtain ⟨L1, _, _, hW1⟩ := hf2.out
          have y3 : wr.cell? ⟨b10, 2, none⟩ = some (.slice (some ⟨hb, 0, none⟩) n2 k10) := by rw [hW1.cell (by omega)]; exact b10c2
          clear hW1
          by_cases hqm : q < m
          · obtain ⟨hb', rb', ro', rc', he, r1, ⟨z, r2⟩, r3, hset⟩ := hf2.out.at (i := k) (by rw [← HN2.out]; exact hkn) (k := q) (by rw [← HM.out]; exact hqm)
            rw [← HM.out] at r1
            cases he
            have HS := Lib.hid hset
            clear hset
            go_wp2_with fail
            go_roundw
            case rel => exact ⟨q + 1, by omega, by go_num, Lib.hid (HS.out 2)⟩
            case measure => simp [intOf]; omega
          · obtain rfl : q = m := by omega
            obtain ⟨hb', rb', ro', rc', he, r1⟩ := hf2.out.row (i := k) (by rw [← HN2.out]; exact hkn)
            rw [← HM.out] at r1
            cases he
            go_wp2_with fail
            go_roundw
            case rel => exact ⟨k + 1, by omega, by go_num, hf2⟩
            case measure => simp [intOf]; omega
        obtain rfl : k = n2 := by omega
        obtain ⟨w7, rfl⟩ : ∃ w7 : World, w7 = wr := ⟨_, rfl⟩
        obtain ⟨L3, _, _, hW7⟩ := hf.out
        have hN7 := hN6.trans (hW7.below am2)
        have hB7 := below_tr hB3 hN7
        have X7 := X1'.out.below hN7 l1
        have c0 := X7.c0
        have c1 := X7.c1
        have c2 := X7.c2
        have c3 := X7.c3
        have c4 := X7.c4
        have Y7 := X8.out.below hN7 X8.out.lt
        have d0 := Y7.c0
        have d1 := Y7.c1
        have d2 := Y7.c2
        have d3 := Y7.c3
        have d4 := Y7.c4
        have S7 : Hid (Calls Try.prog 11 #[gval g a1 k1, gval g h8 k8] w7 fun e w' => e = .returned (.bool true) ∧ Below w7.heap.size w7 w') := by
          have hx := lsame_any (gval g a1 k1) (gval g h8 k8) g g w7 (Hg.out.later hB7) (G8.out.later hN7) sg.1 sg.1
          rw [sameB_self] at hx
          exact Lib.hid hx
        clear X7 Y7 hW7 b10c2
        go_wp2_with fail
        (with_reducible refine S7.out.mono ?_); rintro e w8 ⟨rfl, hb8'⟩
        go_wp2_with fail
        (with_reducible refine (does_any _).mono ?_); rintro e w9 ⟨rfl, hb9'⟩
        go_wp2_with fail
        go_ret
        exact ⟨rfl, below_tr (below_tr hB7 hb8') hb9'⟩
end Go.Proofs.Ytnpdpfkoghhioaa
