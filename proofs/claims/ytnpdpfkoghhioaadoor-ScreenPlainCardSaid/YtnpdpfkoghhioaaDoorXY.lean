/- The law ScreenPlain: its walk. -/
import Derived.Test.YtnpdpfkoghhioaaDoorXU
import Derived.Test.YtnpdpfkoghhioaaDoorYB
namespace Go.Proofs.YtnpdpfkoghhioaaDoor
open Go.RowKit

def strV : Value → Nat
  | .string s => s.size
  | _ => 0
/-- A short plain line. -/
def LineOK (t : ByteArray) : Prop := t.size ≤ 8 ∧ ∀ j (h : j < t.size), 33 ≤ (t[j]'h).toNat ∧ (t[j]'h).toNat ≤ 126
theorem LineOK.plain {t : ByteArray} (h : LineOK t) : PlainL t.data.toList := by
  intro x hx
  obtain ⟨j, hj, rfl⟩ := List.getElem_of_mem hx
  have := h.2 j hj
  have e : t.data.toList[j] = t[j]'hj := by
    have h1 := byte_get t t.data.toList (by simp) j hj
    exact (List.getElem?_eq_some_iff.1 h1).2
  rw [e]; omega
set_option maxRecDepth 100000 in
set_option maxHeartbeats 16000000 in
theorem screenPlain_walk (L : List ByteArray) (v : Value) (more : Int) (w : World) (hT : TabOK w) (h : TextsAt w v L) (hn : L.length ≤ 9223372036854775807) (hm : 0 ≤ more ∧ more < 256) :
    Calls Tryd.prog 11 #[v, .int .u8 more] w fun e w' => e = .returned (.bool true) ∧ Below w.heap.size w w' := by
  have HTX := Lib.hid h
  have HTB := Lib.hid hT
  obtain ⟨a, c, rfl, hc⟩ := h
  have CL : Hid (∀ wx, Below w.heap.size w wx → Calls Tryd.prog 13 #[] wx fun e w' => e = .returned (.bool true) ∧ Below wx.heap.size wx w') := Lib.hid (fun wx hb => lives_any wx (HTB.out.later hb))
  have CLW : Hid (Calls Tryd.prog 13 #[] w fun e w' => e = .returned (.bool true) ∧ Below w.heap.size w w') := Lib.hid (CL.out w (Below.refl _ _))
  have Hc := Lib.hid hc
  obtain ⟨n, hnn⟩ : ∃ n, n = L.length := ⟨_, rfl⟩
  have HN := Lib.hid hnn
  rw [← hnn] at hn HTX ⊢
  clear hc hT hnn
  go_enter Tryd.func11, Tryd.ntmps11
  by_cases hn0 : n = 0
  · have n1 : ((n : Int) == 0) = true := by rw [beq_iff_eq]; omega
    have n2 : (n == 0) = true := by rw [beq_iff_eq]; exact hn0
    clear hn0
    go_wp2_with fail
    (with_reducible refine CLW.out.mono ?_); rintro e w7 ⟨rfl, hb7⟩
    go_wp2_with fail
    go_ret
    exact ⟨rfl, hb7⟩
  have n1 : ((n : Int) == 0) = false := by rw [beq_eq_false_iff_ne]; omega
  have n2 : (n == 0) = false := by rw [beq_eq_false_iff_ne]; exact hn0
  by_cases hn10 : 10 < n
  · have n3 : (10 : Int) < (n : Int) := by omega
    go_wp2_with fail
    (with_reducible refine CLW.out.mono ?_); rintro e w7 ⟨rfl, hb7⟩
    go_wp2_with fail
    go_ret
    exact ⟨rfl, hb7⟩
  have n3 : decide ((10 : Int) < (n : Int)) = false := decide_eq_false (by omega)
  have n4 : decide (10 < n) = false := decide_eq_false hn10
  obtain ⟨tb0, tq0, rfl, htb0, hcl⟩ := Hc.out (by intro e; have := HN.out; rw [e] at this; simp at this; omega)
  have HLC : Hid (∀ i (h : i < L.length), w.cell? ⟨tb0, tq0 + i, none⟩ = some (.string L[i])) := Lib.hid hcl
  clear hcl Hc
  go_wp2_with fail
  clear n1 n2 n3 n4
  go_loop [5] (fun u => ∃ k : Nat, k ≤ n ∧ u = .int .i64 (k : Nat) ∧ Hid (∀ j (h : j < L.length), j < k → LineOK L[j])) (fun u => n - (intOf u).toNat)
  case atStart => exact ⟨0, Nat.zero_le _, rfl, Lib.hid (fun j _ h => absurd h (Nat.not_lt_zero _))⟩
  case round =>
    obtain ⟨k, hk, rfl, hall⟩ := hrel
    by_cases hkn : k < n
    · have hkL : k < L.length := by rw [← HN.out]; exact hkn
      have hm1 := HLC.out k hkL
      have HNX : Hid (LineOK L[k] → ∀ j (h : j < L.length), j < k + 1 → LineOK L[j]) := Lib.hid (fun h0 j hj hj2 => by
        by_cases e : j = k
        · subst e; exact h0
        · exact hall.out j hj (by omega))
      have hk2 : (k : Int) < (n : Int) := by omega
      generalize L[k] = tx at *
      by_cases h8 : 8 < tx.size
      · have h82 : (8 : Int) < ((tx.size : Nat) : Int) := by omega
        go_wp2_with fail
        (with_reducible refine CLW.out.mono ?_); rintro e w7 ⟨rfl, hb7⟩
        go_wp2_with fail
        go_ret
        exact ⟨rfl, hb7⟩
      have h82 : ¬ (8 : Int) < ((tx.size : Nat) : Int) := by omega
      go_wp2_with fail
      go_loop [6] (fun u => ∃ j : Nat, j ≤ tx.size ∧ u = .int .i64 (j : Nat) ∧ Hid (∀ i (h : i < tx.size), i < j → 33 ≤ (tx[i]'h).toNat ∧ (tx[i]'h).toNat ≤ 126)) (fun u => tx.size - (intOf u).toNat)
      case atStart => exact ⟨0, Nat.zero_le _, rfl, Lib.hid (fun i _ h => absurd h (Nat.not_lt_zero _))⟩
      case round =>
        obtain ⟨j, hj, rfl, hby⟩ := hrel
        by_cases hjt : j < tx.size
        · have hj2 : (j : Int) < ((tx.size : Nat) : Int) := by omega
          by_cases h33 : (tx[j]'hjt).toNat < 33
          · have h34 : (((tx[j]'hjt).toNat : Nat) : Int) < 33 := by omega
            go_wp2_with fail
            (with_reducible refine CLW.out.mono ?_); rintro e w7 ⟨rfl, hb7⟩
            go_wp2_with fail
            go_ret
            exact ⟨rfl, hb7⟩
          have h34 : decide ((((tx[j]'hjt).toNat : Nat) : Int) < 33) = false := decide_eq_false (by omega)
          by_cases h126 : 126 < (tx[j]'hjt).toNat
          · have h127 : (126 : Int) < (((tx[j]'hjt).toNat : Nat) : Int) := by omega
            go_wp2_with fail
            (with_reducible refine CLW.out.mono ?_); rintro e w7 ⟨rfl, hb7⟩
            go_wp2_with fail
            go_ret
            exact ⟨rfl, hb7⟩
          have h127 : decide ((126 : Int) < (((tx[j]'hjt).toNat : Nat) : Int)) = false := decide_eq_false (by omega)
          have HJ : Hid (∀ i (h : i < tx.size), i < j + 1 → 33 ≤ (tx[i]'h).toNat ∧ (tx[i]'h).toNat ≤ 126) := Lib.hid (fun i hi hi2 => by
            by_cases e : i = j
            · subst e; omega
            · exact hby.out i hi (by omega))
          clear h33 h126
          go_wp2_with fail
          exact ⟨⟨j + 1, by omega, by go_num, HJ⟩, by simp [intOf]; omega⟩
        · have HK : Hid (∀ j (h : j < L.length), j < k + 1 → LineOK L[j]) := Lib.hid (HNX.out ⟨by omega, fun i hi => hby.out i hi (by omega)⟩)
          go_wp2_with fail
          exact ⟨⟨k + 1, by omega, by go_num, HK⟩, by simp [intOf]; omega⟩
    · have HOK : Hid (∀ t ∈ L, LineOK t) := Lib.hid (fun t ht => by
        obtain ⟨j, hj, rfl⟩ := List.getElem_of_mem ht
        exact hall.out j hj (by have := HN.out; omega))
      obtain ⟨md, hmd⟩ : ∃ md : Nat, more % 5 = (md : Int) := ⟨(more % 5).toNat, by omega⟩
      have hmd5 : md < 5 := by omega
      have hmw : IntKind.i64.wrap more = more := IntWalk.i64_in _ ⟨by omega, by omega⟩
      obtain ⟨R, hR⟩ : ∃ R, R = n + 1 + md := ⟨_, rfl⟩
      have HR := Lib.hid hR
      have HIP : Hid (IsPlain ⟨L, 1, 0, ByteArray.empty, false, (R : Int), 8⟩ R) := Lib.hid
        { line := rfl, col := rfl, status := rfl, typing := rfl, rows := rfl, cols := rfl, n1 := by show 1 ≤ L.length; rw [← HN.out]; omega, n10 := by show L.length ≤ 10; rw [← HN.out]; omega, r := by show L.length + 1 ≤ R; rw [← HN.out]; omega, r60 := by omega, len := fun t ht => (HOK.out t ht).1, pl := fun t ht => (HOK.out t ht).plain }
      go_upto_region 14 with fail
      have hRi : (n : Int) + 1 + (md : Int) = (R : Int) := by omega
      rw [hRi]
      obtain ⟨W, hW, hbW, hsW, hbox⟩ := box7_new w (.slice (some ⟨tb0, tq0, none⟩) n c) (.int .i64 1) (.int .i64 0) (.string ⟨#[]⟩) (.bool false) (.int .i64 (R : Int)) (.int .i64 8) 26
      rw [hW]
      clear hW hsW hRi hmw
      have hR60 : R ≤ 60 ∧ n + 1 ≤ R := by omega
      clear hmd hmd5 hR
      obtain ⟨B0, hB0⟩ : ∃ B, B = w.heap.size := ⟨_, rfl⟩
      rw [← hB0] at hbox ⊢
      have HBW := Lib.hid hbW
      have HBX := Lib.hid hbox
      clear hB0 hbW hbox
      obtain ⟨S, hS⟩ : ∃ S : SH, S = ⟨L, 1, 0, ByteArray.empty, false, (R : Int), 8⟩ := ⟨_, rfl⟩
      rw [← hS] at HIP
      have HDL : Hid ((drawG S 1).cells.length = R) := Lib.hid (by rw [draw_len S 1 HIP.out.fit, HIP.out.rows]; rfl)
      have HLN : Hid (S.lines = L) := Lib.hid (by rw [hS])
      have HSV : Hid (ShowAt W (.agg #[.slice (some ⟨tb0, tq0, none⟩) n c, .int .i64 1, .int .i64 0, .string ⟨#[]⟩, .bool false, .int .i64 (R : Int), .int .i64 8]) S) := Lib.hid (by
        have h0 := HTX.out.later HBW.out
        rw [HN.out] at h0 ⊢
        rw [hS]
        exact ⟨_, c, rfl, h0⟩)
      have CD : Hid (Calls Tryd.prog 17 #[.agg #[.slice (some ⟨tb0, tq0, none⟩) n c, .int .i64 1, .int .i64 0, .string ⟨#[]⟩, .bool false, .int .i64 (R : Int), .int .i64 8], .int .i64 1] W fun e w' => (∃ a k x y, e = .returned (.tuple #[.agg #[.int .i64 (R : Int), .int .i64 8, .slice a R k, .int .i64 x, .int .i64 y], .int .i64 0]) ∧ GridAt w'.heap.size w' (.agg #[.int .i64 (R : Int), .int .i64 8, .slice a R k, .int .i64 x, .int .i64 y]) (drawG S 1)) ∧ Below W.heap.size W w') := Lib.hid (by
        have hE : drawE S 1 = 0 := by unfold drawE; rw [if_pos HIP.out.check, if_neg (by have := HIP.out.n1; omega)]
        refine (sdraw_any S _ W (HTB.out.later HBW.out) HSV.out HIP.out.fit.lim 1).mono ?_
        rintro e w' ⟨⟨gv, he, hg⟩, hb⟩
        rw [hE] at he
        rw [hE, if_pos rfl] at hg
        have hat := hg.at
        have e1 : (1 : Int).toNat = 1 := rfl
        rw [e1] at hg hat
        obtain ⟨a, k, hv, _⟩ := hg
        have hv2 : gv = .agg #[.int .i64 (R : Int), .int .i64 8, .slice a R k, .int .i64 (drawG S 1).row, .int .i64 (drawG S 1).col] := by
          rw [hv, HDL.out, show (drawG S 1).rows = (R : Int) from HIP.out.rows, show (drawG S 1).cols = 8 from HIP.out.cols]
        rw [hv2] at he hat
        exact ⟨⟨a, k, _, _, he, hat⟩, hb⟩)
      clear hS
      have x0 := HBX.out.c0
      have x1 := HBX.out.c1
      have x2 := HBX.out.c2
      have x3 := HBX.out.c3
      have x4 := HBX.out.c4
      have x5 := HBX.out.c5
      have x6 := HBX.out.c6
      go_wp2_with fail
      (with_reducible refine CD.out.mono ?_); rintro e w1 ⟨⟨ga, gk, gx, gy, rfl, hat⟩, hb1⟩
      have HB1 := Lib.hid hb1
      clear x0 x1 x2 x3 x4 x5 x6 CD
      go_upto_region 15 with fail
      generalize hW3 : World.alloc w1 _ = W3
      have hb3 : Below w1.heap.size w1 W3 := by rw [← hW3]; exact (Below.refl _ _).alloc (Nat.le_refl _) _
      have HGB : Hid (Box5 W3 w1.heap.size 37 (.int .i64 (R : Int)) (.int .i64 8) (.slice ga R gk) (.int .i64 gx) (.int .i64 gy)) := Lib.hid (by rw [← hW3]; unfold Box5; rw [heap_alloc, if_pos rfl])
      have HB3 : Hid (Below W.heap.size W W3) := Lib.hid (below_tr hb1 hb3)
      have HSML : Hid (Small (drawG S 1)) := Lib.hid ⟨by rw [HDL.out]; omega, fun r hr => by rw [draw_row S 1 r hr, HIP.out.cols]; decide⟩
      have CTX : Hid (Calls Tryd.prog 31 #[.agg #[.int .i64 (R : Int), .int .i64 8, .slice ga R gk, .int .i64 gx, .int .i64 gy]] W3 fun e w' => (∃ v', e = .returned v' ∧ TextsAt w' v' (texts (drawG S 1).cells)) ∧ Below W3.heap.size W3 w') := Lib.hid (text_any _ _ W3 (hat.later hb3) HSML.out)
      obtain ⟨GB, hGB⟩ : ∃ GB, GB = w1.heap.size := ⟨_, rfl⟩
      rw [← hGB] at HGB ⊢
      clear hW3 hb3 hGB hb1 hat
      have g0 := HGB.out.c0
      have g1 := HGB.out.c1
      have g2 := HGB.out.c2
      have g3 := HGB.out.c3
      have g4 := HGB.out.c4
      go_wp2_with fail
      (with_reducible refine CTX.out.mono ?_); rintro e w4 ⟨⟨v', rfl, hT4⟩, hb4⟩
      have HB4 : Hid (Below W.heap.size W w4) := Lib.hid (below_tr HB3.out hb4)
      have HA4 : Hid (Below w.heap.size w w4) := Lib.hid (below_tr HBW.out HB4.out)
      have HLEN : Hid ((texts (drawG S 1).cells).length = R) := Lib.hid (by unfold texts; rw [List.length_map, HDL.out])
      obtain ⟨ta, tc, rfl, ht⟩ := hT4
      obtain ⟨tb, tq, rfl, htb, htc⟩ := ht (by intro e; have := HLEN.out; rw [e] at this; simp at this; omega)
      have HTC : Hid (∀ i, i < R → w4.cell? ⟨tb, tq + i, none⟩ = some (.string ⟨(padded (wantB L R i)).toArray⟩)) := Lib.hid (fun i hi => by
        have hi2 : i < (texts (drawG S 1).cells).length := by rw [HLEN.out]; exact hi
        rw [htc i hi2]
        have h1 := HIP.out.drawn i hi
        have h2 : (texts (drawG S 1).cells)[i]? = some ⟨(padded (wantB L R i)).toArray⟩ := by
          unfold texts
          rw [List.getElem?_map, h1, HLN.out]; rfl
        rw [(List.getElem?_eq_some_iff.1 h2).2])
      rw [HLEN.out]
      have x5 := (HBX.out.later HB4.out).c5
      have HLC4 : Hid (∀ i (h : i < L.length), w4.cell? ⟨tb0, tq0 + i, none⟩ = some (.string L[i])) := Lib.hid (fun i hi => (HA4.out.cell (p := ⟨tb0, tq0 + i, none⟩) htb0).trans (HLC.out i hi))
      clear g0 g1 g2 g3 g4 CTX hb4 ht htc htb hall
      have d1 : ((R : Int) == (R : Int)) = true := by simp
      have hwr : IntKind.i64.wrap ((R : Int) - 1) = (R : Int) - 1 := IntWalk.i64_in _ ⟨by omega, by omega⟩
      go_wp2_with fail
      go_loop [11] (fun u => ∃ i : Nat, i ≤ R ∧ u = .int .i64 (i : Nat)) (fun u => R - (intOf u).toNat)
      case atStart => exact ⟨0, Nat.zero_le _, rfl⟩
      case round =>
        obtain ⟨i, hi, rfl⟩ := hrel
        by_cases hiR : i < R
        · have hiR2 : (i : Int) < (R : Int) := by omega
          have hX := HTC.out
          by_cases hin : i < L.length
          · have hin0 : i < n := by rw [HN.out]; exact hin
            have hm1 := HLC4.out i hin
            have hcell := hX i hiR
            clear hX
            have hb : wantB L R i = L[i].data.toList := by unfold wantB; rw [List.getElem?_eq_getElem hin]
            have hbl : L[i].data.toList.length ≤ 8 := (HOK.out _ (List.getElem_mem hin)).1
            rw [hb] at hcell
            obtain ⟨b, hbb⟩ : ∃ b, b = L[i].data.toList := ⟨_, rfl⟩
            have HBB := Lib.hid hbb
            have hin2 : (i : Int) < (n : Int) := by omega
            have hin3 : i < n := by omega
            rw [← hbb] at hcell hbl
            clear hbb hb
            go_wp2_with fail
            go_loop [12] (fun u => ∃ j : Nat, j ≤ 8 - b.length ∧ u = .string ⟨(b ++ List.replicate j 32).toArray⟩) (fun u => 8 - strV u)
            case atStart => exact ⟨0, Nat.zero_le _, by rw [List.replicate_zero, List.append_nil, HBB.out]⟩
            case round =>
              obtain ⟨j, hj, rfl⟩ := hrel
              have hsz : (⟨(b ++ List.replicate j 32).toArray⟩ : ByteArray).size = b.length + j := by show (List.toArray _).size = _; rw [List.size_toArray, List.length_append, List.length_replicate]
              have hnx : (⟨(b ++ List.replicate j 32).toArray⟩ : ByteArray) ++ (⟨#[32]⟩ : ByteArray) = ⟨(b ++ List.replicate (j + 1) 32).toArray⟩ := by
                rw [show (⟨#[32]⟩ : ByteArray) = ⟨[32].toArray⟩ from rfl, bytes_app, List.append_assoc, ← List.replicate_succ']
              have HSZ := Lib.hid hsz
              have HNX := Lib.hid hnx
              have hend : b.length + j = 8 → (⟨(b ++ List.replicate j 32).toArray⟩ : ByteArray) = ⟨(padded b).toArray⟩ := fun h => by unfold padded; rw [show 8 - b.length = j by omega]
              have HEND := Lib.hid hend
              clear hsz hnx hend
              generalize (⟨(b ++ List.replicate j 32).toArray⟩ : ByteArray) = S at *
              by_cases hs : S.size < 8
              · have hs2 : ((S.size : Nat) : Int) < 8 := by omega
                have HSN : Hid ((S ++ (⟨#[32]⟩ : ByteArray)).size = S.size + 1) := Lib.hid (by rw [ByteArray.size_append]; rfl)
                go_wp2_with fail
                refine ⟨⟨j + 1, by have := HSZ.out; omega, by rw [← HNX.out]; try rfl⟩, ?_⟩
                show 8 - (S ++ (⟨#[32]⟩ : ByteArray)).size < 8 - S.size
                rw [HSN.out]; omega
              · have hs2 : ¬ ((S.size : Nat) : Int) < 8 := by omega
                have hS : S = ⟨(padded b).toArray⟩ := HEND.out (by have := HSZ.out; omega)
                subst hS
                clear HNX HSZ HEND
                go_wp2_with fail
                exact ⟨⟨i + 1, by omega, by go_num⟩, by simp [intOf]; omega⟩
          · have hin0 : ¬ i < n := by rw [HN.out]; exact hin
            by_cases hrr : i < R - 1
            · skip
              have hcell := hX i hiR
              clear hX
              have hb : wantB L R i = [126] := by unfold wantB; rw [List.getElem?_eq_none (by omega)]; simp only; rw [if_pos (by omega)]
              rw [hb] at hcell
              obtain ⟨b, hbb⟩ : ∃ b : List UInt8, b = [126] := ⟨_, rfl⟩
              have HBB := Lib.hid hbb
              have hbl : b.length ≤ 8 := by rw [hbb]; decide
              have hin2 : ¬ (i : Int) < (n : Int) := by omega
              have hr1 : (i : Int) < (R : Int) - 1 := by omega
              rw [← hbb] at hcell
              clear hbb hb
              go_wp2_with fail
              go_loop [12] (fun u => ∃ j : Nat, j ≤ 8 - b.length ∧ u = .string ⟨(b ++ List.replicate j 32).toArray⟩) (fun u => 8 - strV u)
              case atStart => exact ⟨0, Nat.zero_le _, by rw [List.replicate_zero, List.append_nil, HBB.out]⟩
              case round =>
                obtain ⟨j, hj, rfl⟩ := hrel
                have hsz : (⟨(b ++ List.replicate j 32).toArray⟩ : ByteArray).size = b.length + j := by show (List.toArray _).size = _; rw [List.size_toArray, List.length_append, List.length_replicate]
                have hnx : (⟨(b ++ List.replicate j 32).toArray⟩ : ByteArray) ++ (⟨#[32]⟩ : ByteArray) = ⟨(b ++ List.replicate (j + 1) 32).toArray⟩ := by
                  rw [show (⟨#[32]⟩ : ByteArray) = ⟨[32].toArray⟩ from rfl, bytes_app, List.append_assoc, ← List.replicate_succ']
                have HSZ := Lib.hid hsz
                have HNX := Lib.hid hnx
                have hend : b.length + j = 8 → (⟨(b ++ List.replicate j 32).toArray⟩ : ByteArray) = ⟨(padded b).toArray⟩ := fun h => by unfold padded; rw [show 8 - b.length = j by omega]
                have HEND := Lib.hid hend
                clear hsz hnx hend
                generalize (⟨(b ++ List.replicate j 32).toArray⟩ : ByteArray) = S at *
                by_cases hs : S.size < 8
                · have hs2 : ((S.size : Nat) : Int) < 8 := by omega
                  have HSN : Hid ((S ++ (⟨#[32]⟩ : ByteArray)).size = S.size + 1) := Lib.hid (by rw [ByteArray.size_append]; rfl)
                  go_wp2_with fail
                  refine ⟨⟨j + 1, by have := HSZ.out; omega, by rw [← HNX.out]; try rfl⟩, ?_⟩
                  show 8 - (S ++ (⟨#[32]⟩ : ByteArray)).size < 8 - S.size
                  rw [HSN.out]; omega
                · have hs2 : ¬ ((S.size : Nat) : Int) < 8 := by omega
                  have hS : S = ⟨(padded b).toArray⟩ := HEND.out (by have := HSZ.out; omega)
                  subst hS
                  clear HNX HSZ HEND
                  go_wp2_with fail
                  exact ⟨⟨i + 1, by omega, by go_num⟩, by simp [intOf]; omega⟩
            · skip
              have hcell := hX i hiR
              clear hX
              have hb : wantB L R i = [] := by unfold wantB; rw [List.getElem?_eq_none (by omega)]; simp only; rw [if_neg (by omega)]
              rw [hb] at hcell
              obtain ⟨b, hbb⟩ : ∃ b : List UInt8, b = [] := ⟨_, rfl⟩
              have HBB := Lib.hid hbb
              have hbl : b.length ≤ 8 := by rw [hbb]; decide
              have hin2 : ¬ (i : Int) < (n : Int) := by omega
              have hr1 : ¬ (i : Int) < (R : Int) - 1 := by omega
              rw [← hbb] at hcell
              clear hbb hb
              go_wp2_with fail
              go_loop [12] (fun u => ∃ j : Nat, j ≤ 8 - b.length ∧ u = .string ⟨(b ++ List.replicate j 32).toArray⟩) (fun u => 8 - strV u)
              case atStart => exact ⟨0, Nat.zero_le _, by rw [List.replicate_zero, List.append_nil, HBB.out]⟩
              case round =>
                obtain ⟨j, hj, rfl⟩ := hrel
                have hsz : (⟨(b ++ List.replicate j 32).toArray⟩ : ByteArray).size = b.length + j := by show (List.toArray _).size = _; rw [List.size_toArray, List.length_append, List.length_replicate]
                have hnx : (⟨(b ++ List.replicate j 32).toArray⟩ : ByteArray) ++ (⟨#[32]⟩ : ByteArray) = ⟨(b ++ List.replicate (j + 1) 32).toArray⟩ := by
                  rw [show (⟨#[32]⟩ : ByteArray) = ⟨[32].toArray⟩ from rfl, bytes_app, List.append_assoc, ← List.replicate_succ']
                have HSZ := Lib.hid hsz
                have HNX := Lib.hid hnx
                have hend : b.length + j = 8 → (⟨(b ++ List.replicate j 32).toArray⟩ : ByteArray) = ⟨(padded b).toArray⟩ := fun h => by unfold padded; rw [show 8 - b.length = j by omega]
                have HEND := Lib.hid hend
                clear hsz hnx hend
                generalize (⟨(b ++ List.replicate j 32).toArray⟩ : ByteArray) = S at *
                by_cases hs : S.size < 8
                · have hs2 : ((S.size : Nat) : Int) < 8 := by omega
                  have HSN : Hid ((S ++ (⟨#[32]⟩ : ByteArray)).size = S.size + 1) := Lib.hid (by rw [ByteArray.size_append]; rfl)
                  go_wp2_with fail
                  refine ⟨⟨j + 1, by have := HSZ.out; omega, by rw [← HNX.out]; try rfl⟩, ?_⟩
                  show 8 - (S ++ (⟨#[32]⟩ : ByteArray)).size < 8 - S.size
                  rw [HSN.out]; omega
                · have hs2 : ¬ ((S.size : Nat) : Int) < 8 := by omega
                  have hS : S = ⟨(padded b).toArray⟩ := HEND.out (by have := HSZ.out; omega)
                  subst hS
                  clear HNX HSZ HEND
                  go_wp2_with fail
                  exact ⟨⟨i + 1, by omega, by go_num⟩, by simp [intOf]; omega⟩
        · go_wp2_with fail
          (with_reducible refine (CL.out _ HA4.out).mono ?_); rintro e w7 ⟨rfl, hb7⟩
          go_wp2_with fail
          go_ret
          exact ⟨rfl, below_tr HA4.out hb7⟩
end Go.Proofs.YtnpdpfkoghhioaaDoor
