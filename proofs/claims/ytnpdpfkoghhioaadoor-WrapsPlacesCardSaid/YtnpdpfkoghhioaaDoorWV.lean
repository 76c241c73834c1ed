/- The law WrapsAhead: its walk. -/
import Derived.Test.YtnpdpfkoghhioaaDoorWR
import Derived.RegionTactic
import Derived.BigRegion
import Derived.Deep.RegionWith
import Derived.Test.YtnpdpfkoghhioaaDoorHQ
namespace Go.Proofs.YtnpdpfkoghhioaaDoor
open Go.RowKit

theorem app_list (a b : ByteArray) : (a ++ b).data.toList = a.data.toList ++ b.data.toList := by rw [ByteArray.data_append]; simp
theorem place_ahead (A B : List UInt8) (i : Nat) (h : i ≤ A.length) : (placesL (A ++ B))[i]?.getD 0 = (cellsTo A i).length := by
  rw [places_get _ _ (by simp; omega), cellsTo_ahead A B i h]
theorem cut_ahead (A B : List UInt8) (n : Nat) (h : A.length ≤ n) : (⟨(cellsTo (A ++ B) n).toArray⟩ : ByteArray).extract 0 (cellsTo A A.length).length = ⟨(cellsTo A A.length).toArray⟩ ∧ (cellsTo A A.length).length ≤ (⟨(cellsTo (A ++ B) n).toArray⟩ : ByteArray).size := by
  obtain ⟨r, hr⟩ := cellsTo_mono (A ++ B) A.length n h
  rw [cellsTo_ahead A B _ (Nat.le_refl _)] at hr
  rw [hr]
  constructor
  · apply ByteArray.ext
    rw [ByteArray.data_extract]
    apply Array.ext'
    simp [List.extract]
  · show _ ≤ (List.toArray _).size
    rw [List.size_toArray, List.length_append]; omega

/-- A list of ints at a value whose address is known. -/
theorem ints_open {w : World} {v : Value} {l : List Nat} {n : Nat} (h : IntsAt w v l) (hn : l.length = n) (h0 : 0 < n) :
    ∃ b o k, v = .slice (some ⟨b, o, none⟩) n k ∧ b < w.heap.size ∧ ∀ j, j < n → w.cell? ⟨b, o + j, none⟩ = some (.int .i64 ((l[j]?.getD 0 : Nat) : Int)) := by
  obtain ⟨a, c, hv, h⟩ := h
  obtain ⟨b, o, ha, hlt, hc⟩ := h (fun e => by rw [e] at hn; simp at hn; omega)
  exact ⟨b, o, c, by rw [hv, ha, hn], hlt, fun j hj => hc j (by omega)⟩

set_option maxRecDepth 100000 in
set_option maxHeartbeats 4000000 in
theorem wrapsAhead_walk (a b c : ByteArray) (w : World) (h : TabOK w) :
    Calls Tryd.prog 9 #[.string a, .string b, .string c] w fun e w' => e = .returned (.bool true) ∧ Below w.heap.size w w' := by
  have HT := Lib.hid h
  clear h
  by_cases hs : a.size ≤ 500 ∧ b.size ≤ 500 ∧ c.size ≤ 500
  · obtain ⟨ha, hb, hc⟩ := hs
    obtain ⟨S, T, p, C1, C2, g1, g2, HE, hp⟩ : ∃ (S T : ByteArray) (p : Nat → Nat),
        Hid (∀ w2, TabOK w2 → Calls Tryd.prog 21 #[.string (a ++ b)] w2 fun e w' => (∃ b1 o1 k1, e = .returned (.tuple #[.string S, .slice (some ⟨b1, o1, none⟩) (a.size + b.size + 1) k1]) ∧ b1 < w'.heap.size ∧ ∀ j, j ≤ a.size → w'.cell? ⟨b1, o1 + j, none⟩ = some (.int .i64 (p j : Int))) ∧ Below w2.heap.size w2 w') ∧
        Hid (∀ w2, TabOK w2 → Calls Tryd.prog 21 #[.string (a ++ c)] w2 fun e w' => (∃ b1 o1 k1, e = .returned (.tuple #[.string T, .slice (some ⟨b1, o1, none⟩) (a.size + c.size + 1) k1]) ∧ b1 < w'.heap.size ∧ ∀ j, j ≤ a.size → w'.cell? ⟨b1, o1 + j, none⟩ = some (.int .i64 (p j : Int))) ∧ Below w2.heap.size w2 w') ∧
        p a.size ≤ S.size ∧ p a.size ≤ T.size ∧ Hid (S.extract 0 (p a.size) = T.extract 0 (p a.size)) ∧ (∀ j, j ≤ a.size → p j ≤ 8000) := by
      have hal : a.data.toList.length = a.size := rfl
      have hbl : b.data.toList.length = b.size := rfl
      have hcl : c.data.toList.length = c.size := rfl
      have e1 : (a ++ b).size = a.size + b.size := ByteArray.size_append
      have e2 : (a ++ c).size = a.size + c.size := ByteArray.size_append
      have q1 := cut_ahead a.data.toList b.data.toList (a ++ b).size (by omega)
      have q2 := cut_ahead a.data.toList c.data.toList (a ++ c).size (by omega)
      rw [hal] at q1 q2
      refine ⟨⟨(cellsTo (a.data.toList ++ b.data.toList) (a ++ b).size).toArray⟩, ⟨(cellsTo (a.data.toList ++ c.data.toList) (a ++ c).size).toArray⟩, fun j => (cellsTo a.data.toList j).length, Lib.hid fun w2 h => ?_, Lib.hid fun w2 h => ?_, q1.2, q2.2, Lib.hid (by rw [q1.1, q2.1]), fun j hj => ?_⟩
      · have := cells_any (a ++ b) w2 h (by omega)
        rw [app_list] at this
        refine this.mono fun e w' ⟨⟨v, he, hv⟩, hb⟩ => ⟨?_, hb⟩
        obtain ⟨b1, o1, k1, rfl, hlt, hcell⟩ := ints_open hv (n := a.size + b.size + 1) (by rw [places_len, List.length_append, hal, hbl]) (by omega)
        exact ⟨b1, o1, k1, he, hlt, fun j hj => by rw [hcell j (by omega), place_ahead _ _ j (by omega)]⟩
      · have := cells_any (a ++ c) w2 h (by omega)
        rw [app_list] at this
        refine this.mono fun e w' ⟨⟨v, he, hv⟩, hb⟩ => ⟨?_, hb⟩
        obtain ⟨b1, o1, k1, rfl, hlt, hcell⟩ := ints_open hv (n := a.size + c.size + 1) (by rw [places_len, List.length_append, hal, hcl]) (by omega)
        exact ⟨b1, o1, k1, he, hlt, fun j hj => by rw [hcell j (by omega), place_ahead _ _ j (by omega)]⟩
      · have := (cellsTo_len a.data.toList j (by omega)).2
        show (cellsTo a.data.toList j).length ≤ 8000
        omega
    go_enter Tryd.func9, Tryd.ntmps9
    go_wp2_with fail
    (with_reducible refine (C1.out w HT.out).mono ?_); rintro e w1 ⟨⟨b1, o1, k1, rfl, hl1, hc1⟩, hb1⟩
    have Hc1 := Lib.hid hc1
    clear hc1
    go_wp2_with fail
    (with_reducible refine (C2.out w1 (TabOK.later HT.out hb1)).mono ?_); rintro e w2 ⟨⟨b2, o2, k2, rfl, hl2, hc2⟩, hb2⟩
    have Hc2 := Lib.hid hc2
    have X1 : Hid (∀ j, j ≤ a.size → w2.cell? ⟨b1, o1 + j, none⟩ = some (.int .i64 (p j : Int))) := Lib.hid fun j hj => (hb2.cell (p := ⟨b1, o1 + j, none⟩) hl1).trans (Hc1.out j hj)
    have hl1' : b1 < w2.heap.size := Nat.lt_of_lt_of_le hl1 hb2.size
    clear hc2 Hc1 hl1
    have hb3 := tr_below hb1 hb2
    clear hb1 hb2 C1 C2
    go_wp2_with fail
    go_loopw [11] (fun i wr => ∃ k : Nat, k ≤ a.size + 1 ∧ i = .int .i64 k ∧ Below w2.heap.size w2 wr) (fun i _ => a.size + 1 - (intOf i).toNat)
    case atStart => exact ⟨0, Nat.zero_le _, rfl, Below.refl _ _⟩
    case round =>
      obtain ⟨k, hk, rfl, hbk⟩ := hrel
      by_cases hlt : k ≤ a.size
      · have m1 := (hbk.cell (p := ⟨b1, o1 + k, none⟩) hl1').trans (X1.out k hlt)
        have m2 := (hbk.cell (p := ⟨b2, o2 + k, none⟩) hl2).trans (Hc2.out k hlt)
        go_wp2_with fail
        go_region
        all_goals
          go_wp2_with fail
          refine ⟨⟨k + 1, by omega, by go_num, hbk.drew⟩, ?_⟩
          simp [intOf]; omega
      · obtain rfl : k = a.size + 1 := by omega
        have m1 := (hbk.cell (p := ⟨b1, o1 + a.size, none⟩) hl1').trans (X1.out _ (Nat.le_refl _))
        have hpk := hp _ (Nat.le_refl _)
        obtain ⟨K, hK⟩ : ∃ K, K = p a.size := ⟨_, rfl⟩
        rw [← hK] at m1 g1 g2 HE hpk
        clear hK
        have hd : (S.extract 0 K).toList = (T.extract 0 K).toList := by rw [HE.out]
        have T2 : Hid (TabOK wr) := Lib.hid (TabOK.later HT.out (tr_below hb3 hbk))
        have B2 := Lib.hid (tr_below hb3 hbk)
        clear hbk hb3 X1 Hc2 hl1' hl2 hp
        go_wp2_with fail
        have K6 : Hid (∀ w2, Below wr.heap.size wr w2 → Calls Tryd.prog 24 #[] w2 fun e w' => e = .returned (.bool true) ∧ Below w2.heap.size w2 w') := Lib.hid fun w2 hb => does_any w2 (TabOK.later T2.out hb)
        refine wp_region_class (by kernel_rfl) (by kernel_rfl) ?_
        repeat (go_big_quiet_step (first
          | (go_at_call 24; with_reducible exact Calls.ext (K6.out _ (Subtype.property _)))))
        refine wpQuiet_nil ?_
        intro _ hw'
        obtain ⟨q, hw''⟩ := hw'
        subst hw''
        go_wp2_with fail
        go_ret
        exact ⟨rfl, tr_below B2.out q.2⟩
  · go_enter Tryd.func9, Tryd.ntmps9
    have B0 := Lib.hid (Below.refl w.heap.size w)
    by_cases ha : a.size ≤ 500
    · have d1 : decide ((500 : Int) < (a.size : Int)) = false := by simp; omega
      by_cases hb : b.size ≤ 500
      · have d2 : decide ((500 : Int) < (b.size : Int)) = false := by simp; omega
        have d3 : decide ((500 : Int) < (c.size : Int)) = true := by simp; omega
        clear ha hb hs
        go_wp2_with fail
        go_ret
        exact ⟨rfl, B0.out⟩
      · have d2 : decide ((500 : Int) < (b.size : Int)) = true := by simp; omega
        clear ha hb hs
        go_wp2_with fail
        go_ret
        exact ⟨rfl, B0.out⟩
    · have d1 : decide ((500 : Int) < (a.size : Int)) = true := by simp; omega
      clear ha hs
      go_wp2_with fail
      go_ret
      exact ⟨rfl, B0.out⟩
end Go.Proofs.YtnpdpfkoghhioaaDoor
