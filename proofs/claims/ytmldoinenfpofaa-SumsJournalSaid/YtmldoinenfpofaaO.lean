/- The walk of SumsJournal: true for every list of texts. -/
import Derived.Test.YtmldoinenfpofaaK
import Derived.Deep.RegionWith
import Derived.Deep.CutRange
import Derived.Deep.DeepCutAuto
namespace Go.Proofs.Ytmldoinenfpofaa
open Go.RowKit

/-- What is read of a list of texts: nil, or cells that hold them. -/
def TextsAt (w : World) (v : Value) (l : List ByteArray) : Prop :=
  ∃ a cap, v = .slice a l.length cap ∧ (l ≠ [] → ∃ b off, a = some ⟨b, off, none⟩ ∧ b < w.heap.size ∧ ∀ j, j < l.length → w.cell? ⟨b, off + j, none⟩ = some (.string (l[j]?.getD ByteArray.empty)))
/-- The first k texts, one behind the other. -/
def cat (l : List ByteArray) : ByteArray := l.foldl (· ++ ·) ByteArray.empty
theorem cat_snoc (l : List ByteArray) (s : ByteArray) : cat (l ++ [s]) = cat l ++ s := by simp [cat]

set_option maxRecDepth 100000 in
set_option maxHeartbeats 4000000 in
theorem journal_law (v : Value) (l : List ByteArray) (w : World) (hv : TextsAt w v l) (hl : l.length ≤ 9223372036854775807) (hz : ∀ s ∈ l, s.size ≤ 9223372036854775807) :
    Calls Try.prog 5 #[v] w fun e w' => e = .returned (.bool true) ∧ Below w.heap.size w w' := by
  obtain ⟨a, cap, rfl, hc⟩ := hv
  obtain ⟨n, hn⟩ : ∃ n, n = l.length := ⟨_, rfl⟩
  rw [← hn] at hl ⊢
  have HN := Lib.hid hn
  have HC := Lib.hid hc
  have HZ := Lib.hid hz
  clear hn hc hz
  go_enter Try.func5, Try.ntmps5
  go_wp2_with fail
  go_loopw [2, 3, 4, 5, 6] (fun r all one two i wr => ∃ k : Nat, k ≤ n ∧ k ≤ 40 ∧ i = .int .i64 k ∧ all = .string (cat (l.take k)) ∧ (cat (l.take k)).size ≤ 20000 ∧ one = .int .u32 (sum (cat (l.take k)).data.toList) ∧ two = .int .u32 (sum (cat (l.take k)).data.toList) ∧ Below w.heap.size w wr)
    (fun _ _ _ _ i _ => n - (intOf i).toNat)
  case atStart =>
    have h0 : sum (cat (l.take 0)).data.toList = 0 := by rw [List.take_zero]; decide
    exact ⟨0, by omega, by omega, rfl, rfl, by rw [List.take_zero]; decide, by rw [h0], by rw [h0], Below.refl _ _⟩
  case round =>
    obtain ⟨k, hk, hk40, rfl, rfl, hsz, rfl, rfl, hbel⟩ := hrel
    by_cases hlt : k < n
    · by_cases h40 : k < 40
      · obtain ⟨b, off, ha, hb, hcs⟩ := HC.out (by intro h0; have := HN.out; rw [h0] at this; simp at this; omega)
        have hcell := (hbel.cell (p := ⟨b, off + k, none⟩) hb).trans (hcs k (by rw [← HN.out]; exact hlt))
        have hkl : k < l.length := by rw [← HN.out]; exact hlt
        obtain ⟨p, hp⟩ : ∃ p, p = l[k]?.getD ByteArray.empty := ⟨_, rfl⟩
        have hpz : p.size ≤ 9223372036854775807 := by rw [hp]; exact HZ.out _ (by simp [hkl])
        have hsn : cat (l.take (k + 1)) = cat (l.take k) ++ p := by
          rw [List.take_succ_eq_append_getElem hkl, cat_snoc, hp]; simp [hkl]
        rw [← hp] at hcell
        have HSN := Lib.hid hsn
        have HP := Lib.hid hp
        clear hsn hp hcs
        subst ha
        generalize cat (l.take k) = q at hsz HSN ⊢
        by_cases hfit : q.size + p.size ≤ 20000
        · have hs0 := sum_bd q.data.toList
          have e1 : more (sum q.data.toList) p.data.toList = sum (q ++ p).data.toList := by rw [sum_more, toList_append]
          have e2 : join (sum q.data.toList) (sum p.data.toList) p.size = sum (q ++ p).data.toList := by
            rw [← e1, more_join, Array.length_toList]; rfl
          have c1 := fun w => more_any (sum q.data.toList) p w hs0.1 hs0.2 (by omega)
          have c2 := fun w => sum_any p w (by omega)
          have hs1 := sum_bd p.data.toList
          have c3 := fun w => join_any (sum q.data.toList) (sum p.data.toList) p.size w hs0.1 hs0.2 hs1.1 hs1.2 (by omega) (by omega)
          have c4 := fun w => sum_any (q ++ p) w (by rw [ByteArray.size_append]; omega)
          rw [e1] at c1
          rw [e2] at c3
          have hqp : (q ++ p).size ≤ 20000 := by rw [ByteArray.size_append]; omega
          obtain ⟨σ, hσ⟩ : ∃ σ, sum q.data.toList = σ := ⟨_, rfl⟩
          obtain ⟨τ, hτ⟩ : ∃ τ, sum (q ++ p).data.toList = τ := ⟨_, rfl⟩
          rw [hσ] at c1 c3 ⊢
          rw [hτ] at c1 c3 c4
          have C1 := Lib.hid c1
          have C2 := Lib.hid c2
          have C3 := Lib.hid c3
          have C4 := Lib.hid c4
          have HQP := Lib.hid hqp
          have HT := Lib.hid hτ
          clear c1 c2 c3 c4 e1 e2 hs0 hs1 hσ hτ hqp
          go_wp2_with fail
          (with_reducible refine (C1.out _).mono ?_); rintro e w1 ⟨rfl, hb1⟩
          have hcell1 := (hb1.cell (p := ⟨b, off + k, none⟩) (show b < _ by have := hbel.size; omega)).trans hcell
          go_wp2_with fail
          clear hcell
          go_cut [5] from 7 to 59 (fun x wx => x = .int .u32 τ ∧ Below w.heap.size w wx)
          case first =>
            go_region_with (first
              | (go_at_call 11; (with_reducible refine (C2.out _).mono ?_); rintro e w2 ⟨rfl, hb2⟩; have hcell2 := (hb2.cell (p := ⟨b, off + k, none⟩) (show b < w1.heap.size by have := hbel.size; have := hb1.size; omega)).trans hcell1)
              | (go_at_call 15; (with_reducible refine (C3.out _).mono ?_); rintro e w3 ⟨rfl, hb3⟩))
            all_goals (go_wp2_with fail; go_meet)
            all_goals exact ⟨rfl, below_tr (below_tr (below_tr hbel hb1) ((Below.refl _ _).drew.trans hb2)) hb3⟩
          case rest =>
            obtain ⟨rfl, hbx⟩ := hcut
            go_wp2_with fail
            (with_reducible refine (C4.out _).mono ?_); rintro e w4 ⟨rfl, hb4⟩
            go_wp2_with fail
            go_roundw
            case rel => exact ⟨k + 1, by omega, by omega, by go_num, by rw [HSN.out], by rw [HSN.out]; exact HQP.out, by rw [HSN.out, HT.out], by rw [HSN.out, HT.out], below_tr hbx hb4⟩
            case measure => simp [intOf]; omega
        · clear HSN HP
          go_wp2_with fail
          (with_reducible refine (told_any _).mono ?_); rintro e w5 ⟨rfl, hb2⟩
          go_wp2_with fail
          go_ret
          exact ⟨rfl, below_tr hbel hb2⟩
      · go_wp2_with fail
        (with_reducible refine (told_any _).mono ?_); rintro e w5 ⟨rfl, hb2⟩
        go_wp2_with fail
        go_ret
        exact ⟨rfl, below_tr hbel hb2⟩
    · go_wp2_with fail
      (with_reducible refine (told_any _).mono ?_); rintro e w5 ⟨rfl, hb2⟩
      go_wp2_with fail
      go_ret
      exact ⟨rfl, below_tr hbel hb2⟩
end Go.Proofs.Ytmldoinenfpofaa
