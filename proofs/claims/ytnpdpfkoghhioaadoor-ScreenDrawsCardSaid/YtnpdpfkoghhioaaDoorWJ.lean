/- The chapter's Cells. -/
import Derived.Test.YtnpdpfkoghhioaaDoorWH
namespace Go.Proofs.YtnpdpfkoghhioaaDoor
open Go.RowKit

set_option maxRecDepth 100000 in
set_option maxHeartbeats 4000000 in
theorem rcells_any (s : ByteArray) (w : World) (hs : s.size ≤ 100000) :
    Calls Tryd.prog 22 #[.string s] w fun e w' => (∃ v, e = .returned (.tuple #[.string ⟨(cellsTo s.data.toList s.size).toArray⟩, v]) ∧ IntsAt w' v (placesL s.data.toList)) ∧ Below w.heap.size w w' := by
  obtain ⟨l, hl⟩ : ∃ l, l = s.data.toList := ⟨_, rfl⟩
  have hn : l.length = s.size := by rw [hl]; rfl
  rw [← hl]
  have HL := Lib.hid hl
  have HN := Lib.hid hn
  clear hl hn
  obtain ⟨F, hF⟩ : ∃ F : ByteArray, F = ⟨(cellsTo l s.size).toArray⟩ := ⟨_, rfl⟩
  rw [← hF]
  have HF := Lib.hid hF
  clear hF
  go_enter Tryd.func22, Tryd.ntmps22
  go_wp2_with fail
  go_loopw [4, 5, 6] (fun sv av i wr => ∃ k : Nat, ∃ S : ByteArray, k ≤ s.size ∧ i = .int .i64 k ∧ sv = .string S ∧ S.size ≤ 8 * k ∧ Hid (S = ⟨(cellsTo l k).toArray⟩) ∧ Hid (wr.ownsRow w.heap.size 3 1 av k (nums (posTo l k))) ∧ Below w.heap.size w wr) (fun _ _ i _ => s.size - (intOf i).toNat)
  case atStart => exact ⟨0, _, Nat.zero_le _, rfl, rfl, Nat.le_refl _, Lib.hid rfl, Lib.hid (World.ownsRow_nil _ _ _ _), Below.refl _ _⟩
  case round =>
    obtain ⟨k, S, hk, rfl, rfl, hSz, hS, hown, hbel⟩ := hrel
    have hsize : S.size = (cellsTo l k).length := by rw [hS.out]; simp [ByteArray.size]
    obtain ⟨p, hp⟩ : ∃ p, p = (cellsTo l k).length := ⟨_, rfl⟩
    rw [← hp] at hsize
    have HP := Lib.hid hp
    have hp1 : p ≤ 1000000 := by omega
    clear hp
    have hsz := hbel.size
    have hB2 : w.heap.size ≤ (wr.alloc (.cells #[.int .i64 (p : Int)] 3)).heap.size := by simp; omega
    by_cases hlt : k < s.size
    · obtain ⟨T, hT⟩ : ∃ T : ByteArray, T = ⟨(shownL s[k] p).toArray⟩ := ⟨_, rfl⟩
      have CO : ∀ w5, Hid (Calls Tryd.prog 54 #[.int .u8 (s[k].toNat : Int), .int .i64 (p : Int)] w5 fun e w' => e = .returned (.string T) ∧ Below w5.heap.size w5 w') := by
        intro w5; rw [hT]; exact Lib.hid (of_any s[k] p w5 hp1)
      have hTs : T.size ≤ 8 := by
        have := (shown_len s[k] p).2
        rw [hT]
        show (shownL s[k] p).toArray.size ≤ 8
        rw [List.size_toArray]; exact this
      have HTT := Lib.hid hT
      clear hT
      go_wp2_with (at_builtin; refine app_one rfl (.tmp 13) (.tmp 16) 46 rfl 3 (.int .i64 0) 8 Tryd.underlying46 (by kernel_rfl) rfl w.heap.size u5 k (nums (posTo l k)) (by simp [Act.eval]) (hown.out.alloc _) wr.heap.size 1 (by simp [Act.eval]) (.int .i64 (p : Int)) (one_cell _ _ _) rfl (by omega) (by decide) hB2 ?_; intro g c w1 hown1 hgr1 hb1)
      (with_reducible refine (CO _).out.mono ?_); rintro e w2 ⟨rfl, hb2⟩
      have hsum : S.size + T.size ≤ 8 * (k + 1) := by omega
      go_wp2_with fail
      go_roundw
      case rel =>
        have hk1 : k < l.length := by rw [HN.out]; exact hlt
        have e1 : l[k] = s[k] := by simp only [HL.out]; rfl
        refine ⟨k + 1, S ++ T, by omega, by go_num, rfl, by rw [ByteArray.size_append]; exact hsum, Lib.hid ?_, Lib.hid ?_, ?_⟩
        · rw [cellsTo_succ l k hk1, ← HP.out, e1, hS.out, HTT.out]
          refine ByteArray.ext ?_
          apply Array.toList_inj.1
          simp
        · have h2 : nums (posTo l (k + 1)) = nums (posTo l k) ++ [.int .i64 (p : Int)] := by
            rw [posTo_succ, ← HP.out]; simp [nums]
          rw [h2]
          exact own_keeps hown1.out (Keeps.of_below hb2)
        · have h3 := hb1.size
          exact (hbel.trans (((Below.refl _ _).alloc hsz _).trans hb1)).trans (hb2.mono (by simp at h3; omega))
      case measure => simp [intOf]; omega
    · obtain rfl : k = s.size := by omega
      go_wp2_with (at_builtin; refine app_one rfl (.tmp 27) (.tmp 30) 46 rfl 3 (.int .i64 0) 8 Tryd.underlying46 (by kernel_rfl) rfl w.heap.size u5 s.size (nums (posTo l s.size)) (by simp [Act.eval]) (hown.out.alloc _) wr.heap.size 1 (by simp [Act.eval]) (.int .i64 (p : Int)) (one_cell _ _ _) rfl (by omega) (by decide) hB2 ?_; intro g c w1 hown1 hgr1 hb1)
      go_ret2
      obtain rfl : F = S := HF.out.trans hS.out.symm
      refine ⟨⟨_, rfl, ?_⟩, hbel.trans (((Below.refl _ _).alloc (by omega) _).trans hb1)⟩
      refine ints_own (B := w.heap.size) (e := 3) ?_
      rw [← posTo_all, posTo_len, HN.out, posTo_succ, ← HP.out]
      have h2 : nums (posTo l s.size ++ [p]) = nums (posTo l s.size) ++ [.int .i64 (p : Int)] := by simp [nums]
      rw [h2]
      exact hown1.out
end Go.Proofs.YtnpdpfkoghhioaaDoor
