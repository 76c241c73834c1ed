/- bytes.Repeat of one byte: a new row of so many; condition: from 1 to 8192 of them. -/
import Derived.Test.YtnpdpfkoghhioaaDoorGB
import Derived.Laws.CopyOwn
import Derived.Deep.RegionLaw
import Derived.LoopTactic
import Derived.Laws.BitsLemmas
namespace Go.Proofs.YtnpdpfkoghhioaaDoor
open Go.RowKit

theorem Tryd.size5 : (Tryd.prog.info? 5).map (·.size) = some 1 := by kernel_rfl

theorem get_splice (L : List Value) (off : Nat) (cs : List Value) (h : off + cs.length ≤ L.length) (k : Nat) : (splice L off cs)[k]? = if k < off then L[k]? else if k < off + cs.length then cs[k - off]? else L[k]? := by
  unfold splice
  by_cases h1 : k < off
  · rw [if_pos h1, List.getElem?_append_left (by simp; omega)]; simp [h1]
  · rw [if_neg h1, List.getElem?_append_right (by simp; omega)]
    have e : (L.take off).length = off := by simp; omega
    rw [e]
    by_cases h2 : k < off + cs.length
    · rw [if_pos h2, List.getElem?_append_left (by omega)]
    · rw [if_neg h2, List.getElem?_append_right (by omega), List.getElem?_drop]
      congr 1; omega
theorem row_cell {w : World} {g : Nat} {cur : List Value} {t : TypeId} {k : Nat} {v : Value} (h : w.heap[g]? = some (.cells cur.toArray t (0, 0))) (hk : cur[k]? = some v) : w.cell? ⟨g, k, none⟩ = some v := by
  simp [World.cell?, h, hk]

set_option maxRecDepth 100000 in
set_option maxHeartbeats 2000000 in
theorem repeat_any (sb so : Nat) (c : Int) (n : Nat) (w : World) (hc : w.cell? ⟨sb, so, none⟩ = some (.int .u8 c)) (h1 : 1 ≤ n) (h2 : n ≤ 8192) :
    Calls Tryd.prog 55 #[.slice (some ⟨sb, so, none⟩) 1 1, .int .i64 n] w fun e w' => ∃ cur : List Value, e = .returned (.slice (some ⟨w.heap.size, 0, none⟩) n n) ∧
      w'.heap[w.heap.size]? = some (.cells cur.toArray 5 (0, 0)) ∧ (∀ k, k < n → cur[k]? = some (.int .u8 c)) ∧ Below w.heap.size w w' := by
  obtain ⟨cs, hrunM, hle, hmax⟩ := Lib.run_makeNoZero (P := Tryd.prog) w #[3] 44 5 Tryd.underlying44 n (by omega)
  have hcall : (callFunc 63 #[.int .i64 (n : Int)]).run Tryd.prog w = .ok (.value (.slice (some ⟨w.heap.size, 0, none⟩) n cs.size)) ((w.alloc (.cells cs 5)).drewN 2) := by
    rw [run_callFunc_extern Tryd.func63 (by kernel_rfl) (by kernel_rfl) (by kernel_rfl) (e := Extern.BytealgMakeNoZero.makeNoZero #[3] #[44]) (by kernel_rfl), hrunM]
    rfl
  clear hrunM hmax
  have i0 : (0 : Int) ≤ (n : Int) := by omega
  have i1 : (n : Int) ≤ (cs.size : Int) := by omega
  have hb := lt_of_cell hc
  have hne : ((n : Int) == 0) = false := by simp; omega
  have C1 := Lib.hid (mul_one n w (by omega) (by omega))
  go_enter Tryd.func55, Tryd.ntmps55
  go_wp2_with fail
  (with_reducible refine C1.out.mono ?_); rintro e w' ⟨rfl, rfl⟩
  go_wp2_with (with_reducible refine wpList_copy_splice rfl (.tmp 58) (.tmp 59) 44 44 rfl 5 (by kernel_rfl) Tryd.size5 (some ⟨w.heap.size, 0, none⟩) (some ⟨sb, so, none⟩) n n 1 1 ?_ ?_ w.heap.size 0 cs.toList 5 ?_ [.int .u8 c] ?_ ?_ ?_ ?_ w.heap.size w ?_ (Nat.le_refl _) ?_)
  · rfl
  · rfl
  · show (w.heap.push (Obj.cells cs 5))[w.heap.size]? = some (Obj.cells cs.toList.toArray 5)
    simp
  · show 1 = Nat.min 1 n
    exact (Nat.min_eq_left h1).symm
  · intro j v hj
    cases j with
    | zero => simp at hj; rw [← hj]; exact hc
    | succ j => simp at hj
  · simp; omega
  · intro v hv; simp at hv; rw [hv]; rfl
  · exact ((Below.refl _ _).alloc (Nat.le_refl _) _).drew.drew
  · intro w1 hg1 hb1
    go_wp2_with fail
    go_loopw [10, 11] (fun p q wr => ∃ m : Nat, ∃ cur : List Value, 1 ≤ m ∧ m ≤ n ∧ p = .int .i64 m ∧ Hid (wr.heap[w.heap.size]? = some (.cells cur.toArray 5 (0, 0))) ∧ Hid (cur.length = cs.size) ∧ Hid (∀ k, k < m → cur[k]? = some (.int .u8 c)) ∧ Below w.heap.size w wr) (fun p _ _ => n - (intOf p).toNat)
    case atStart =>
      refine ⟨1, splice cs.toList 0 [.int .u8 c], by omega, h1, rfl, hg1, Lib.hid (by rw [length_splice _ _ _ (by simp; omega)]; simp), Lib.hid (fun k hk => ?_), hb1⟩
      obtain rfl : k = 0 := by omega
      rw [get_splice _ _ _ (by simp; omega)]; simp
    case round =>
      obtain ⟨m, cur, hm1, hmn, rfl, hg, hl, hk, hbw⟩ := hrel
      by_cases h : m < n
      · have e1 : (m : Int) ≤ (n : Int) := by omega
        have e2 : min (m : Int) (n : Int) = m := by omega
        have hci : ((List.take (Nat.min m (n - m)) cur)).length = Nat.min m (n - m) := by
          have := hl.out
          rw [List.length_take]
          have : Nat.min m (n - m) ≤ m := Nat.min_le_left _ _
          omega
        have hsrc : ∀ j v, (cur.take (Nat.min m (n - m)))[j]? = some v → wr.cell? ((⟨w.heap.size, 0, none⟩ : Addr).add j) = some v := by
          intro j v hj
          rw [add_plain, Nat.zero_add]
          refine row_cell hg.out ?_
          rw [List.getElem?_take] at hj
          split at hj
          · exact hj
          · cases hj
        have hlt : Nat.min m (n - m) ≤ m := Nat.min_le_left _ _
        have hlt2 : Nat.min m (n - m) ≤ n - m := Nat.min_le_right _ _
        have hlt3 : 1 ≤ Nat.min m (n - m) := Nat.le_min.2 ⟨hm1, by omega⟩
        have hfit : m + (cur.take (Nat.min m (n - m))).length ≤ cur.length := by rw [hci, hl.out]; omega
        have hone : ∀ v ∈ cur.take (Nat.min m (n - m)), v.oneCell' = true := by
          intro v hv
          obtain ⟨j, hj, rfl⟩ := List.mem_iff_getElem.1 hv
          rw [hci] at hj
          have := hk.out j (by omega)
          rw [List.getElem_take]
          rw [List.getElem?_eq_getElem (by rw [hl.out]; omega)] at this
          injection this with this
          rw [this]; rfl
        have Hci := Lib.hid hci
        have Hfit := Lib.hid hfit
        clear hci hfit
        go_wp2_with fail
        go_region_law (refine step_copy_splice rfl (.tmp 70) (.tmp 73) 44 44 rfl 5 (by kernel_rfl) Tryd.size5 (some ⟨w.heap.size, m, none⟩) (some ⟨w.heap.size, 0, none⟩) (n - m) (n - m) m n (by simp [Act.eval, Act.put]; omega) (by simp [Act.eval, Act.put]) w.heap.size m cur 5 hg.out (cur.take (Nat.min m (n - m))) Hci.out (fun _ => ⟨rfl, _, rfl, hsrc⟩) Hfit.out hone w.heap.size w hbw.drew (Nat.le_refl _) ?_; intro w4 hg4 hb4)
        have hnew : ∀ k, k < m + Nat.min m (n - m) → (splice cur m (cur.take (Nat.min m (n - m))))[k]? = some (.int .u8 c) := by
          intro k hk2
          rw [get_splice _ _ _ Hfit.out, Hci.out]
          by_cases hkm : k < m
          · rw [if_pos hkm]; exact hk.out k hkm
          · rw [if_neg hkm, if_pos hk2, List.getElem?_take, if_pos (by omega)]; exact hk.out _ (by omega)
        have hlen : (splice cur m (cur.take (Nat.min m (n - m)))).length = cs.size := by rw [length_splice _ _ _ Hfit.out]; exact hl.out
        have Hlen := Lib.hid hlen
        have Hnew := Lib.hid hnew
        clear hlen hnew hone hsrc
        have hmm : min m (min (n - m) cur.length) = Nat.min m (n - m) := by
          show min m (min (n - m) cur.length) = min m (n - m)
          rw [hl.out]; omega
        have ewr : ∀ q : Nat, q ≤ n - m → IntKind.i64.wrap ((m : Int) + (q : Int)) = ((m + q : Nat) : Int) := fun q hq => by
          rw [IntKind.wrap_i64]; omega
        have Hewr := Lib.hid ewr
        clear ewr
        have Hmm := Lib.hid hmm
        clear hmm
        go_wp2_with fail
        go_roundw
        case rel =>
          rw [Hmm.out]
          exact ⟨m + Nat.min m (n - m), by omega, by omega, Hewr.out _ hlt2, _, hg4, Hlen, Hnew⟩
        case measure =>
          rw [Hmm.out]
          rw [Hewr.out _ hlt2]; simp only [intOf]; omega
      · have hmn2 : m = n := by omega
        have Hk := Lib.hid hk.out
        clear hk
        go_wp2_with fail
        go_returns
        exact ⟨cur, rfl, hg.out, fun k h => Hk.out k (by omega), hbw⟩
end Go.Proofs.YtnpdpfkoghhioaaDoor
