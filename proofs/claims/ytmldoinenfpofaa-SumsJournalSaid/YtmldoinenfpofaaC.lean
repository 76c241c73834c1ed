/- The chunks of a list of bytes: the walk of the closure of slices.Chunk at 256; conditions: at most a million bytes, cells that lay ahead. -/
import Derived.RangeFuncFrom
import Derived.RangeFuncBound
import Derived.RangeFuncCalls
import Derived.RangeFuncLeaves
import Derived.RangeFuncBox
import Derived.Shelf.Abstract
import Derived.WalkKit
import Derived.OwnWalkIn
import Derived.TacticsInMore
import Derived.LoopNIn
import Derived.LoopIn
import Derived.Test.YtmldoinenfpofaaB
namespace Go.Proofs.Ytmldoinenfpofaa
open Go.RowKit Go.Shelf
attribute [local go_sem] Oper.semAt_some

/-- The chunk's slice. -/
def chunkV (b n k : Nat) : Value := .slice (some ⟨b, 256 * k, none⟩) (min 256 (n - 256 * k)) (min 256 (n - 256 * k))
def chunks (n : Nat) : List Nat := List.range ((n + 255) / 256)

/-- Two blocks lie as they lay. -/
def Same2 (a b : Nat) (W W' : World) : Prop := W'.heap[a]? = W.heap[a]? ∧ W'.heap[b]? = W.heap[b]?
theorem Same2.refl (a b : Nat) (W : World) : Same2 a b W W := ⟨rfl, rfl⟩
theorem Same2.trans {a b : Nat} {A B C : World} (h : Same2 a b A B) (k : Same2 a b B C) : Same2 a b A C := ⟨k.1.trans h.1, k.2.trans h.2⟩
theorem Same2.drew {a b : Nat} {A B : World} (h : Same2 a b A B) : Same2 a b A B.drew := h
theorem Same2.fst {a b : Nat} {A B : World} (h : Same2 a b A B) (o : Nat) : B.cell? ⟨a, o, none⟩ = A.cell? ⟨a, o, none⟩ := World.cell?_of_block (w := A) (a := ⟨a, o, none⟩) h.1
theorem Same2.snd {a b : Nat} {A B : World} (h : Same2 a b A B) (o : Nat) : B.cell? ⟨b, o, none⟩ = A.cell? ⟨b, o, none⟩ := World.cell?_of_block (w := A) (a := ⟨b, o, none⟩) h.2

set_option maxRecDepth 100000 in
set_option maxHeartbeats 2000000 in
theorem chunk1_in (m : Nat) (hm : 1 ≤ m) (l Bs Bn b n cap : Nat) (hcap : n ≤ cap) (hn : n ≤ 1000000) (J Jx : List Nat → World → Prop) (hJd : ∀ p w, J p w → J p w.drew)
    (hY : ∀ pre x W, J pre W → pre.length < (chunks n).length → YieldAt Fence.wide (m - 1) Try.prog l #[chunkV b n x] W fun e W' =>
      (e = .returned (.bool true) ∧ J (pre ++ [x]) W' ∧ Same2 Bs Bn W W') ∨ (e = .returned (.bool false) ∧ Jx (pre ++ [x]) W'))
    (W : World) (hcs : W.cell? ⟨Bs, 0, none⟩ = some (.slice (some ⟨b, 0, none⟩) n cap)) (hcn : W.cell? ⟨Bn, 0, none⟩ = some (.int .i64 256)) (h0 : J [] W) :
    CallsIn Fence.wide m Try.prog 28 #[.func (.yield l) #[] #[], .pointer (some ⟨Bs, 0, none⟩), .pointer (some ⟨Bn, 0, none⟩)] W fun e W' => (∃ v, e = .returned v) ∧
      ((∃ ys, ys = chunks n ∧ J ys W') ∨ (∃ pre, True ∧ Jx pre W')) := by
  refine callsIn_of_wp Try.func28 rfl trivial ?_ rfl
  simp only [Try.ntmps28, List.size_toArray, List.length_cons, List.length_nil, Nat.reduceAdd, Nat.reduceSub, Array.replicate_succ, Array.replicate_zero, List.push_toArray, List.append_toArray, List.nil_append, List.cons_append]
  gi_wp2
  gi_loopw [4] (fun i wr => ∃ k : Nat, 256 * k ≤ n + 255 ∧ i = .int .i64 ((256 * k : Nat) : Int) ∧ J (List.range k) wr ∧ Same2 Bs Bn W wr)
    (fun i _ => n + 512 - (intOf i).toNat)
  case atStart => exact ⟨0, by omega, rfl, h0, Same2.refl _ _ _⟩
  case round =>
    obtain ⟨k, hk, rfl, hJs, hnx⟩ := hrel
    have hcs' := (hnx.fst 0).trans hcs
    have hcn' := (hnx.snd 0).trans hcn
    clear hcs hcn
    by_cases hlt : 256 * k < n
    · obtain ⟨fn, tmps, assign, body, hy, hR⟩ := hY _ k wr.drew (hJd _ _ hJs) (by simp [chunks]; omega)
      have hcap' : ¬ cap = 256 * k := by omega
      by_cases hq : 256 ≤ n - 256 * k
      · have ev : chunkV b n k = .slice (some ⟨b, 256 * k, none⟩) 256 256 := by
          unfold chunkV; congr 1 <;> omega
        rw [ev] at hy; clear ev
        gi_wp2
        gi_region
        gi_wp2
        refine hR.mono ?_
        rintro e W3 (⟨rfl, hJ3, hk3⟩ | ⟨rfl, hJx3⟩)
        · have hcs3 := (hk3.fst 0).trans hcs'
          have hcn3 := (hk3.snd 0).trans hcn'
          gi_wp2
          go_roundw
          case rel => exact ⟨k + 1, by omega, by go_num, by rw [List.range_succ]; exact hJ3, hnx.drew.trans hk3⟩
          case measure => simp [intOf]; omega
        · gi_wp2
          refine bodyPost_ret (results_none rfl _ _ _) rfl ?_
          exact ⟨⟨_, rfl⟩, .inr ⟨_, trivial, hJx3⟩⟩
      · have ev : chunkV b n k = .slice (some ⟨b, 256 * k, none⟩) (n - 256 * k) (n - 256 * k) := by
          unfold chunkV; congr 1 <;> omega
        rw [ev] at hy; clear ev
        gi_wp2
        gi_region
        gi_wp2
        refine hR.mono ?_
        rintro e W3 (⟨rfl, hJ3, hk3⟩ | ⟨rfl, hJx3⟩)
        · have hcs3 := (hk3.fst 0).trans hcs'
          have hcn3 := (hk3.snd 0).trans hcn'
          gi_wp2
          go_roundw
          case rel => exact ⟨k + 1, by omega, by go_num, by rw [List.range_succ]; exact hJ3, hnx.drew.trans hk3⟩
          case measure => simp [intOf]; omega
        · gi_wp2
          refine bodyPost_ret (results_none rfl _ _ _) rfl ?_
          exact ⟨⟨_, rfl⟩, .inr ⟨_, trivial, hJx3⟩⟩
    · gi_wp2
      go_end0
      have hkk : (n + 255) / 256 = k := by omega
      exact ⟨⟨_, rfl⟩, .inl ⟨_, rfl, by unfold chunks; rw [hkk]; exact hJs⟩⟩
end Go.Proofs.Ytmldoinenfpofaa
