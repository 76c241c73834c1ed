/- What (*FS).do defers. -/
import Derived.Test.YtmoaecicibjmnaaFF
import Derived.Defers
import Derived.Deep.RegionWith
namespace Go.Proofs.Ytmoaecicibjmnaa
open Go.RowKit

theorem Out.drewL {M : Nat → Prop} {w a : World} (h : Out M w.drew a) : Out M w a := ⟨h.os, h.tape, h.output, h.size, h.block⟩
set_option maxRecDepth 100000 in
/-- No stroke is counted: none fails. -/
theorem do1_none {b b2 b5 b4 : Nat} {l : Int} (u : FrameMode) (w : World) (h2 : w.cell? ⟨b2, 0, none⟩ = some (.pointer (some ⟨b, 0, none⟩))) (h5 : w.cell? ⟨b5, 0, none⟩ = some (.bool false)) (h4 : w.cell? ⟨b, 4, none⟩ = some (.int .i64 l)) (hl : ¬ 0 < l) :
    CallsD Try.prog 95 #[.pointer (some ⟨b2, 0, none⟩), .pointer (some ⟨b5, 0, none⟩), .pointer (some ⟨b4, 0, none⟩)] u w fun e u' w' => u' = u ∧ (e = .returned (.tuple #[]) ∧ w' = w) := by
  go_enter_d Try.func95, Try.ntmps95
  go_wp2
  go_end0
  exact ⟨rfl, rfl⟩
set_option maxRecDepth 100000 in
/-- A stroke is counted. -/
theorem do1_count {b b2 b5 b4 : Nat} {l : Int} (u : FrameMode) (w : World) (h2 : w.cell? ⟨b2, 0, none⟩ = some (.pointer (some ⟨b, 0, none⟩))) (h5 : w.cell? ⟨b5, 0, none⟩ = some (.bool false)) (h4 : w.cell? ⟨b, 4, none⟩ = some (.int .i64 l))
    (hf : w.frozen? ⟨b, 4, none⟩ = false) (hl : 0 < l) (_hl2 : l ≤ 9223372036854775807) :
    CallsD Try.prog 95 #[.pointer (some ⟨b2, 0, none⟩), .pointer (some ⟨b5, 0, none⟩), .pointer (some ⟨b4, 0, none⟩)] u w fun e u' w' => u' = u ∧ (e = .returned (.tuple #[]) ∧ w' = w.setCell ⟨b, 4, none⟩ (.int .i64 (l - 1))) := by
  go_enter_d Try.func95, Try.ntmps95
  go_wp2
  go_end0
  exact ⟨rfl, rfl⟩
set_option maxHeartbeats 2000000 in
set_option maxRecDepth 100000 in
/-- A stroke fails: a crash. -/
theorem do1_fail {M : Nat → Prop} {b b2 b5 b4 : Nat} {F : FR} {fv kv : Value} {r : Int} (u : FrameMode) (w : World) (h : FSIn M w b F fv kv) (hG : Sound F) (ho : F.off = false) (hk : F.keep.length ≤ 9223372036854775807) (hl : F.left = 0)
    (h2 : w.cell? ⟨b2, 0, none⟩ = some (.pointer (some ⟨b, 0, none⟩))) (h5 : w.cell? ⟨b5, 0, none⟩ = some (.bool true)) (h4 : w.cell? ⟨b4, 0, none⟩ = some (.int .i64 r)) (hf : w.frozen? ⟨b4, 0, none⟩ = false) (hn : ¬ M b4) :
    CallsD Try.prog 95 #[.pointer (some ⟨b2, 0, none⟩), .pointer (some ⟨b5, 0, none⟩), .pointer (some ⟨b4, 0, none⟩)] u w fun e u' w' => u' = u ∧ (e = .returned (.tuple #[]) ∧
      w'.cell? ⟨b4, 0, none⟩ = some (.int .i64 51) ∧ FSIn M w' b (crashF F F.keep) fv kv ∧ Out (fun k => M k ∨ k = b4) w w') := by
  have c4 := h.box.c4
  have c5 := h.box.c5
  rw [hl] at c4
  have hlt := lt_of_cell h4
  have hints : IntsIn (fun k => k ≠ b ∧ fv.ownBlock ≠ some k) w kv F.keep := h.ints.eq (Nat.le_refl _) fun k _ hm => ⟨rfl, hm.2⟩
  obtain ⟨ka, kc, rfl⟩ := hints.val
  have C1 : ∀ w1, Below w.heap.size w w1 → Hid (Calls Try.prog 36 #[.pointer (some ⟨b, 0, none⟩), .slice ka F.keep.length kc] w1 fun e w' => e = .returned (.int .i64 0) ∧ FSIn M w' b (crashF F F.keep) fv (.slice ka F.keep.length kc) ∧ Out M w1 w') :=
    fun w1 hb => Lib.hid (crash_in (h.below hb) hG ho (hints.eq hb.size fun k hk hm => ⟨hb.block k hk, hm⟩) hk)
  have HN := Lib.hid hn
  clear h hints hG ho hk hl hn
  go_enter_d Try.func95, Try.ntmps95
  go_wp2_with fail
  go_region_with (go_at_call 36; with_reducible (refine (C1 _ (by first | exact Below.refl _ _ | exact (Below.refl _ _).drew)).out.mono ?_); rintro e w3 ⟨rfl, hf3, ho3⟩)
  all_goals
    have q4 : w3.cell? ⟨b4, 0, none⟩ = some (.int .i64 r) := (ho3.cell (show b4 < w.drew.heap.size from hlt) HN.out 0).trans h4
    have qf : w3.frozen? ⟨b4, 0, none⟩ = false := (World.frozen?_of_block (ho3.block b4 hlt HN.out)).trans hf
    have H3 := Lib.hid hf3
    have O3 := Lib.hid ho3
    clear hf3 ho3 h4 hf
    go_wp2_with fail
    go_end0
    refine ⟨rfl, World.cell?_setCell_same _ _ _ q4, H3.out.eq (by rw [size_set]; exact Nat.le_refl _) (fun k hk => setCell_heap_other _ _ _ _ _ (fun e => HN.out (by rw [← e]; exact hk))), ?_⟩
    exact ((Out.drewL O3.out).mono fun k _ hk => .inl hk).set (.inl (.inr rfl)) _ _
end Go.Proofs.Ytmoaecicibjmnaa
