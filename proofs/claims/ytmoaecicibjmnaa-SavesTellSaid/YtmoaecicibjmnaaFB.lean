/- The small functions of files: named, bytes, on, Up, Starts, New. -/
import Derived.Test.YtmoaecicibjmnaaFA
import Derived.Test.YtmoaecicibjmnaaProg
import Derived.Handy
import Derived.Laws.Strings
namespace Go.Proofs.Ytmoaecicibjmnaa
open Go.RowKit

def namedB (s : ByteArray) : Bool := decide (0 < s.size) && decide (s.size ≤ 16)
theorem toList_nil {s : ByteArray} (h : s.toList = []) : s.size = 0 := by
  rw [ByteArray.toList_eq] at h
  show s.data.size = 0
  rw [← Array.length_toList, h]; rfl
theorem toList_pos {s : ByteArray} (h : ¬ s.toList = []) : 0 < s.size := by
  rw [ByteArray.toList_eq] at h
  show 0 < s.data.size
  rw [← Array.length_toList]
  exact Nat.pos_of_ne_zero fun e => h (List.eq_nil_of_length_eq_zero e)
set_option maxRecDepth 100000 in
theorem named_any (s : ByteArray) (w : World) : Calls Try.prog 54 #[.string s] w fun e w' => e = .returned (.bool (namedB s)) ∧ w' = w := by
  go_enter Try.func54, Try.ntmps54
  go_wp2
  · rename_i h
    have h1 := toList_nil h
    go_ret
    exact ⟨by simp [namedB, h1], rfl⟩
  · rename_i h
    have h1 := toList_pos h
    go_ret
    refine ⟨?_, rfl⟩
    have h2 : s.toList.isEmpty = false := by simp [h]
    have h3 : decide ((s.size : Int) ≤ 16) = decide (s.size ≤ 16) := by by_cases h : s.size ≤ 16 <;> simp [h] <;> omega
    rw [h2, h3, namedB, decide_eq_true h1]; rfl
set_option maxRecDepth 100000 in
theorem bytes_any (x : PF) (hx : x.pl.size + x.air.size ≤ 1048576) (w : World) : Calls Try.prog 47 #[x.val] w fun e w' => e = .returned (.string x.bytes) ∧ Below w.heap.size w w' := by
  obtain ⟨n, p, a⟩ := x
  unfold PF.bytes
  have hx' : ¬ 9223372036854775807 < p.size + a.size := by simp only at hx; omega
  go_enter Try.func47, Try.ntmps47
  go_wp2
  go_ret
  exact ⟨rfl, by go_grown⟩
def onE (F : FR) : Int := if F.off = true then 51 else 0
set_option maxRecDepth 100000 in
theorem on_any {M : Nat → Prop} {w : World} {b : Nat} {F : FR} (h : FSAt M w b F) (hl : F.limit ≠ 0) :
    Calls Try.prog 52 #[.pointer (some ⟨b, 0, none⟩)] w fun e w' => e = .returned (.int .i64 (onE F)) ∧ w' = w := by
  obtain ⟨fv, kv, h⟩ := h
  have c0 := h.box.c0
  have c2 := h.box.c2
  unfold onE
  obtain ⟨l, s, o, fs, lf, kp⟩ := F
  have hl' : (l == 0) = false := by simpa using hl
  clear h hl
  cases o <;> go_enter Try.func52, Try.ntmps52
  all_goals
    go_wp2
    go_ret
    exact ⟨rfl, rfl⟩
theorem on_nil (w : World) : Calls Try.prog 52 #[.pointer none] w fun e w' => e = .returned (.int .i64 1) ∧ w' = w := by
  go_enter Try.func52, Try.ntmps52
  go_wp2
  go_ret
  exact ⟨rfl, rfl⟩
set_option maxRecDepth 100000 in
theorem up_any {M : Nat → Prop} {w : World} {b : Nat} {F : FR} (h : FSAt M w b F) (hl : F.limit ≠ 0) :
    Calls Try.prog 26 #[.pointer (some ⟨b, 0, none⟩)] w fun e w' => e = .returned (.bool (!F.off)) ∧ w' = w := by
  have C1 := Lib.hid (on_any h hl)
  obtain ⟨l, s, o, fs, lf, kp⟩ := F
  clear h hl
  unfold onE at C1
  cases o <;> go_enter Try.func26, Try.ntmps26
  all_goals
    go_wp2_with fail
    (with_reducible refine C1.out.mono ?_); rintro e w1 ⟨rfl, rfl⟩
    go_wp2_with fail
    go_ret
    exact ⟨rfl, rfl⟩
theorem up_nil (w : World) : Calls Try.prog 26 #[.pointer none] w fun e w' => e = .returned (.bool false) ∧ w' = w := by
  go_enter Try.func26, Try.ntmps26
  go_wp2_with fail
  (with_reducible refine (on_nil _).mono ?_); rintro e w1 ⟨rfl, rfl⟩
  go_wp2_with fail
  go_ret
  exact ⟨rfl, rfl⟩
theorem starts_any {M : Nat → Prop} {w : World} {b : Nat} {F : FR} (h : FSAt M w b F) :
    Calls Try.prog 34 #[.pointer (some ⟨b, 0, none⟩)] w fun e w' => e = .returned (.int .i64 F.starts) ∧ w' = w := by
  obtain ⟨fv, kv, h⟩ := h
  have c1 := h.box.c1
  clear h
  go_enter Try.func34, Try.ntmps34
  go_wp2
  go_ret
  exact ⟨rfl, rfl⟩
theorem starts_nil (w : World) : Calls Try.prog 34 #[.pointer none] w fun e w' => e = .returned (.int .i64 0) ∧ w' = w := by
  go_enter Try.func34, Try.ntmps34
  go_wp2
  go_ret
  exact ⟨rfl, rfl⟩
def newF (c : Int) : FR := ⟨c, 0, false, [], -1, []⟩
set_option maxRecDepth 100000 in
theorem new_any (c : Int) (w : World) (h1 : 1 ≤ c) (h2 : c ≤ 1048576) :
    Calls Try.prog 15 #[.int .i64 c] w fun e w' => ∃ b, e = .returned (.tuple #[.pointer (some ⟨b, 0, none⟩), .int .i64 0]) ∧ ∃ M, FSAt M w' b (newF c) ∧ (∀ k, M k → w.heap.size ≤ k) ∧ Below w.heap.size w w' := by
  have g1 : ¬ c < 1 := by omega
  have g2 : ¬ 1048576 < c := by omega
  go_enter Try.func15, Try.ntmps15
  go_wp2
  go_ret2
  refine ⟨_, rfl, fun k => k = w.heap.size, ⟨.slice none 0 0, .slice none 0 0, ?_⟩, ?_, by go_grown⟩
  · refine ⟨?_, World.ownsRow_nil _ _ _ _, ⟨none, 0, rfl, fun h => absurd rfl h⟩, rfl, ?_, ?_⟩
    · unfold Box6; rw [heap_alloc, if_pos rfl]; rfl
    · intro k hk; cases hk
    · rintro k rfl; rw [size_alloc]; exact Nat.lt_succ_self _
  · rintro k rfl; exact Nat.le_refl _
set_option maxRecDepth 100000 in
theorem new_bad (c : Int) (w : World) (h : c < 1 ∨ 1048576 < c) :
    Calls Try.prog 15 #[.int .i64 c] w fun e w' => e = .returned (.tuple #[.pointer none, .int .i64 2]) ∧ Below w.heap.size w w' := by
  rcases h with h | h
  · go_enter Try.func15, Try.ntmps15
    go_wp2
    go_ret2
    exact ⟨rfl, Below.refl _ _⟩
  · have g1 : ¬ c < 1 := by omega
    go_enter Try.func15, Try.ntmps15
    go_wp2
    go_ret2
    exact ⟨rfl, Below.refl _ _⟩
end Go.Proofs.Ytmoaecicibjmnaa
