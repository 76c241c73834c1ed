/- does: the chapter's examples. -/
import Derived.Test.YtmoaecicibjmnaaKF
import Derived.Shelf.Abstract
namespace Go.Proofs.Ytmoaecicibjmnaa
open Go.RowKit

abbrev tx (l : List UInt8) : ByteArray := ⟨l.toArray⟩
def dsL : List DoR := [⟨0, tx [98], tx [], tx [120, 121, 122], 0, []⟩, ⟨3, tx [98], tx [], tx [], 0, []⟩, ⟨0, tx [98], tx [], tx [117, 118], 0, []⟩, ⟨0, tx [97], tx [], tx [49, 50, 51, 52, 53], 0, []⟩, ⟨0, tx [97], tx [], tx [54], 0, []⟩,
  ⟨8, tx [], tx [], tx [], 0, [3, 1]⟩, ⟨9, tx [], tx [], tx [], 0, []⟩, ⟨11, tx [], tx [], tx [], 1, [0, 9]⟩, ⟨5, tx [98], tx [], tx [], 2, []⟩, ⟨0, tx [98], tx [], tx [113], 0, []⟩, ⟨9, tx [], tx [], tx [], 0, []⟩]
def dsW : List Int := [0, 0, 0, 0, 50, 0, 0, 0, 0, 51, 0]
def dsF (k : Nat) : FR := (dsL.take k).foldl withF (newF 10)
theorem ds_want : (List.range 11).map (fun k => withE (dsF k) (dsL[k]?.getD ⟨0, tx [], tx [], tx [], 0, []⟩)) = dsW := by decide +kernel
theorem ds_air : (dsF 5).files.map (fun x => x.air.size) = [5, 2] := by decide +kernel
theorem ds_a : hasE (dsF 11) (tx [97]) = 0 := by decide +kernel
theorem ds_b : hasE (dsF 11) (tx [98]) = 0 := by decide +kernel
theorem ds_ra : readS (dsF 11) (tx [97]) = tx [49, 50, 51] := by decide +kernel
theorem ds_rb : readS (dsF 11) (tx [98]) = tx [120, 121, 113] := by decide +kernel
theorem ds_st : (dsF 11).starts = 2 := by decide +kernel
theorem dsF_succ (k : Nat) (d : DoR) (h : dsL[k]? = some d) : dsF (k + 1) = withF (dsF k) d := by
  unfold dsF
  rw [List.take_add_one, h, List.foldl_append]; rfl
theorem Sound.new (c : Int) (h1 : 1 ≤ c) (h2 : c ≤ 1048576) : Sound (newF c) where
  lim1 := h1
  lim2 := h2
  cnt := Nat.zero_le _
  asc := List.Pairwise.nil
  nam := fun x hx => by cases hx
  sum := by show ((0 : Nat) : Int) ≤ c; omega
  lf := by show (-1 : Int) ≤ 9223372036854775807; omega
  kl := Nat.zero_le _
theorem ds_sound : ∀ k, Sound (dsF k) := by
  have : ∀ (L : List DoR) (F : FR), (∀ d ∈ L, d.N ≤ 9223372036854775807 ∧ d.K.length ≤ 1000000) → Sound F → Sound (L.foldl withF F) := by
    intro L
    induction L with
    | nil => intro F _ h; exact h
    | cons d L ih => intro F hd h; exact ih _ (fun x hx => hd x (List.mem_cons_of_mem _ hx)) (h.with' d (hd d (by simp)).1 (hd d (by simp)).2)
  intro k
  refine this _ _ (fun d hd => ?_) (Sound.new 10 (by omega) (by omega))
  have hd := List.mem_of_mem_take hd
  have : dsL.all fun d => decide (d.N ≤ 9223372036854775807 ∧ d.K.length ≤ 1000000) := by decide +kernel
  exact of_decide_eq_true (List.all_eq_true.1 this d hd)
theorem name_world {P : World → Prop} (w0 : World) (h : ∀ W, W = w0 → P W) : P w0 := h w0 rfl
set_option maxRecDepth 100000 in
set_option maxHeartbeats 4000000 in
theorem ds_world (w W : World) (hW : W = ((((w.alloc (.cells #[.int .i64 3, .int .i64 1] 3)).alloc (.cells #[.int .i64 0, .int .i64 9] 3)).alloc (.cells #[.int .u8 0, .string ⟨#[98]⟩, .string ⟨#[]⟩, .string ⟨#[120, 121, 122]⟩, .int .i64 0, .slice none 0 0, .int .u8 3, .string ⟨#[98]⟩, .string ⟨#[]⟩, .string ⟨#[]⟩, .int .i64 0, .slice none 0 0, .int .u8 0, .string ⟨#[98]⟩, .string ⟨#[]⟩, .string ⟨#[117, 118]⟩, .int .i64 0, .slice none 0 0, .int .u8 0, .string ⟨#[97]⟩, .string ⟨#[]⟩, .string ⟨#[49, 50, 51, 52, 53]⟩, .int .i64 0, .slice none 0 0, .int .u8 0, .string ⟨#[97]⟩, .string ⟨#[]⟩, .string ⟨#[54]⟩, .int .i64 0, .slice none 0 0, .int .u8 8, .string ⟨#[]⟩, .string ⟨#[]⟩, .string ⟨#[]⟩, .int .i64 0, .slice (some ⟨w.heap.size, 0, none⟩) 2 2, .int .u8 9, .string ⟨#[]⟩, .string ⟨#[]⟩, .string ⟨#[]⟩, .int .i64 0, .slice none 0 0, .int .u8 11, .string ⟨#[]⟩, .string ⟨#[]⟩, .string ⟨#[]⟩, .int .i64 1, .slice (some ⟨(w.heap.size + 1), 0, none⟩) 2 2, .int .u8 5, .string ⟨#[98]⟩, .string ⟨#[]⟩, .string ⟨#[]⟩, .int .i64 2, .slice none 0 0, .int .u8 0, .string ⟨#[98]⟩, .string ⟨#[]⟩, .string ⟨#[113]⟩, .int .i64 0, .slice none 0 0, .int .u8 9, .string ⟨#[]⟩, .string ⟨#[]⟩, .string ⟨#[]⟩, .int .i64 0, .slice none 0 0] 35)).alloc (.cells #[.int .i64 0, .int .i64 0, .int .i64 0, .int .i64 0, .int .i64 50, .int .i64 0, .int .i64 0, .int .i64 0, .int .i64 0, .int .i64 51, .int .i64 0] 26))) :
    Below w.heap.size w W ∧ W.heap.size = w.heap.size + 4 ∧ DosAt (fun k => w.heap.size ≤ k ∧ k < W.heap.size) W (.slice (some ⟨w.heap.size + 1 + 1, 0, none⟩) 11 11) dsL ∧ (∀ (k : Nat) n, dsW[k]? = some n → W.cell? ⟨w.heap.size + 1 + 1 + 1, k, none⟩ = some (.int .i64 n)) := by
  have hs : W.heap.size = w.heap.size + 4 := by rw [hW]; simp only [size_alloc]
  have e0 : W.heap[w.heap.size]? = some (.cells #[.int .i64 3, .int .i64 1] 3 (0, 0)) := by
    rw [hW, heap_alloc, if_neg (by simp only [size_alloc]; omega), heap_alloc, if_neg (by simp only [size_alloc]; omega), heap_alloc, if_neg (by simp only [size_alloc]; omega), heap_alloc, if_pos rfl]
  have e1 : W.heap[w.heap.size + 1]? = some (.cells #[.int .i64 0, .int .i64 9] 3 (0, 0)) := by
    rw [hW, heap_alloc, if_neg (by simp only [size_alloc]; omega), heap_alloc, if_neg (by simp only [size_alloc]; omega), heap_alloc, if_pos (by simp only [size_alloc])]
  have e2 : W.heap[w.heap.size + 1 + 1]? = some (.cells #[.int .u8 0, .string ⟨#[98]⟩, .string ⟨#[]⟩, .string ⟨#[120, 121, 122]⟩, .int .i64 0, .slice none 0 0, .int .u8 3, .string ⟨#[98]⟩, .string ⟨#[]⟩, .string ⟨#[]⟩, .int .i64 0, .slice none 0 0, .int .u8 0, .string ⟨#[98]⟩, .string ⟨#[]⟩, .string ⟨#[117, 118]⟩, .int .i64 0, .slice none 0 0, .int .u8 0, .string ⟨#[97]⟩, .string ⟨#[]⟩, .string ⟨#[49, 50, 51, 52, 53]⟩, .int .i64 0, .slice none 0 0, .int .u8 0, .string ⟨#[97]⟩, .string ⟨#[]⟩, .string ⟨#[54]⟩, .int .i64 0, .slice none 0 0, .int .u8 8, .string ⟨#[]⟩, .string ⟨#[]⟩, .string ⟨#[]⟩, .int .i64 0, .slice (some ⟨w.heap.size, 0, none⟩) 2 2, .int .u8 9, .string ⟨#[]⟩, .string ⟨#[]⟩, .string ⟨#[]⟩, .int .i64 0, .slice none 0 0, .int .u8 11, .string ⟨#[]⟩, .string ⟨#[]⟩, .string ⟨#[]⟩, .int .i64 1, .slice (some ⟨(w.heap.size + 1), 0, none⟩) 2 2, .int .u8 5, .string ⟨#[98]⟩, .string ⟨#[]⟩, .string ⟨#[]⟩, .int .i64 2, .slice none 0 0, .int .u8 0, .string ⟨#[98]⟩, .string ⟨#[]⟩, .string ⟨#[113]⟩, .int .i64 0, .slice none 0 0, .int .u8 9, .string ⟨#[]⟩, .string ⟨#[]⟩, .string ⟨#[]⟩, .int .i64 0, .slice none 0 0] 35 (0, 0)) := by
    rw [hW, heap_alloc, if_neg (by simp only [size_alloc]; omega), heap_alloc, if_pos (by simp only [size_alloc])]
  have e3 : W.heap[w.heap.size + 1 + 1 + 1]? = some (.cells #[.int .i64 0, .int .i64 0, .int .i64 0, .int .i64 0, .int .i64 50, .int .i64 0, .int .i64 0, .int .i64 0, .int .i64 0, .int .i64 51, .int .i64 0] 26 (0, 0)) := by
    rw [hW, heap_alloc, if_pos (by simp only [size_alloc])]
  have hb : Below w.heap.size w W := by
    rw [hW]
    exact ((((Below.refl _ _).alloc (Nat.le_refl _) _).alloc (by simp only [size_alloc]; omega) _).alloc (by simp only [size_alloc]; omega) _).alloc (by simp only [size_alloc]; omega) _
  clear hW
  refine ⟨hb, hs, ⟨_, 11, rfl, fun _ => ⟨_, 0, rfl, by omega, by omega, fun j d hj => ?_⟩⟩, fun k n hn => ?_⟩
  · have hj11 : j < 11 := (List.getElem?_eq_some_iff.1 hj).1
    have hno : IntsIn (fun k => w.heap.size ≤ k ∧ k < W.heap.size) W (.slice none 0 0) [] := ⟨none, 0, rfl, fun h => absurd rfl h⟩
    have hK0 : IntsIn (fun k => w.heap.size ≤ k ∧ k < W.heap.size) W (.slice (some ⟨w.heap.size, 0, none⟩) 2 2) [3, 1] := ⟨_, 2, rfl, fun _ => ⟨_, 0, rfl, by omega, by omega, fun j hj => by
      have hj : j < 2 := hj
      rw [cell_at e0]
      rcases (show j = 0 ∨ j = 1 by omega) with rfl | rfl <;> rfl⟩⟩
    have hK1 : IntsIn (fun k => w.heap.size ≤ k ∧ k < W.heap.size) W (.slice (some ⟨w.heap.size + 1, 0, none⟩) 2 2) [0, 9] := ⟨_, 2, rfl, fun _ => ⟨_, 0, rfl, by omega, by omega, fun j hj => by
      have hj : j < 2 := hj
      rw [cell_at e1]
      rcases (show j = 0 ∨ j = 1 by omega) with rfl | rfl <;> rfl⟩⟩
    rcases (show j = 0 ∨ j = 1 ∨ j = 2 ∨ j = 3 ∨ j = 4 ∨ j = 5 ∨ j = 6 ∨ j = 7 ∨ j = 8 ∨ j = 9 ∨ j = 10 by omega) with rfl | rfl | rfl | rfl | rfl | rfl | rfl | rfl | rfl | rfl | rfl
    all_goals
      injection hj with hj
      subst hj
      first
        | exact ⟨_, hno, by rw [cell_at e2]; rfl, by rw [cell_at e2]; rfl, by rw [cell_at e2]; rfl, by rw [cell_at e2]; rfl, by rw [cell_at e2]; rfl, by rw [cell_at e2]; rfl⟩
        | exact ⟨_, hK0, by rw [cell_at e2]; rfl, by rw [cell_at e2]; rfl, by rw [cell_at e2]; rfl, by rw [cell_at e2]; rfl, by rw [cell_at e2]; rfl, by rw [cell_at e2]; rfl⟩
        | exact ⟨_, hK1, by rw [cell_at e2]; rfl, by rw [cell_at e2]; rfl, by rw [cell_at e2]; rfl, by rw [cell_at e2]; rfl, by rw [cell_at e2]; rfl, by rw [cell_at e2]; rfl⟩
  · have hk : k < 11 := (List.getElem?_eq_some_iff.1 hn).1
    rw [cell_at e3]
    rcases (show k = 0 ∨ k = 1 ∨ k = 2 ∨ k = 3 ∨ k = 4 ∨ k = 5 ∨ k = 6 ∨ k = 7 ∨ k = 8 ∨ k = 9 ∨ k = 10 by omega) with rfl | rfl | rfl | rfl | rfl | rfl | rfl | rfl | rfl | rfl | rfl
    all_goals
      injection hn with hn
      subst hn
      rfl
end Go.Proofs.Ytmoaecicibjmnaa
