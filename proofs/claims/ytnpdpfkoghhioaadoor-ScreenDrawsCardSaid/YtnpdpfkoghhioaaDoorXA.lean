/- Which screens may be: grids.Check and the functions that it hands on. -/
import Derived.Test.YtnpdpfkoghhioaaDoorXG
namespace Go.Proofs.YtnpdpfkoghhioaaDoor
open Go.RowKit

set_option maxRecDepth 100000 in
theorem odd_any (c : UInt8) (w : World) : Calls Tryd.prog 46 #[.int .u8 (c.toNat : Int)] w fun e w' => e = .returned (.bool (!plainC c)) ∧ w = w' := by
  obtain ⟨p, hp⟩ : ∃ p, p = plainC c := ⟨_, rfl⟩
  rw [← hp]
  have hp2 : p = (decide (32 ≤ (c.toNat : Int)) && decide ((c.toNat : Int) ≤ 126)) := by rw [hp]; unfold plainC; congr 1 <;> (apply decide_eq_decide.2; omega)
  clear hp
  have hc := c.toNat_lt
  generalize (c.toNat : Int) = x at hp2 ⊢
  go_enter Tryd.func46, Tryd.ntmps46
  by_cases h1 : x < 32
  · have : p = false := by rw [hp2]; simp; omega
    subst this
    clear hp2
    go_wp2
    go_ret
    exact ⟨rfl, rfl⟩
  · by_cases h2 : 126 < x
    · have : p = false := by rw [hp2]; simp; omega
      subst this
      clear hp2
      go_wp2
      go_ret
      exact ⟨rfl, rfl⟩
    · have : p = true := by rw [hp2]; simp; omega
      subst this
      clear hp2
      go_wp2
      go_ret
      exact ⟨rfl, rfl⟩

set_option maxRecDepth 100000 in
theorem index1_any (v : Value) (l : List UInt8) (w : World) (h : RowAt w.heap.size w v l) (hb : l.length ≤ 1000000) :
    Calls Tryd.prog 57 #[v, .func (.func 46) #[] #[]] w fun e w' => (∃ z : Int, e = .returned (.int .i64 z) ∧ decide (0 ≤ z) = !(l.all plainC)) ∧ w = w' := by
  obtain ⟨a, kc, rfl, hc⟩ := h
  have Hc := Lib.hid hc
  clear hc
  obtain ⟨n, hn⟩ : ∃ n, n = l.length := ⟨_, rfl⟩
  have H := Lib.hid hn
  rw [← hn] at hb ⊢
  clear hn
  go_enter Tryd.func57, Tryd.ntmps57
  go_wp2_with fail
  go_loop [8] (fun i => ∃ k : Nat, k ≤ n ∧ i = .int .i64 k ∧ Hid ((l.take k).all plainC = true)) (fun i => n - (intOf i).toNat)
  case atStart => exact ⟨0, Nat.zero_le _, rfl, Lib.hid rfl⟩
  case round =>
    obtain ⟨k, hk, rfl, he⟩ := hrel
    by_cases h : k < n
    · obtain ⟨b, o, rfl, _, hr⟩ := Hc.out (by intro e; rw [H.out, e] at h; simp at h)
      have hl : k < l.length := by rw [← H.out]; exact h
      have m := hr k hl
      rw [List.getElem?_eq_getElem hl, Option.getD_some] at m
      have C := Lib.hid (odd_any l[k] w)
      clear hr
      have hst : (l.take (k + 1)).all plainC = plainC l[k] := by
        rw [List.take_add_one, List.all_append, he.out, List.getElem?_eq_getElem hl]; simp
      go_wp2_with fail
      (with_reducible refine C.out.mono ?_); rintro e w' ⟨rfl, rfl⟩
      by_cases hp : plainC l[k] = true
      · have hnext := Lib.hid (hst.trans hp)
        clear hst
        go_wp2_with fail
        go_round
        case rel => exact ⟨k + 1, by omega, by go_num, hnext⟩
        case measure => simp [intOf]; omega
      · have hall : l.all plainC = false := by
          cases hx : l.all plainC with
          | false => rfl
          | true => exact absurd (List.all_eq_true.1 hx _ (List.getElem_mem hl)) hp
        have Hall := Lib.hid hall
        clear hst hall
        have hp2 : plainC l[k] = false := by simpa using hp
        go_wp2_with fail
        go_ret
        exact ⟨⟨_, rfl, by rw [Hall.out]; simp⟩, rfl⟩
    · have hx := he.out
      rw [List.take_of_length_le (by rw [← H.out]; omega)] at hx
      have Hx := Lib.hid hx
      clear hx
      go_wp2_with fail
      go_ret
      exact ⟨⟨_, rfl, by rw [Hx.out]; rfl⟩, rfl⟩

set_option maxRecDepth 100000 in
theorem contains1_any (v : Value) (l : List UInt8) (w : World) (h : RowAt w.heap.size w v l) (hb : l.length ≤ 1000000) :
    Calls Tryd.prog 45 #[v, .func (.func 46) #[] #[]] w fun e w' => e = .returned (.bool (!(l.all plainC))) ∧ w = w' := by
  have C := Lib.hid (index1_any v l w h hb)
  clear h
  go_enter Tryd.func45, Tryd.ntmps45
  go_wp2_with fail
  (with_reducible refine C.out.mono ?_); rintro e w' ⟨⟨z, rfl, hz⟩, rfl⟩
  go_wp2_with fail
  go_ret
  exact ⟨by first | rfl | rw [hz] | simp, rfl⟩

set_option maxRecDepth 100000 in
theorem check1_any (v : Value) (l : List UInt8) (w : World) (b : Nat) (c : Int) (h : RowAt w.heap.size w v l) (hb : l.length ≤ 1000000) (hcell : w.cell? ⟨b, 1, none⟩ = some (.int .i64 c)) :
    Calls Tryd.prog 44 #[v, .pointer (some ⟨b, 0, none⟩)] w fun e w' => e = .returned (.bool (!(decide ((l.length : Int) = c) && l.all plainC))) ∧ w = w' := by
  have C := Lib.hid (contains1_any v l w h hb)
  obtain ⟨a, kc, rfl, hc⟩ := h
  clear hc
  go_enter Tryd.func44, Tryd.ntmps44
  by_cases t : (l.length : Int) = c
  · go_wp2_with fail
    (with_reducible refine C.out.mono ?_); rintro e w' ⟨rfl, rfl⟩
    go_wp2_with fail
    go_ret
    exact ⟨by simp [t], rfl⟩
  · go_wp2_with fail
    go_ret
    exact ⟨by simp [t], rfl⟩

def lineB (c : Int) (l : List UInt8) : Bool := decide ((l.length : Int) = c) && l.all plainC

set_option maxRecDepth 100000 in
theorem index2_any (v : Value) (L : List (List UInt8)) (w : World) (b : Nat) (c : Int) (h : CellsAt w.heap.size w v L) (hb : L.length ≤ 1000000) (hbr : ∀ r ∈ L, r.length ≤ 1000000) (hcell : w.cell? ⟨b, 1, none⟩ = some (.int .i64 c)) :
    Calls Tryd.prog 58 #[v, .func (.func 44) #[] #[.pointer (some ⟨b, 0, none⟩)]] w fun e w' => (∃ z : Int, e = .returned (.int .i64 z) ∧ decide (0 ≤ z) = !(L.all (lineB c))) ∧ w = w' := by
  obtain ⟨a, kc, rfl, hc⟩ := h
  have Hc := Lib.hid hc
  clear hc
  obtain ⟨n, hn⟩ : ∃ n, n = L.length := ⟨_, rfl⟩
  have H := Lib.hid hn
  rw [← hn] at hb ⊢
  clear hn
  have Hbr := Lib.hid hbr
  have Hcell := Lib.hid hcell
  clear hbr hcell
  go_enter Tryd.func58, Tryd.ntmps58
  go_wp2_with fail
  go_loop [8] (fun i => ∃ k : Nat, k ≤ n ∧ i = .int .i64 k ∧ Hid ((L.take k).all (lineB c) = true)) (fun i => n - (intOf i).toNat)
  case atStart => exact ⟨0, Nat.zero_le _, rfl, Lib.hid rfl⟩
  case round =>
    obtain ⟨k, hk, rfl, he⟩ := hrel
    by_cases h : k < n
    · obtain ⟨b', o, rfl, _, hr⟩ := Hc.out (by intro e; rw [H.out, e] at h; simp at h)
      have hl : k < L.length := by rw [← H.out]; exact h
      obtain ⟨rv, m, hrow⟩ := hr k hl
      rw [List.getElem?_eq_getElem hl, Option.getD_some] at hrow
      have C := Lib.hid (check1_any rv L[k] w b c hrow (Hbr.out _ (List.getElem_mem hl)) Hcell.out)
      clear hr hrow
      have hst : (L.take (k + 1)).all (lineB c) = lineB c L[k] := by
        rw [List.take_add_one, List.all_append, he.out, List.getElem?_eq_getElem hl]; simp
      have hlb : (decide ((L[k].length : Int) = c) && L[k].all plainC) = lineB c L[k] := rfl
      rw [hlb] at C
      clear hlb
      go_wp2_with fail
      (with_reducible refine C.out.mono ?_); rintro e w' ⟨rfl, rfl⟩
      by_cases hp : lineB c L[k] = true
      · have hnext := Lib.hid (hst.trans hp)
        clear hst
        go_wp2_with fail
        go_round
        case rel => exact ⟨k + 1, by omega, by go_num, hnext⟩
        case measure => simp [intOf]; omega
      · have hall : L.all (lineB c) = false := by
          cases hx : L.all (lineB c) with
          | false => rfl
          | true => exact absurd (List.all_eq_true.1 hx _ (List.getElem_mem hl)) hp
        have Hall := Lib.hid hall
        clear hst hall
        have hp2 : lineB c L[k] = false := by simpa using hp
        go_wp2_with fail
        go_ret
        exact ⟨⟨_, rfl, by rw [Hall.out]; simp⟩, rfl⟩
    · have hx := he.out
      rw [List.take_of_length_le (by rw [← H.out]; omega)] at hx
      have Hx := Lib.hid hx
      clear hx
      go_wp2_with fail
      go_ret
      exact ⟨⟨_, rfl, by rw [Hx.out]; rfl⟩, rfl⟩
set_option maxRecDepth 100000 in
theorem contains2_any (v : Value) (L : List (List UInt8)) (w : World) (b : Nat) (c : Int) (h : CellsAt w.heap.size w v L) (hb : L.length ≤ 1000000) (hbr : ∀ r ∈ L, r.length ≤ 1000000) (hcell : w.cell? ⟨b, 1, none⟩ = some (.int .i64 c)) :
    Calls Tryd.prog 49 #[v, .func (.func 44) #[] #[.pointer (some ⟨b, 0, none⟩)]] w fun e w' => e = .returned (.bool (!(L.all (lineB c)))) ∧ w = w' := by
  have C := Lib.hid (index2_any v L w b c h hb hbr hcell)
  clear h hcell
  go_enter Tryd.func49, Tryd.ntmps49
  go_wp2_with fail
  (with_reducible refine C.out.mono ?_); rintro e w' ⟨⟨z, rfl, hz⟩, rfl⟩
  go_wp2_with fail
  go_ret
  exact ⟨by first | rfl | rw [hz] | simp, rfl⟩
set_option maxRecDepth 100000 in
theorem check2_any (i n : Int) (w : World) : Calls Tryd.prog 47 #[.int .i64 i, .int .i64 n] w fun e w' => e = .returned (.bool (decide (0 ≤ i) && decide (i < n))) ∧ w = w' := by
  go_enter Tryd.func47, Tryd.ntmps47
  by_cases h1 : 0 ≤ i
  all_goals (by_cases h2 : i < n)
  all_goals
    go_wp2
    go_ret
    exact ⟨by simp [h1, h2], rfl⟩
end Go.Proofs.YtnpdpfkoghhioaaDoor
