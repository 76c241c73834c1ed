/- SavesWhole: Great; plain laws. -/
import Derived.Test.YtmoaecicibjmnaaSR
import Derived.Test.YtmoaecicibjmnaaSD
import Derived.BigQuiet
namespace Go.Proofs.Ytmoaecicibjmnaa
open Go.RowKit

set_option maxRecDepth 100000 in
set_option maxHeartbeats 8000000 in
theorem great_any (v : Value) (T : List ByteArray) (w : World) (h : TextsAt w v T) (hb : T.length ≤ 9223372036854775807) (hd : ∀ x ∈ T, x.size ≤ 9223372036854775807) :
    Calls Try.prog 41 #[v, .int .i64 60, .int .i64 20000] w fun e w' => (∃ q : Bool, e = .returned (.bool q) ∧ (q = false → T.length ≤ 60 ∧ ∀ x ∈ T, x.size ≤ 20000)) ∧ Below w.heap.size w w' := by
  obtain ⟨a, c, rfl, hc⟩ := h
  have HC := Lib.hid hc
  have HD := Lib.hid hd
  clear hc hd
  obtain ⟨n, hn⟩ : ∃ n, n = T.length := ⟨_, rfl⟩
  have HN := Lib.hid hn
  rw [← hn] at hb ⊢
  clear hn
  obtain ⟨K, hK⟩ : ∃ K : Ending → World → Prop, K = fun e w' => (∃ q : Bool, e = .returned (.bool q) ∧ (q = false → n ≤ 60 ∧ ∀ x ∈ T, x.size ≤ 20000)) ∧ Below w.heap.size w w' := ⟨_, rfl⟩
  have HK := Lib.hid hK
  rw [← hK]
  clear hK
  go_enter Try.func41, Try.ntmps41
  by_cases h60 : 60 < n
  · go_wp2_with fail
    rw [HK.out]
    exact ⟨⟨true, rfl, by simp⟩, Below.refl _ _⟩
  go_wp2_with fail
  go_loopw [2, 7] (fun s i wr => ∃ k m : Nat, k ≤ n ∧ m ≤ 20000 ∧ i = .int .i64 (k : Nat) ∧ s = .int .i64 (m : Nat) ∧ Hid (∀ j x, j < k → T[j]? = some x → x.size ≤ 20000) ∧ Below w.heap.size w wr) (fun _ i _ => n - (intOf i).toNat)
  case atStart => exact ⟨0, 20000, Nat.zero_le _, Nat.le_refl _, rfl, rfl, Lib.hid (fun j _ hj => by omega), Below.refl _ _⟩
  case round =>
    obtain ⟨k, m, hk, hm, rfl, rfl, hs, hbel⟩ := hrel
    by_cases hlt : k < n
    · have hlt2 : k < T.length := by rw [← HN.out]; exact hlt
      obtain ⟨x, hx⟩ : ∃ x, T[k]? = some x := ⟨_, List.getElem?_eq_getElem hlt2⟩
      obtain ⟨b, o, rfl, hbl, hr⟩ := HC.out (by intro e; rw [e] at hlt2; simp at hlt2)
      have q0 := hr k hlt2
      have hx0 := hx
      rw [List.getElem?_eq_getElem hlt2] at hx
      injection hx with hx
      rw [hx] at q0
      have p0 := (World.cell?_of_block (a := ⟨b, o + k, none⟩) (hbel.block b hbl)).trans q0
      have bS := HD.out x (by rw [← hx]; exact List.getElem_mem hlt2)
      have hgot := Lib.hid hx0
      clear q0 hr hx hx0 hlt2
      by_cases hneg : m < x.size
      · have hmin : (m : Int) - min ((x.size : Nat) : Int) 1099511627776 < 0 := by omega
        go_wp2_with fail
        rw [HK.out]
        exact ⟨⟨true, rfl, by simp⟩, by go_grown⟩
      · have hmin : (m : Int) - min ((x.size : Nat) : Int) 1099511627776 = ((m - x.size : Nat) : Int) := by omega
        have hmin2 : min ((x.size : Nat) : Int) 1099511627776 = ((x.size : Nat) : Int) := by omega
        have hmin3 : (m : Int) - ((x.size : Nat) : Int) = ((m - x.size : Nat) : Int) := by omega
        go_wp2_with fail
        case roundEnd =>
          refine ⟨⟨k + 1, m - x.size, by omega, by omega, by go_num, ?_, ?_, by first | exact hbel | go_grown⟩, ?_⟩
          · first | rfl | (congr 1; omega)
          · refine Lib.hid fun j y hj hy => ?_
            by_cases hjk : j < k
            · exact hs.out j y hjk hy
            · obtain rfl : j = k := by omega
              have := hgot.out
              rw [hy] at this
              injection this with this
              subst this
              omega
          · simp [intOf]; omega
    · obtain rfl : k = n := by omega
      go_wp2_with fail
      rw [HK.out]
      refine ⟨⟨false, rfl, fun _ => ⟨by omega, fun x hx => ?_⟩⟩, hbel⟩
      obtain ⟨j, hj⟩ := List.mem_iff_getElem?.1 hx
      exact hs.out j x (by rw [HN.out]; exact (List.getElem?_eq_some_iff.1 hj).1) hj
end Go.Proofs.Ytmoaecicibjmnaa
