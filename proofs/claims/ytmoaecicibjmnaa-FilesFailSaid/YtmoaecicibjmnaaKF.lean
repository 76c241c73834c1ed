/- Lists of what is done to a file system; Much. -/
import Derived.Test.YtmoaecicibjmnaaKE
namespace Go.Proofs.Ytmoaecicibjmnaa
open Go.RowKit

/-- A list of what is done, in blocks of P. -/
def DosAt (P : Nat → Prop) (w : World) (v : Value) (L : List DoR) : Prop :=
  ∃ a c, v = .slice a L.length c ∧ (L ≠ [] → ∃ b o, a = some ⟨b, o, none⟩ ∧ b < w.heap.size ∧ P b ∧ ∀ (j : Nat) (d : DoR), L[j]? = some d → ∃ kv, IntsIn P w kv d.K ∧ w.cell? ⟨b, o + j * 6, none⟩ = some (.int .u8 (d.what : Int)) ∧ w.cell? ⟨b, o + j * 6 + 1, none⟩ = some (.string d.A) ∧ w.cell? ⟨b, o + j * 6 + 2, none⟩ = some (.string d.B) ∧ w.cell? ⟨b, o + j * 6 + 3, none⟩ = some (.string d.S) ∧ w.cell? ⟨b, o + j * 6 + 4, none⟩ = some (.int .i64 d.N) ∧ w.cell? ⟨b, o + j * 6 + 5, none⟩ = some kv)
theorem DosAt.eq {M M' : Nat → Prop} {w w' : World} {v : Value} {l : List DoR} (h : DosAt M w v l) (hs : w.heap.size ≤ w'.heap.size) (he : ∀ k, k < w.heap.size → M k → w'.heap[k]? = w.heap[k]? ∧ M' k) : DosAt M' w' v l := by
  obtain ⟨a, c, hv, h⟩ := h
  refine ⟨a, c, hv, fun hne => ?_⟩
  obtain ⟨b, o, ha, hlt, hm, hc⟩ := h hne
  refine ⟨b, o, ha, Nat.lt_of_lt_of_le hlt hs, (he b hlt hm).2, fun j d hj => ?_⟩
  obtain ⟨kv, hk, h0, h1, h2, h3, h4, h5⟩ := hc j d hj
  have e := fun i => World.cell?_of_block (a := ⟨b, i, none⟩) (he b hlt hm).1
  exact ⟨kv, hk.eq hs he, (e _).trans h0, (e _).trans h1, (e _).trans h2, (e _).trans h3, (e _).trans h4, (e _).trans h5⟩
/-- What may stand in one that is handed in. -/
structure DoOK (d : DoR) : Prop where
  what : d.what < 256
  A : d.A.size ≤ 9223372036854775807
  B : d.B.size ≤ 9223372036854775807
  S : d.S.size ≤ 9223372036854775807
  N1 : -9223372036854775808 ≤ d.N
  N2 : d.N ≤ 9223372036854775807
  K : d.K.length ≤ 9223372036854775807
  each : ∀ x ∈ d.K, -9223372036854775808 ≤ x ∧ x ≤ 9223372036854775807
structure DoSmall (d : DoR) : Prop where
  A : d.A.size ≤ 300
  B : d.B.size ≤ 300
  S : d.S.size ≤ 50000
  K : d.K.length ≤ 60

set_option maxRecDepth 100000 in
set_option maxHeartbeats 8000000 in
theorem much5_any {P : Nat → Prop} (v : Value) (L : List DoR) (w : World) (h : DosAt P w v L) (hb : L.length ≤ 9223372036854775807) (hd : ∀ d ∈ L, DoOK d) :
    Calls Try.prog 14 #[v] w fun e w' => (∃ q : Bool, e = .returned (.bool q) ∧ (q = false → L.length ≤ 120 ∧ ∀ d ∈ L, DoSmall d)) ∧ Below w.heap.size w w' := by
  obtain ⟨a, c, rfl, hc⟩ := h
  have HC := Lib.hid hc
  have HD := Lib.hid hd
  clear hc hd
  obtain ⟨n, hn⟩ : ∃ n, n = L.length := ⟨_, rfl⟩
  have HN := Lib.hid hn
  rw [← hn] at hb ⊢
  clear hn
  obtain ⟨K, hK⟩ : ∃ K : Ending → World → Prop, K = fun e w' => (∃ q : Bool, e = .returned (.bool q) ∧ (q = false → n ≤ 120 ∧ ∀ d ∈ L, DoSmall d)) ∧ Below w.heap.size w w' := ⟨_, rfl⟩
  have HK := Lib.hid hK
  rw [← hK]
  clear hK
  go_enter Try.func14, Try.ntmps14
  go_wp2_with fail
  go_loopw [3, 4] (fun s i wr => ∃ k m : Nat, k ≤ n ∧ m ≤ 50000 ∧ i = .int .i64 (k : Nat) ∧ s = .int .i64 (m : Nat) ∧ Hid (∀ j d, j < k → L[j]? = some d → DoSmall d) ∧ Below w.heap.size w wr) (fun _ i _ => n - (intOf i).toNat)
  case atStart => exact ⟨0, 50000, Nat.zero_le _, Nat.le_refl _, rfl, rfl, Lib.hid (fun j _ hj => by omega), Below.refl _ _⟩
  case round =>
    obtain ⟨k, m, hk, hm, rfl, rfl, hs, hbel⟩ := hrel
    by_cases hlt : k < n
    · have hlt2 : k < L.length := by rw [← HN.out]; exact hlt
      obtain ⟨d, hd⟩ : ∃ d, L[k]? = some d := ⟨_, List.getElem?_eq_getElem hlt2⟩
      obtain ⟨b, o, rfl, hbl, _, hr⟩ := HC.out (by intro e; rw [e] at hlt2; simp at hlt2)
      obtain ⟨kv, hkv, q0, q1, q2, q3, q4, q5⟩ := hr k d hd
      obtain ⟨ka, kc, rfl⟩ := hkv.val
      have hdo := HD.out d (List.mem_of_getElem? hd)
      have bw := hdo.what
      have bA := hdo.A
      have bB := hdo.B
      have bS := hdo.S
      have bN1 := hdo.N1
      have bN2 := hdo.N2
      have bK := hdo.K
      have e := fun i => World.cell?_of_block (a := ⟨b, i, none⟩) (hbel.block b hbl)
      have p0 := (e _).trans q0
      have p1 := (e _).trans q1
      have p2 := (e _).trans q2
      have p3 := (e _).trans q3
      have p4 := (e _).trans q4
      have p5 := (e _).trans q5
      have hgot := Lib.hid hd
      clear e q0 q1 q2 q3 q4 q5 hr hkv hdo hd hlt2
      generalize d.what = dw at *
      go_wp2_with fail
      case roundEnd =>
        refine ⟨⟨k + 1, m - min d.S.size 60000, by omega, by omega, by go_num, ?_, ?_, hbel.alloc hbel.size _⟩, ?_⟩
        · congr 1; omega
        · refine Lib.hid fun j d' hj hd' => ?_
          by_cases hjk : j < k
          · exact hs.out j d' hjk hd'
          · obtain rfl : j = k := by omega
            have := hgot.out
            rw [hd'] at this
            injection this with this
            subst this
            exact ⟨by omega, by omega, by omega, by omega⟩
        · simp [intOf]; omega
      all_goals
        rw [HK.out]
        exact ⟨⟨true, rfl, by simp⟩, hbel.alloc hbel.size _⟩
    · obtain rfl : k = n := by omega
      go_wp2_with fail
      rw [HK.out]
      refine ⟨⟨decide (120 < (k : Int)), rfl, fun hq => ⟨by simp at hq; omega, fun d hd => ?_⟩⟩, hbel⟩
      obtain ⟨j, hj⟩ := List.mem_iff_getElem?.1 hd
      exact hs.out j d (by rw [HN.out]; exact (List.getElem?_eq_some_iff.1 hj).1) hj
end Go.Proofs.Ytmoaecicibjmnaa
