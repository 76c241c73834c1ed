/- wraps.At. -/
import Derived.Test.YtnpdpfkoghhioaaDoorWN
namespace Go.Proofs.YtnpdpfkoghhioaaDoor
open Go.RowKit

def atN (p c : Nat) (e : Bool) : Nat × Nat := if e = true ∧ 0 < p ∧ p % c = 0 then (p / c - 1, c - 1) else (p / c, p % c)
def atZ (l : List UInt8) (cols i : Int) : Nat × Nat :=
  if cols < 1 then (0, 0) else atN (cellsTo l (min (max i 0) (l.length : Int)).toNat).length cols.toNat (decide ((l.length : Int) ≤ i))

set_option maxRecDepth 100000 in
set_option maxHeartbeats 2000000 in
theorem at_any (s : ByteArray) (cols i : Int) (w : World) (h : TabOK w) (hs : s.size ≤ 100000) (hc : cols ≤ 9223372036854775807) :
    Calls Tryd.prog 25 #[.string s, .int .i64 cols, .int .i64 i] w fun e w' => e = .returned (.tuple #[.int .i64 ((atZ s.data.toList cols i).1 : Nat), .int .i64 ((atZ s.data.toList cols i).2 : Nat)]) ∧ Below w.heap.size w w' := by
  have HC := Lib.hid (cells_any s w h hs)
  clear h
  obtain ⟨l, hl⟩ : ∃ l, l = s.data.toList := ⟨_, rfl⟩
  have hn : l.length = s.size := by rw [hl]; rfl
  rw [← hl] at HC ⊢
  clear hl
  obtain ⟨X, hX⟩ : ∃ X : ByteArray, X = ⟨(cellsTo l s.size).toArray⟩ := ⟨_, rfl⟩
  rw [← hX] at HC
  clear hX
  obtain ⟨a, ha⟩ : ∃ a, a = (atZ l cols i).1 := ⟨_, rfl⟩
  obtain ⟨b, hb⟩ : ∃ b, b = (atZ l cols i).2 := ⟨_, rfl⟩
  rw [← ha, ← hb]
  have HAB : Hid (atZ l cols i = (a, b)) := Lib.hid (by rw [ha, hb])
  clear ha hb
  have HN := Lib.hid hn
  clear hn
  go_enter Tryd.func25, Tryd.ntmps25
  by_cases hc1 : cols < 1
  · have H0 : Hid (a = 0 ∧ b = 0) := Lib.hid (by have := HAB.out; rw [atZ, if_pos hc1] at this; exact ⟨(congrArg Prod.fst this).symm, (congrArg Prod.snd this).symm⟩)
    go_wp2_with fail
    go_ret2
    exact ⟨by rw [H0.out.1, H0.out.2]; rfl, Below.refl _ _⟩
  · obtain ⟨c, rfl⟩ := Int.eq_ofNat_of_zero_le (show 0 ≤ cols by omega)
    have hc0 : 0 < c := by omega
    have i1 : (1 : Int) ≤ (c : Int) := by omega
    have hq : (min (max i 0) (s.size : Int)).toNat < l.length + 1 := by rw [HN.out]; omega
    obtain ⟨p, hp⟩ : ∃ p, p = (cellsTo l (min (max i 0) (s.size : Int)).toNat).length := ⟨_, rfl⟩
    have HP := Lib.hid hp
    have H1 : Hid (atN p c (decide ((s.size : Int) ≤ i)) = (a, b)) := Lib.hid (by
      have := HAB.out
      rw [atZ, if_neg hc1, Int.toNat_natCast, HN.out, ← HP.out] at this
      exact this)
    have hp8 : p ≤ 800000 := by
      have h3 : (min (max i 0) (s.size : Int)).toNat ≤ l.length := by omega
      have := (cellsTo_len l _ h3).2
      rw [← hp] at this
      rw [HN.out] at h3
      omega
    clear hp
    go_wp2_with fail
    (with_reducible refine HC.out.mono ?_); rintro e w2 ⟨⟨v, rfl, hv⟩, hb⟩
    obtain ⟨ad, k, rfl, hcell⟩ := hv
    have hne : placesL l ≠ [] := by intro e; have := places_len l; rw [e] at this; simp at this
    obtain ⟨bb, oo, rfl, hlt, hcells⟩ := hcell hne
    have m1 := hcells (min (max i 0) (s.size : Int)).toNat (by rw [places_len]; exact hq)
    rw [places_get l _ hq, ← HP.out] at m1
    have hpl : (placesL l).length = s.size + 1 := by rw [places_len, HN.out]
    rw [hpl]
    clear hcells hne hq hpl hcell
    have g1 : (0 : Int) ≤ min (max i 0) (s.size : Int) := by omega
    have g2 : min (max i 0) (s.size : Int) < ((s.size + 1 : Nat) : Int) := by omega
    have hW : Hid (wrap64 ((p : Int) / (c : Int)) = ((p / c : Nat) : Int)) := Lib.hid (by
      rw [← Int.natCast_ediv]
      have h0 : (0 : Int) ≤ ((p / c : Nat) : Int) := Int.natCast_nonneg _
      have h1 : ((p / c : Nat) : Int) ≤ (p : Int) := Int.ofNat_le.mpr (Nat.div_le_self p c)
      revert h0 h1; generalize ((p / c : Nat) : Int) = q; intro h0 h1
      exact IntWalk.wrap64_in _ ⟨by omega, by omega⟩)
    by_cases he : (s.size : Int) ≤ i
    · by_cases hp0 : 0 < p
      · have p0 : (0 : Int) < (p : Int) := by omega
        by_cases hm : p % c = 0
        · have hmi : (((p : Int) % (c : Int)) == 0) = true := by rw [beq_iff_eq, ← Int.natCast_emod]; omega
          have H2 : Hid (p / c - 1 = a ∧ c - 1 = b) := Lib.hid (by
            have h5 := H1.out
            rw [atN, if_pos ⟨by simp; omega, hp0, hm⟩] at h5
            exact ⟨congrArg Prod.fst h5, congrArg Prod.snd h5⟩)
          have HA : Hid ((a : Int) = wrap64 (wrap64 ((p : Int) / (c : Int)) - 1)) := Lib.hid (by
            have h1 : 1 ≤ p / c := by
              rcases Nat.lt_or_ge p c with h | h
              · rw [Nat.mod_eq_of_lt h] at hm; omega
              · exact (Nat.le_div_iff_mul_le hc0).2 (by omega)
            have h2 : p / c ≤ p := Nat.div_le_self p c
            rw [hW.out, ← H2.out.1]
            revert h1 h2; generalize p / c = q; intro h1 h2
            rw [IntWalk.wrap64_in _ ⟨by omega, by omega⟩]; omega)
          have HB : Hid ((b : Int) = (c : Int) - 1) := Lib.hid (by rw [← H2.out.2]; omega)
          clear hm
          go_wp2_with fail
          go_ret2
          exact ⟨by rw [HA.out, HB.out]; rfl, hb⟩
        · have hmi : (((p : Int) % (c : Int)) == 0) = false := by rw [beq_eq_false_iff_ne, ← Int.natCast_emod]; omega
          have H2 : Hid (p / c = a ∧ p % c = b) := Lib.hid (by
            have h5 := H1.out
            rw [atN, if_neg (by intro h; exact hm h.2.2)] at h5
            exact ⟨congrArg Prod.fst h5, congrArg Prod.snd h5⟩)
          have HA : Hid ((a : Int) = wrap64 ((p : Int) / (c : Int))) := Lib.hid (by rw [hW.out, H2.out.1])
          have HB : Hid ((b : Int) = (p : Int) % (c : Int)) := Lib.hid (by rw [← H2.out.2]; exact Int.natCast_emod p c)
          go_wp2_with fail
          go_region
          all_goals
            go_wp2_with fail
            go_ret2
            exact ⟨by rw [HA.out, HB.out]; rfl, hb.drew⟩
      · have H2 : Hid (p / c = a ∧ p % c = b) := Lib.hid (by
          have h5 := H1.out
          rw [atN, if_neg (by intro h; exact hp0 h.2.1)] at h5
          exact ⟨congrArg Prod.fst h5, congrArg Prod.snd h5⟩)
        have HA : Hid ((a : Int) = wrap64 ((p : Int) / (c : Int))) := Lib.hid (by rw [hW.out, H2.out.1])
        have HB : Hid ((b : Int) = (p : Int) % (c : Int)) := Lib.hid (by rw [← H2.out.2]; exact Int.natCast_emod p c)
        go_wp2_with fail
        go_region
        all_goals
          go_wp2_with fail
          go_ret2
          exact ⟨by rw [HA.out, HB.out]; rfl, hb.drew⟩
    · have H2 : Hid (p / c = a ∧ p % c = b) := Lib.hid (by
        have h5 := H1.out
        rw [atN, if_neg (by intro h; exact he (by simpa using h.1))] at h5
        exact ⟨congrArg Prod.fst h5, congrArg Prod.snd h5⟩)
      have HA : Hid ((a : Int) = wrap64 ((p : Int) / (c : Int))) := Lib.hid (by rw [hW.out, H2.out.1])
      have HB : Hid ((b : Int) = (p : Int) % (c : Int)) := Lib.hid (by rw [← H2.out.2]; exact Int.natCast_emod p c)
      go_wp2_with fail
      go_region
      all_goals
        go_wp2_with fail
        go_ret2
        exact ⟨by rw [HA.out, HB.out]; rfl, hb.drew⟩
end Go.Proofs.YtnpdpfkoghhioaaDoor
