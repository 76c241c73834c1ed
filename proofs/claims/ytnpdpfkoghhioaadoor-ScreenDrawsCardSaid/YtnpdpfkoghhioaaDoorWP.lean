/- The chapter's At. -/
import Derived.Test.YtnpdpfkoghhioaaDoorWO
namespace Go.Proofs.YtnpdpfkoghhioaaDoor
open Go.RowKit

theorem pred_div (p c : Nat) (hc : 0 < c) (hp : 0 < p) (hm : p % c = 0) : (p - 1) / c = p / c - 1 ∧ (p - 1) % c = c - 1 := by
  obtain ⟨q, hq⟩ := Nat.dvd_of_mod_eq_zero hm
  obtain ⟨r, rfl⟩ : ∃ r, q = r + 1 := ⟨q - 1, by
    rcases Nat.eq_zero_or_pos q with h | h
    · subst h; omega
    · omega⟩
  have e : p - 1 = (c - 1) + c * r := by rw [hq, Nat.mul_add]; omega
  rw [e, Nat.add_mul_div_left _ _ hc, Nat.add_mul_mod_self_left, hq, Nat.mul_div_cancel_left _ hc, Nat.div_eq_of_lt (by omega), Nat.mod_eq_of_lt (by omega)]
  omega

set_option maxRecDepth 100000 in
set_option maxHeartbeats 2000000 in
theorem rat_any (s : ByteArray) (cols i : Int) (w : World) (hs : s.size ≤ 100000) (hc : cols ≤ 9223372036854775807) :
    Calls Tryd.prog 26 #[.string s, .int .i64 cols, .int .i64 i] w fun e w' => e = .returned (.tuple #[.int .i64 ((atZ s.data.toList cols i).1 : Nat), .int .i64 ((atZ s.data.toList cols i).2 : Nat)]) ∧ Below w.heap.size w w' := by
  have HC := Lib.hid (rcells_any s w hs)
  obtain ⟨l, hl⟩ : ∃ l, l = s.data.toList := ⟨_, rfl⟩
  have hn : l.length = s.size := by rw [hl]; rfl
  rw [← hl] at HC ⊢
  clear hl
  obtain ⟨X, hX⟩ : ∃ X : ByteArray, X = ⟨(cellsTo l s.size).toArray⟩ := ⟨_, rfl⟩
  rw [← hX] at HC
  have hXs : X.size = (cellsTo l s.size).length := by rw [hX]; show (List.toArray _).size = _; rw [List.size_toArray]
  have HX := Lib.hid hXs
  clear hX hXs
  obtain ⟨a, ha⟩ : ∃ a, a = (atZ l cols i).1 := ⟨_, rfl⟩
  obtain ⟨b, hb⟩ : ∃ b, b = (atZ l cols i).2 := ⟨_, rfl⟩
  rw [← ha, ← hb]
  have HAB : Hid (atZ l cols i = (a, b)) := Lib.hid (by rw [ha, hb])
  clear ha hb
  have HN := Lib.hid hn
  clear hn
  go_enter Tryd.func26, Tryd.ntmps26
  by_cases hc1 : cols < 1
  · have H0 : Hid (a = 0 ∧ b = 0) := Lib.hid (by have := HAB.out; rw [atZ, if_pos hc1] at this; exact ⟨(congrArg Prod.fst this).symm, (congrArg Prod.snd this).symm⟩)
    go_wp2_with fail
    go_ret2
    exact ⟨by rw [H0.out.1, H0.out.2]; rfl, Below.refl _ _⟩
  · obtain ⟨c, rfl⟩ := Int.eq_ofNat_of_zero_le (show 0 ≤ cols by omega)
    have hc0 : 0 < c := by omega
    have i1 : (1 : Int) ≤ (c : Int) := by omega
    have hq : (min (max i 0) (s.size : Int)).toNat < l.length + 1 := by rw [HN.out]; omega
    obtain ⟨p, hp⟩ : ∃ p, p = (cellsTo l (min (max i 0) (s.size : Int)).toNat).length := ⟨_, rfl⟩
    have HP := Lib.hid hp
    have H1 : Hid (atN p c (decide ((s.size : Int) ≤ i)) = (a, b)) := Lib.hid (by
      have := HAB.out
      rw [atZ, if_neg hc1, Int.toNat_natCast, HN.out, ← HP.out] at this
      exact this)
    have hp8 : p ≤ 800000 := by
      have h3 : (min (max i 0) (s.size : Int)).toNat ≤ l.length := by omega
      have := (cellsTo_len l _ h3).2
      rw [← hp] at this
      rw [HN.out] at h3
      omega
    clear hp
    go_wp2_with fail
    (with_reducible refine HC.out.mono ?_); rintro e w2 ⟨⟨v, rfl, hv⟩, hb⟩
    obtain ⟨ad, k, rfl, hcell⟩ := hv
    have hne : placesL l ≠ [] := by intro e; have := places_len l; rw [e] at this; simp at this
    obtain ⟨bb, oo, rfl, hlt, hcells⟩ := hcell hne
    have m1 := hcells (min (max i 0) (s.size : Int)).toNat (by rw [places_len]; exact hq)
    rw [places_get l _ hq, ← HP.out] at m1
    have hpl : (placesL l).length = s.size + 1 := by rw [places_len, HN.out]
    rw [hpl]
    clear hcells hne hq hpl hcell
    have g1 : (0 : Int) ≤ min (max i 0) (s.size : Int) := by omega
    have g2 : min (max i 0) (s.size : Int) < ((s.size + 1 : Nat) : Int) := by omega
    have hW : Hid (wrap64 ((p : Int) / (c : Int)) = ((p / c : Nat) : Int)) := Lib.hid (by
      rw [← Int.natCast_ediv]
      have h0 : (0 : Int) ≤ ((p / c : Nat) : Int) := Int.natCast_nonneg _
      have h1 : ((p / c : Nat) : Int) ≤ (p : Int) := Int.ofNat_le.mpr (Nat.div_le_self p c)
      revert h0 h1; generalize ((p / c : Nat) : Int) = q; intro h0 h1
      exact IntWalk.wrap64_in _ ⟨by omega, by omega⟩)
    by_cases he : (s.size : Int) ≤ i
    · have hXp : X.size = p := by
        rw [HX.out, HP.out]
        have : (min (max i 0) (s.size : Int)).toNat = s.size := by omega
        rw [this]
      by_cases hp0 : 0 < p
      · have p0 : (0 : Int) < (X.size : Int) := by omega
        have p1 : (0 : Int) < (p : Int) := by omega
        clear hXp
        by_cases hm : p % c = 0
        · have hmi : (((p : Int) % (c : Int)) == 0) = true := by rw [beq_iff_eq, ← Int.natCast_emod]; omega
          have H2 : Hid (p / c - 1 = a ∧ c - 1 = b) := Lib.hid (by
            have h5 := H1.out
            rw [atN, if_pos ⟨by simp; omega, hp0, hm⟩] at h5
            exact ⟨congrArg Prod.fst h5, congrArg Prod.snd h5⟩)
          have HA : Hid ((a : Int) = ((p : Int) - 1) / (c : Int)) := Lib.hid (by
            have h0 := pred_div p c hc0 hp0 hm
            rw [← H2.out.1, ← h0.1]
            have e : (p : Int) - 1 = ((p - 1 : Nat) : Int) := by omega
            rw [e, ← Int.natCast_ediv])
          have HB : Hid ((b : Int) = ((p : Int) - 1) % (c : Int)) := Lib.hid (by
            have h0 := pred_div p c hc0 hp0 hm
            rw [← H2.out.2, ← h0.2]
            have e : (p : Int) - 1 = ((p - 1 : Nat) : Int) := by omega
            rw [e, ← Int.natCast_emod])
          clear hm
          go_wp2_with fail
          go_region
          all_goals
            go_wp2_with fail
            go_ret2
            exact ⟨by rw [HA.out, HB.out]; rfl, hb.drew⟩
        · have hmi : (((p : Int) % (c : Int)) == 0) = false := by rw [beq_eq_false_iff_ne, ← Int.natCast_emod]; omega
          have H2 : Hid (p / c = a ∧ p % c = b) := Lib.hid (by
            have h5 := H1.out
            rw [atN, if_neg (by intro h; exact hm h.2.2)] at h5
            exact ⟨congrArg Prod.fst h5, congrArg Prod.snd h5⟩)
          have HA : Hid ((a : Int) = wrap64 ((p : Int) / (c : Int))) := Lib.hid (by rw [hW.out, H2.out.1])
          have HB : Hid ((b : Int) = (p : Int) % (c : Int)) := Lib.hid (by rw [← H2.out.2]; exact Int.natCast_emod p c)
          go_wp2_with fail
          go_region
          all_goals
            go_wp2_with fail
            go_ret2
            exact ⟨by rw [HA.out, HB.out]; rfl, hb.drew⟩
      · have p0 : ¬ (0 : Int) < (X.size : Int) := by omega
        clear hXp
        have H2 : Hid (p / c = a ∧ p % c = b) := Lib.hid (by
          have h5 := H1.out
          rw [atN, if_neg (by intro h; exact hp0 h.2.1)] at h5
          exact ⟨congrArg Prod.fst h5, congrArg Prod.snd h5⟩)
        have HA : Hid ((a : Int) = wrap64 ((p : Int) / (c : Int))) := Lib.hid (by rw [hW.out, H2.out.1])
        have HB : Hid ((b : Int) = (p : Int) % (c : Int)) := Lib.hid (by rw [← H2.out.2]; exact Int.natCast_emod p c)
        go_wp2_with fail
        go_region
        all_goals
          go_wp2_with fail
          go_ret2
          exact ⟨by rw [HA.out, HB.out]; rfl, hb.drew⟩
    · have H2 : Hid (p / c = a ∧ p % c = b) := Lib.hid (by
        have h5 := H1.out
        rw [atN, if_neg (by intro h; exact he (by simpa using h.1))] at h5
        exact ⟨congrArg Prod.fst h5, congrArg Prod.snd h5⟩)
      have HA : Hid ((a : Int) = wrap64 ((p : Int) / (c : Int))) := Lib.hid (by rw [hW.out, H2.out.1])
      have HB : Hid ((b : Int) = (p : Int) % (c : Int)) := Lib.hid (by rw [← H2.out.2]; exact Int.natCast_emod p c)
      go_wp2_with fail
      go_region
      all_goals
        go_wp2_with fail
        go_ret2
        exact ⟨by rw [HA.out, HB.out]; rfl, hb.drew⟩
end Go.Proofs.YtnpdpfkoghhioaaDoor
