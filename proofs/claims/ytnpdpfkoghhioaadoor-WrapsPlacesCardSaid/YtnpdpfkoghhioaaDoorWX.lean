/- The law WrapsPlaces: its walk. -/
import Derived.Test.YtnpdpfkoghhioaaDoorWV
import Derived.BigQuiet
import Derived.WalkSmall
import Derived.BigGuardPart
import Derived.Deep.QuietTactic
namespace Go.Proofs.YtnpdpfkoghhioaaDoor
open Go.RowKit

/-- What the walk asks of a byte c, its first cell x, and how many cells it has n, the next place q. -/
def ByteOK (c x : Int) (n q : Nat) : Prop :=
  (c = 9 ∧ q % 8 = 0) ∨ (c ≠ 9 ∧ (c < 32 ∨ c = 127) ∧ n = 2 ∧ x = 94) ∨ (32 ≤ c ∧ c ≤ 126 ∧ n = 1 ∧ x = c) ∨ (127 < c ∧ n = 4 ∧ x = 92)

theorem byte_ok (c : UInt8) (a : Nat) : ∃ x t, shownL c a = x :: t ∧ ByteOK (c.toNat : Int) (x.toNat : Int) (shownL c a).length (a + (shownL c a).length) := by
  have hc : c.toNat < 256 := c.toNat_lt
  unfold shownL ByteOK
  by_cases h9 : c.toNat = 9
  · rw [if_pos h9]
    refine ⟨32, List.replicate (7 - a % 8) 32, ?_, .inl ⟨by omega, ?_⟩⟩
    · rw [show 8 - a % 8 = (7 - a % 8) + 1 by omega, List.replicate_succ]
    · rw [List.length_replicate]; omega
  · rw [if_neg h9]
    by_cases h1 : 127 < c.toNat
    · rw [if_pos h1]
      exact ⟨_, _, rfl, .inr (.inr (.inr ⟨by omega, rfl, rfl⟩))⟩
    · rw [if_neg h1]
      by_cases h2 : c.toNat = 127
      · rw [if_pos h2]
        exact ⟨_, _, rfl, .inr (.inl ⟨by omega, .inr (by omega), rfl, rfl⟩)⟩
      · rw [if_neg h2]
        by_cases h3 : c.toNat < 32
        · rw [if_pos h3]
          exact ⟨_, _, rfl, .inr (.inl ⟨by omega, .inl (by omega), rfl, rfl⟩)⟩
        · rw [if_neg h3]
          exact ⟨_, _, rfl, .inr (.inr (.inl ⟨by omega, by omega, rfl, rfl⟩))⟩

/-- Places and bytes of a line, as the walk asks them. -/
theorem places_ok (l : List UInt8) (k : Nat) (h : k < l.length) : (cellsTo l k).length < (cellsTo l l.length).length ∧
    ∃ x : UInt8, (cellsTo l l.length)[(cellsTo l k).length]? = some x ∧ (cellsTo l (k + 1)).length ≤ (cellsTo l l.length).length ∧
      (cellsTo l k).length + 1 ≤ (cellsTo l (k + 1)).length ∧ (cellsTo l (k + 1)).length ≤ (cellsTo l k).length + 8 ∧
      ByteOK (l[k].toNat : Int) (x.toNat : Int) ((cellsTo l (k + 1)).length - (cellsTo l k).length) (cellsTo l (k + 1)).length := by
  have hs := shown_len l[k] (cellsTo l k).length
  obtain ⟨x, t, hx, hok⟩ := byte_ok l[k] (cellsTo l k).length
  have h1 : (cellsTo l (k + 1)).length = (cellsTo l k).length + (shownL l[k] (cellsTo l k).length).length := by rw [cellsTo_succ l k h, List.length_append]
  obtain ⟨r, hr⟩ := cellsTo_mono l (k + 1) l.length h
  have h2 : (cellsTo l l.length).length = (cellsTo l (k + 1)).length + r.length := by rw [hr, List.length_append]
  refine ⟨by omega, x, ?_, by omega, by omega, by omega, ?_⟩
  · rw [hr, cellsTo_succ l k h, hx, List.append_assoc, List.getElem?_append_right (Nat.le_refl _), Nat.sub_self]; rfl
  · rw [h1, Nat.add_sub_cancel_left]; exact hok

set_option maxRecDepth 100000 in
set_option maxHeartbeats 4000000 in
theorem wrapsPlaces_walk (s : ByteArray) (w : World) (h : TabOK w) :
    Calls Tryd.prog 8 #[.string s] w fun e w' => e = .returned (.bool true) ∧ Below w.heap.size w w' := by
  have HT := Lib.hid h
  clear h
  by_cases hs : s.size ≤ 1000
  · obtain ⟨S, P, hS, K1, hz, he, HF, HG⟩ : ∃ (S : ByteArray) (P : Nat → Nat), S.size ≤ 8000 ∧
        Hid (∀ w2, TabOK w2 → Calls Tryd.prog 21 #[.string s] w2 fun e w' => (∃ b1 o1 k1, e = .returned (.tuple #[.string S, .slice (some ⟨b1, o1, none⟩) (s.size + 1) k1]) ∧ b1 < w'.heap.size ∧ ∀ j, j ≤ s.size → w'.cell? ⟨b1, o1 + j, none⟩ = some (.int .i64 (P j : Int))) ∧ Below w2.heap.size w2 w') ∧
        Hid (P 0 = 0) ∧ Hid (P s.size = S.size) ∧
        Hid (∀ k (h1 : k < s.size), ∃ h2 : P k < S.size, P (k + 1) ≤ S.size ∧ P k + 1 ≤ P (k + 1) ∧ P (k + 1) ≤ P k + 8 ∧ ByteOK (s[k].toNat : Int) (S[P k].toNat : Int) (P (k + 1) - P k) (P (k + 1))) ∧
        Hid (∀ k (h : k < S.size), 32 ≤ S[k].toNat ∧ S[k].toNat ≤ 126) := by
      have hsl : s.data.toList.length = s.size := rfl
      have hlen := (cellsTo_len s.data.toList s.size (by exact Nat.le_refl _)).2
      have hsz : (⟨(cellsTo s.data.toList s.size).toArray⟩ : ByteArray).size = (cellsTo s.data.toList s.size).length := by show (List.toArray _).size = _; rw [List.size_toArray]
      refine ⟨⟨(cellsTo s.data.toList s.size).toArray⟩, fun k => (cellsTo s.data.toList k).length, by rw [hsz]; omega, Lib.hid fun w2 h => ?_, Lib.hid rfl, Lib.hid hsz.symm, Lib.hid fun k h1 => ?_, Lib.hid fun k h => ?_⟩
      · refine (cells_any s w2 h (by omega)).mono fun e w' ⟨⟨v, he, hv⟩, hb⟩ => ⟨?_, hb⟩
        obtain ⟨b1, o1, k1, rfl, hlt, hcell⟩ := ints_open hv (n := s.size + 1) (by rw [places_len, hsl]) (by omega)
        exact ⟨b1, o1, k1, he, hlt, fun j hj => by rw [hcell _ (by omega), places_get _ _ (by omega)]⟩
      · obtain ⟨p0, x, p1, p2, p3, p4, p5⟩ := places_ok s.data.toList k h1
        rw [hsl] at p0 p1 p2
        refine ⟨by rw [hsz]; exact p0, by rw [hsz]; exact p2, p3, p4, ?_⟩
        have e1 : x = (⟨(cellsTo s.data.toList s.size).toArray⟩ : ByteArray)[(cellsTo s.data.toList k).length]'(by rw [hsz]; exact p0) := by
          rw [List.getElem?_eq_getElem p0] at p1
          exact (Option.some.inj p1).symm
        rw [e1] at p5
        exact p5
      · rw [hsz] at h
        exact cellsTo_plain s.data.toList s.size _ (List.getElem_mem h)
    go_enter Tryd.func8, Tryd.ntmps8
    dsimp only [List.append]
    go_wp2_with fail
    (with_reducible refine (K1.out w HT.out).mono ?_); rintro e w1 ⟨⟨b1, o1, k1, rfl, hl1, hc1⟩, hb1⟩
    have Hc1 := Lib.hid hc1
    have c0 := hc1 0 (Nat.zero_le _)
    rw [hz.out, Nat.add_zero] at c0
    have c1 := hc1 s.size (Nat.le_refl _)
    rw [he.out] at c1
    clear hc1 K1
    go_wp2_with fail
    clear c0 c1
    go_loopw [5, 6, 7] (fun i _ _ wr => ∃ k : Nat, k ≤ s.size ∧ i = .int .i64 k ∧ Below w1.heap.size w1 wr) (fun i _ _ _ => s.size - (intOf i).toNat)
    case atStart => exact ⟨0, Nat.zero_le _, rfl, Below.refl _ _⟩
    case round =>
      obtain ⟨k, hk, rfl, hbk⟩ := hrel
      by_cases hlt : k < s.size
      · have m1 := (hbk.cell (p := ⟨b1, o1 + k, none⟩) hl1).trans (Hc1.out k hk)
        have m2 := (hbk.cell (p := ⟨b1, o1 + (k + 1), none⟩) hl1).trans (Hc1.out (k + 1) hlt)
        obtain ⟨f0, f1, f2, f3, f4⟩ := HF.out k hlt
        revert m1 m2 f0 f1 f2 f3 f4
        generalize P k = p
        generalize P (k + 1) = q
        intro m1 m2 f0 f1 f2 f3 f4
        have hc256 : (s[k].toNat : Int) < 256 := by have := s[k].toNat_lt; omega
        rcases f4 with ⟨c9, q8⟩ | ⟨nc9, hc | hc, n2, x94⟩ | ⟨d1, d2, n1, xc⟩ | ⟨d1, n4, x92⟩
        · have a1 : (s[k].toNat : Int) ≤ 9 := by omega
          have a2 : 9 ≤ (s[k].toNat : Int) := by omega
          clear c9
          go_wp2_with fail
          go_quiet (fail)
          go_wp2_with fail
          all_goals first
            | (go_roundw
               case rel => exact ⟨k + 1, by omega, by go_num, below_drewN hbk _⟩
               case measure => simp [intOf]; omega)
            | (exfalso; omega)
            | trace_state
        · have a1 : (q : Int) ≤ (p : Int) + 2 := by omega
          have a2 : (p : Int) + 2 ≤ (q : Int) := by omega
          have a3 : (S[p].toNat : Int) ≤ 94 := by omega
          have a4 : 94 ≤ (S[p].toNat : Int) := by omega
          clear n2 x94
          go_wp2_with fail
          go_quiet (fail)
          go_wp2_with fail
          all_goals first
            | (go_roundw
               case rel => exact ⟨k + 1, by omega, by go_num, below_drewN hbk _⟩
               case measure => simp [intOf]; omega)
            | (exfalso; omega)
            | trace_state
        · have a1 : (q : Int) ≤ (p : Int) + 2 := by omega
          have a2 : (p : Int) + 2 ≤ (q : Int) := by omega
          have a3 : (S[p].toNat : Int) ≤ 94 := by omega
          have a4 : 94 ≤ (S[p].toNat : Int) := by omega
          have a5 : (s[k].toNat : Int) ≤ 127 := by omega
          have a6 : 127 ≤ (s[k].toNat : Int) := by omega
          clear n2 x94 hc nc9
          go_wp2_with fail
          go_quiet (fail)
          go_wp2_with fail
          all_goals first
            | (go_roundw
               case rel => exact ⟨k + 1, by omega, by go_num, below_drewN hbk _⟩
               case measure => simp [intOf]; omega)
            | (exfalso; omega)
            | trace_state
        · have a1 : (q : Int) ≤ (p : Int) + 1 := by omega
          have a2 : (p : Int) + 1 ≤ (q : Int) := by omega
          have a3 : (S[p].toNat : Int) ≤ (s[k].toNat : Int) := by omega
          have a4 : (s[k].toNat : Int) ≤ (S[p].toNat : Int) := by omega
          clear n1 xc
          go_wp2_with fail
          go_quiet (fail)
          go_wp2_with fail
          all_goals first
            | (go_roundw
               case rel => exact ⟨k + 1, by omega, by go_num, below_drewN hbk _⟩
               case measure => simp [intOf]; omega)
            | (exfalso; omega)
            | trace_state
        · have a1 : (q : Int) ≤ (p : Int) + 4 := by omega
          have a2 : (p : Int) + 4 ≤ (q : Int) := by omega
          have a3 : (S[p].toNat : Int) ≤ 92 := by omega
          have a4 : 92 ≤ (S[p].toNat : Int) := by omega
          clear n4 x92
          go_wp2_with fail
          go_quiet (fail)
          go_wp2_with fail
          all_goals first
            | (go_roundw
               case rel => exact ⟨k + 1, by omega, by go_num, below_drewN hbk _⟩
               case measure => simp [intOf]; omega)
            | (exfalso; omega)
            | trace_state
      · obtain rfl : k = s.size := by omega
        clear hk hlt
        go_wp2_with fail
        go_loopw [8] (fun i wr => ∃ k : Nat, k ≤ S.size ∧ i = .int .i64 k ∧ Below w1.heap.size w1 wr) (fun i _ => S.size - (intOf i).toNat)
        case atStart => exact ⟨0, Nat.zero_le _, rfl, hbk⟩
        case round =>
          obtain ⟨j, hj, rfl, hbj⟩ := hrel
          by_cases hlt : j < S.size
          · have hg := HG.out j hlt
            go_wp2_with fail
            go_roundw
            case rel => exact ⟨j + 1, by omega, by go_num, hbj⟩
            case measure => simp [intOf]; omega
          · obtain rfl : j = S.size := by omega
            have B2 := Lib.hid (tr_below hb1 hbj)
            clear hbj hbk
            go_wp2_with fail
            (with_reducible refine (does_any _ (TabOK.later HT.out B2.out)).mono ?_); rintro e w5 ⟨rfl, hb8⟩
            have hb9 := tr_below B2.out hb8
            clear hb8
            go_wp2_with fail
            go_ret
            exact ⟨rfl, hb9⟩
  · go_enter Tryd.func8, Tryd.ntmps8
    have hd : decide ((1000 : Int) < (s.size : Int)) = true := by simp; omega
    go_wp2_with fail
    go_ret
    exact ⟨rfl, Below.refl _ _⟩
end Go.Proofs.YtnpdpfkoghhioaaDoor
