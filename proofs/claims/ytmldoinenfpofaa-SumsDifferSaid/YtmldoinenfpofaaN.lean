/- The walk of SumsDiffer: true for every text, every place and every byte. -/
import Derived.Test.YtmldoinenfpofaaK
import Derived.Deep.RegionWith
import Derived.Deep.CutRange
namespace Go.Proofs.Ytmldoinenfpofaa
open Go.RowKit

theorem conv_one (now : Int) (b : Nat) (W : World) (h2 : 0 ≤ now) (h3 : now < 256) (hc : W.cell? ⟨b, 0, none⟩ = some (.int .u8 now)) :
    (convert 33 9 (.slice (some ⟨b, 0, none⟩) 1 1)).run Try.prog W = .ok (.string ⟨#[UInt8.ofNat now.toNat]⟩) W := by
  have h := run_convert_bytes_back (P := Try.prog) W 33 9 5 ⟨b, 0, none⟩ 1 [UInt8.ofNat now.toNat] Try.underlying33 Try.underlying5 Try.underlying9 (fun j hj => by
    obtain rfl : j = 0 := by simpa using hj
    have e : (([UInt8.ofNat now.toNat] : List UInt8)[0].toNat : Int) = now := by simp [UInt8.toNat_ofNat']; omega
    rw [e]; simpa [Addr.add] using hc)
  exact h

theorem differ_math (l : List UInt8) (i : Nat) (hi : i < l.length) (b : UInt8) (d e r : Int) (hd : d = (b.toNat : Int) - (l[i].toNat : Int)) (he : e = d * ((l.length : Int) - i)) (hr : e.tmod 65535 = r) :
    sum (l.take i ++ [b] ++ l.drop (i + 1)) = (sum l / 65536 + r) % 65535 * 65536 + (sum l % 65536 + d) % 65535 ∧
    ((sum l / 65536 + r) % 65535 * 65536 + (sum l % 65536 + d) % 65535 == sum l) = (d == 0) := by
  have hx := l[i].toNat_lt
  have hb := b.toNat_lt
  have hn : l = l.take i ++ [l[i]] ++ l.drop (i + 1) := by
    rw [← take_snoc l i hi, List.take_append_drop]
  have hli : (l.take i).length = i := by rw [List.length_take]; omega
  have g1 : (f1 (l.take i ++ [b] ++ l.drop (i + 1)) : Int) = f1 l + d := by
    have h1 : f1 l = f1 (l.take i ++ [l[i]] ++ l.drop (i + 1)) := congrArg f1 hn
    rw [h1, hd]; simp only [f1_append, f1]; omega
  have hlen : (l.take i ++ [b] ++ l.drop (i + 1)).length = l.length := by simp; omega
  have g2 : (f2 (l.take i ++ [b] ++ l.drop (i + 1)) : Int) = f2 l + e := by
    have h2 : f2 l = w2 l.length (l.take i ++ [l[i]] ++ l.drop (i + 1)) := congrArg (w2 l.length) hn
    unfold f2 at h2 ⊢
    rw [hlen, h2, he, hd]
    simp only [w2_append, w2, hli, List.length_append, List.length_cons, List.length_nil]
    have q : ∀ u : Nat, ((u * (l.length - i) : Nat) : Int) = (u : Int) * ((l.length : Int) - i) := fun u => by rw [Int.natCast_mul]; congr 1; omega
    have q1 := q b.toNat
    have q2 := q l[i].toNat
    rw [Int.sub_mul]
    generalize b.toNat * (l.length - i) = u1 at *
    generalize l[i].toNat * (l.length - i) = u2 at *
    omega
  have hre : r % 65535 = e % 65535 := by
    rw [← hr, Int.tmod_eq_emod]; split <;> omega
  have hlo : sum l % 65536 = (f1 l : Int) % 65535 := by unfold sum; omega
  have hhi : sum l / 65536 = (f2 l : Int) % 65535 := by unfold sum; omega
  have key : sum (l.take i ++ [b] ++ l.drop (i + 1)) = (sum l / 65536 + r) % 65535 * 65536 + (sum l % 65536 + d) % 65535 := by
    rw [hlo, hhi]
    unfold sum
    rw [g1, g2]
    have e1 : ((f2 l : Int) + e) % 65535 = ((f2 l : Int) % 65535 + r) % 65535 := by omega
    have e2 : ((f1 l : Int) + d) % 65535 = ((f1 l : Int) % 65535 + d) % 65535 := by omega
    rw [e1, e2]
  refine ⟨key, ?_⟩
  rw [hlo, hhi]
  by_cases h0 : d = 0
  · have hr0 : r = 0 := by rw [← hr, he, h0]; simp
    rw [h0, hr0]
    simp only [sum]
    simp
  · have hne : ((f2 l : Int) % 65535 + r) % 65535 * 65536 + ((f1 l : Int) % 65535 + d) % 65535 ≠ sum l := by
      unfold sum; omega
    have a1 : ((((f2 l : Int) % 65535 + r) % 65535 * 65536 + ((f1 l : Int) % 65535 + d) % 65535) == sum l) = false := beq_eq_false_iff_ne.2 hne
    have a2 : (d == 0) = false := beq_eq_false_iff_ne.2 h0
    rw [a1, a2]

theorem below_chain {w A w1 B w2 : World} (h0 : Below w.heap.size w A) (hb : Below A.heap.size A w1) (h1 : Below w1.heap.size w1 B) (hb2 : Below B.heap.size B w2) : Below w.heap.size w w2 :=
  below_tr (below_tr (below_tr h0 hb) h1) hb2

set_option maxRecDepth 100000 in
set_option maxHeartbeats 4000000 in
theorem differ_law (s : ByteArray) (at_ : Int) (now : Int) (w : World) (hs : s.size ≤ 9223372036854775807) (h0 : 0 ≤ at_) (h1 : at_ < 65536) (h2 : 0 ≤ now) (h3 : now < 256) :
    Calls Try.prog 6 #[.string s, .int .u16 at_, .int .u8 now] w fun e w' => e = .returned (.bool true) ∧ Below w.heap.size w w' := by
  by_cases h : s.size ≤ 40000
  · by_cases he : s.size = 0
    · have e0 : s.toList.isEmpty = true := by
        rw [ByteArray.toList_eq, List.isEmpty_iff, ← List.length_eq_zero_iff, Array.length_toList]; exact he
      go_enter Try.func6, Try.ntmps6
      go_wp2_with fail
      (with_reducible refine (told_any _).mono ?_); rintro e w5 ⟨rfl, hb⟩
      go_wp2_with fail
      go_ret
      exact ⟨rfl, hb⟩
    · have e0 : s.toList.isEmpty = false := by
        rw [ByteArray.toList_eq]; cases hl : s.data.toList with
        | nil => exact absurd (show s.size = 0 by show s.data.size = 0; rw [← Array.length_toList, hl]; rfl) he
        | cons _ _ => rfl
      have hp : 1 ≤ s.size := by omega
      obtain ⟨i, hi⟩ : ∃ i : Nat, at_ % ↑s.size = (i : Int) := Int.eq_ofNat_of_zero_le (Int.emod_nonneg _ (by omega))
      have hlt : i < s.size := by have := Int.emod_lt_of_pos at_ (show (0 : Int) < s.size by omega); omega
      obtain ⟨x, hx⟩ : ∃ x : Nat, s[i].toNat = x := ⟨_, rfl⟩
      have hx1 : x < 256 := by rw [← hx]; exact s[i].toNat_lt
      have hi0 : (0 : Int) ≤ (i : Int) := by omega
      have hi1 : (i : Int) ≤ (s.size : Int) := by omega
      have hi2 : (i : Int) < (s.size : Int) := by omega
      have hi3 : (0 : Int) ≤ (i : Int) + 1 := by omega
      have hi4 : (i : Int) + 1 ≤ (s.size : Int) := by omega
      have hw1 : IntKind.i64.wrap ((i : Int) + 1) = (i : Int) + 1 := IntWalk.i64_in _ (by omega)
      have hn1 : ((i : Int) + 1).toNat = i + 1 := by omega
      have c0 := fun w => sum_any s w (by omega)
      have c1 := (fun w => sum_any (s.extract 0 i ++ ⟨#[UInt8.ofNat now.toNat]⟩ ++ s.extract (i + 1) s.size) w (by simp only [ByteArray.size_append, ByteArray.size_extract]; rw [show (⟨#[UInt8.ofNat now.toNat]⟩ : ByteArray).size = 1 from rfl]; omega))
      obtain ⟨σ, hσ⟩ : ∃ σ, sum s.data.toList = σ := ⟨_, rfl⟩
      obtain ⟨τ, hτ⟩ : ∃ τ, sum (s.extract 0 i ++ ⟨#[UInt8.ofNat now.toNat]⟩ ++ s.extract (i + 1) s.size).data.toList = τ := ⟨_, rfl⟩
      rw [hσ] at c0
      rw [hτ] at c1
      have C0 := Lib.hid c0
      have C1 := Lib.hid c1
      have HST := Lib.hid (And.intro hσ hτ)
      clear c0 c1 hσ hτ
      have cvt := fun b W => conv_one now b W h2 h3
      go_enter Try.func6, Try.ntmps6
      go_wp2_with fail
      simp only [hi]
      have HI := Lib.hid hi
      clear hi
      have hmx : Try.prog.follows .mixedOrders = true := by kernel_rfl
      go_cut [9, 10] from 33 to 47 (fun a b wx => a = .int .u32 σ ∧ b = .int .u32 τ ∧ Below w.heap.size w wx)
      case first =>
        go_region_with (first | (go_at_call 11; (with_reducible refine (C0.out _).mono ?_); rintro e w1 ⟨rfl, hb⟩; have hcc := fun h => hb.cell (p := ⟨w.heap.size, 0, none⟩) h; try simp [go_sem] at hcc) | (go_at_call 11; (with_reducible refine (C1.out _).mono ?_); rintro e w2 ⟨rfl, hb2⟩))
        all_goals (go_wp2_with fail; go_meet)
        all_goals exact ⟨rfl, rfl, below_chain (by go_grown) hb (by go_grown) hb2⟩
      case rest =>
        obtain ⟨rfl, rfl, hbx⟩ := hcut
        have hd2 : 0 ≤ (s.size : Int) - i := by omega
        have hd0 : -10200000 ≤ (now - (x : Int)) * ((s.size : Int) - i) := by
          have h1 : (-255 : Int) * ((s.size : Int) - i) ≤ (now - (x : Int)) * ((s.size : Int) - i) := Int.mul_le_mul_of_nonneg_right (by omega) hd2
          omega
        have hd1 : (now - (x : Int)) * ((s.size : Int) - i) ≤ 10200000 := by
          have h1 : (now - (x : Int)) * ((s.size : Int) - i) ≤ (255 : Int) * ((s.size : Int) - i) := Int.mul_le_mul_of_nonneg_right (by omega) hd2
          omega
        obtain ⟨r, hr⟩ : ∃ r, ((now - (x : Int)) * ((s.size : Int) - i)).tmod 65535 = r := ⟨_, rfl⟩
        have hrr : -65535 < r ∧ r < 65535 := by rw [← hr, Int.tmod_eq_emod]; split <;> omega
        obtain ⟨hr0, hr1⟩ := hrr
        obtain ⟨hσ, hτ⟩ := HST.out
        have hl : s.data.toList.length = s.size := by rw [Array.length_toList]; rfl
        have hxi : s.data.toList[i]'(by rw [hl]; exact hlt) = s[i] := by rw [Array.getElem_toList]; rfl
        obtain ⟨m1, m2⟩ := differ_math s.data.toList i (by rw [hl]; exact hlt) (UInt8.ofNat now.toNat) (now - x) _ r (by rw [hxi, hx, UInt8.toNat_ofNat']; omega) rfl (by rw [hl]; exact hr)
        have hcut : (s.extract 0 i ++ ⟨#[UInt8.ofNat now.toNat]⟩ ++ s.extract (i + 1) s.size).data.toList = s.data.toList.take i ++ [UInt8.ofNat now.toNat] ++ s.data.toList.drop (i + 1) := by
          rw [toList_append, toList_append, ByteArray.data_extract, ByteArray.data_extract, Array.toList_extract, Array.toList_extract]
          rw [List.extract_eq_take_drop, List.extract_eq_take_drop]
          simp only [Nat.sub_zero, List.drop_zero]
          rw [List.take_of_length_le (i := s.size - (i + 1)) (by rw [List.length_drop, hl]; exact Nat.le_refl _)]
        rw [hcut, m1, hσ] at hτ
        rw [hσ] at m2
        have hs := sum_bd s.data.toList
        rw [hσ] at hs
        obtain ⟨hs0, hs1⟩ := hs
        have hs2 : σ % 65536 < 65535 := by rw [← hσ]; unfold sum; omega
        have hs3 : σ / 65536 < 65535 := by rw [← hσ]; unfold sum; omega
        have HT := Lib.hid hτ
        have HE := Lib.hid m2
        clear hx he HI C0 C1 cvt hw1 hn1 hσ hτ m1 m2 hxi hcut HST hl hd2
        go_wp2_with fail
        · (with_reducible refine (told_any _).mono ?_); rintro e w5 ⟨rfl, hb2⟩; have hb := below_tr hbx hb2; clear hb2
          go_wp2_with fail
          go_ret
          exact ⟨rfl, hb⟩
        all_goals first | exact absurd HE.out ‹_› | exact absurd HT.out.symm ‹_›
  · go_enter Try.func6, Try.ntmps6
    go_wp2_with fail
    (with_reducible refine (told_any _).mono ?_); rintro e w5 ⟨rfl, hb⟩
    go_wp2_with fail
    go_ret
    exact ⟨rfl, hb⟩
end Go.Proofs.Ytmldoinenfpofaa
