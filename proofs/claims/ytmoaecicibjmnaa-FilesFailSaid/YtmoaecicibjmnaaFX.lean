/- Names, Unsynced, Size. -/
import Derived.Test.YtmoaecicibjmnaaFW
import Derived.Shelf.Abstract
namespace Go.Proofs.Ytmoaecicibjmnaa
open Go.RowKit

set_option maxRecDepth 100000 in
theorem size1_any (x : PF) (hx : x.pl.size + x.air.size ≤ 1048576) (w : World) : Calls Try.prog 46 #[x.val] w fun e w' => e = .returned (.int .i64 ((x.pl.size + x.air.size : Nat) : Int)) ∧ Below w.heap.size w w' := by
  have C1 := fun w1 => Lib.hid (bytes_any x hx w1)
  have hb : x.bytes.size = x.pl.size + x.air.size := by simp [PF.bytes]
  obtain ⟨S, hS⟩ : ∃ S, S = x.bytes := ⟨_, rfl⟩
  rw [← hS] at hb
  simp only [← hS] at C1
  have HB := Lib.hid hb
  obtain ⟨m, p, a⟩ := x
  clear hb hS
  go_enter Try.func46, Try.ntmps46
  go_wp2_with fail
  (with_reducible refine (C1 _).out.mono ?_); rintro e w1 ⟨rfl, hb1⟩
  go_wp2_with fail
  go_ret
  exact ⟨by rw [← HB.out]; rfl, below_tr ((Below.refl _ _).alloc (Nat.le_refl _) _) hb1⟩
set_option maxRecDepth 100000 in
theorem names1_any (x : PF) (w : World) : Calls Try.prog 49 #[x.val] w fun e w' => e = .returned (.string x.name) ∧ Below w.heap.size w w' := by
  obtain ⟨m, p, a⟩ := x
  go_enter Try.func49, Try.ntmps49
  go_wp2
  go_ret
  exact ⟨rfl, (Below.refl _ _).alloc (Nat.le_refl _) _⟩
set_option maxRecDepth 100000 in
theorem unsynced1_any (x : PF) (w : World) : Calls Try.prog 75 #[x.val] w fun e w' => e = .returned (.int .i64 (x.air.size : Nat)) ∧ Below w.heap.size w w' := by
  obtain ⟨m, p, a⟩ := x
  go_enter Try.func75, Try.ntmps75
  go_wp2
  go_ret
  exact ⟨rfl, (Below.refl _ _).alloc (Nat.le_refl _) _⟩
set_option maxRecDepth 100000 in
theorem names_any {M : Nat → Prop} {w : World} {b : Nat} {F : FR} (h : FSAt M w b F) (hG : Sound F) :
    Calls Try.prog 17 #[.pointer (some ⟨b, 0, none⟩)] w fun e w' => (∃ v, e = .returned v ∧ w'.ownsRow w.heap.size 9 1 v F.files.length (F.files.map fun x => Value.string x.name)) ∧ Below w.heap.size w w' := by
  have C1 := Lib.hid (all_string h hG 49 (enters_of Try.func49 (by kernel_rfl) rfl) (fun x => x.name) (fun x _ w1 => names1_any x w1))
  clear h hG
  go_enter Try.func17, Try.ntmps17
  go_wp2_with fail
  (with_reducible refine C1.out.mono ?_); rintro e w2 ⟨⟨v, rfl, ho⟩, hb2⟩
  have HO := Lib.hid ho
  clear ho
  go_wp2_with fail
  go_ret
  exact ⟨⟨v, rfl, HO.out⟩, hb2⟩
set_option maxRecDepth 100000 in
theorem unsynced_any {M : Nat → Prop} {w : World} {b : Nat} {F : FR} (h : FSAt M w b F) (hG : Sound F) :
    Calls Try.prog 33 #[.pointer (some ⟨b, 0, none⟩)] w fun e w' => (∃ v, e = .returned v ∧ w'.ownsRow w.heap.size 3 1 v F.files.length (F.files.map fun x => Value.int .i64 ((x.air.size : Nat) : Int))) ∧ Below w.heap.size w w' := by
  have C1 := Lib.hid (all_int h hG 75 (enters_of Try.func75 (by kernel_rfl) rfl) (fun x => ((x.air.size : Nat) : Int)) (fun x _ w1 => unsynced1_any x w1))
  clear h hG
  go_enter Try.func33, Try.ntmps33
  go_wp2_with fail
  (with_reducible refine C1.out.mono ?_); rintro e w2 ⟨⟨v, rfl, ho⟩, hb2⟩
  have HO := Lib.hid ho
  clear ho
  go_wp2_with fail
  go_ret
  exact ⟨⟨v, rfl, HO.out⟩, hb2⟩
theorem total_take (L : List PF) (k : Nat) (x : PF) (h : L[k]? = some x) : total (L.take (k + 1)) = total (L.take k) + (x.pl.size + x.air.size) := by
  unfold total
  rw [List.take_add_one, h, List.map_append, List.sum_append]; simp
theorem total_le (L : List PF) (k : Nat) : total (L.take k) ≤ total L := by
  have h : L = L.take k ++ L.drop k := (List.take_append_drop k L).symm
  have h2 : total L = total (L.take k) + total (L.drop k) := by
    rw (occs := .pos [1]) [h]
    unfold total
    rw [List.map_append, List.sum_append]
  omega
set_option maxHeartbeats 4000000 in
set_option maxRecDepth 100000 in
theorem size_any {M : Nat → Prop} {w : World} {b : Nat} {F : FR} (h : FSAt M w b F) (hG : Sound F) :
    Calls Try.prog 16 #[.pointer (some ⟨b, 0, none⟩)] w fun e w' => e = .returned (.int .i64 (total F.files : Nat)) ∧ Below w.heap.size w w' := by
  have C1 := Lib.hid (all_int h hG 46 (enters_of Try.func46 (by kernel_rfl) rfl) (fun x => ((x.pl.size + x.air.size : Nat) : Int)) (fun x hx w1 => size1_any x (hG.size hx) w1))
  have hT : total F.files ≤ 1048576 := by have := hG.sum; have := hG.lim2; omega
  have hcnt := hG.cnt
  obtain ⟨q, hq⟩ : ∃ q, q = F.files.length := ⟨_, rfl⟩
  have HQ := Lib.hid hq
  obtain ⟨T, hTT⟩ : ∃ T, T = total F.files := ⟨_, rfl⟩
  have HT := Lib.hid hTT
  rw [← hq] at C1 hcnt
  rw [← hTT] at hT ⊢
  clear h hG hq hTT
  go_enter Try.func16, Try.ntmps16
  go_wp2_with fail
  (with_reducible refine C1.out.mono ?_); rintro e w2 ⟨⟨v, rfl, ho⟩, hb2⟩
  obtain ⟨fa, fc, rfl⟩ := own_slice ho
  have HO := Lib.hid ho
  clear ho
  go_wp2_with fail
  go_loopw [9, 3, 5] (fun i s _ wr => ∃ k m : Nat, k ≤ q ∧ i = .int .i64 (k : Nat) ∧ s = .int .i64 (m : Nat) ∧ Hid (m = total (F.files.take k)) ∧ wr = w2) (fun i _ _ _ => q - (intOf i).toNat)
  case atStart => exact ⟨0, 0, Nat.zero_le _, rfl, rfl, Lib.hid rfl, rfl⟩
  case round =>
    obtain ⟨k, m, hkq, rfl, rfl, hm, hw⟩ := hrel
    subst hw
    have hmT : m ≤ T := by rw [hm.out, HT.out]; exact total_le _ _
    by_cases hlt : k < q
    · obtain ⟨x, hx⟩ := get_of_lt F.files k (by rw [← HQ.out]; exact hlt)
      obtain ⟨g, cap, he, hg⟩ : ∃ g cap, fa = some ⟨g, 0, none⟩ ∧ wr.cell? ⟨g, k, none⟩ = some (.int .i64 ((x.pl.size + x.air.size : Nat) : Int)) ∧ cap = 0 := by
        rcases HO.out.2 with ⟨he, h0⟩ | ⟨g, cap, cur, he, _⟩
        · omega
        · injection he with e1 e2 e3
          subst e1
          refine ⟨g, 0, rfl, ?_, rfl⟩
          rw [HO.out.cellAt k (by omega), List.getElem?_map, hx]; rfl
      obtain ⟨hcell, _⟩ := hg
      subst he
      have hs := total_take F.files k x hx
      obtain ⟨z, hz⟩ : ∃ z, z = x.pl.size + x.air.size := ⟨_, rfl⟩
      rw [← hz] at hs hcell
      have hmz : m + z ≤ T := by rw [hm.out, ← hs, HT.out]; exact total_le _ _
      have HS := Lib.hid hs
      clear hs hz hx
      go_wp2_with fail
      go_roundw
      case rel => exact ⟨k + 1, m + z, by omega, by go_num, by go_num, Lib.hid (by rw [HS.out, hm.out]), trivial⟩
      case measure => simp [intOf]; omega
    · obtain rfl : k = q := by omega
      go_wp2_with fail
      go_ret
      refine ⟨?_, hb2⟩
      have : m = T := by rw [hm.out, HT.out, List.take_of_length_le (by rw [HQ.out]; exact Nat.le_refl _)]
      rw [this]; rfl
end Go.Proofs.Ytmoaecicibjmnaa
