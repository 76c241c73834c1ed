/- slices.BinarySearchFunc over files, (*FS).at. -/
import Derived.Test.YtmoaecicibjmnaaFC
namespace Go.Proofs.Ytmoaecicibjmnaa
open Go.RowKit

theorem own_files {w : World} {v : Value} {L : List PF} (h : w.ownsRow 0 82 3 v L.length (cs L)) (hne : L ≠ []) :
    ∃ g cap, v = .slice (some ⟨g, 0, none⟩) L.length cap ∧ L.length ≤ cap ∧ cap ≤ maxLen ∧ g < w.heap.size ∧
      (∀ i x, L[i]? = some x → w.cell? ⟨g, i * 3, none⟩ = some (.string x.name) ∧ w.cell? ⟨g, i * 3 + 1, none⟩ = some (.string x.pl) ∧ w.cell? ⟨g, i * 3 + 2, none⟩ = some (.string x.air)) ∧ ∀ j, w.frozen? ⟨g, j, none⟩ = false := by
  rcases h.2 with ⟨_, h0⟩ | ⟨g, cap, cur, rfl, hB, hg, h1, h2, h3, h4⟩
  · exact absurd (List.eq_nil_of_length_eq_zero h0) hne
  · refine ⟨g, cap, rfl, h1, h2, (Array.getElem?_eq_some_iff.1 hg).1, fun i x hx => ?_, fun j => h.frozenAt j⟩
    have hi := (List.getElem?_eq_some_iff.1 hx).1
    have e := fun k hk => (h.cellAt (i * 3 + k) (by omega)).trans (cs_get L i x hx k hk)
    exact ⟨e 0 (by omega), e 1 (by omega), e 2 (by omega)⟩
theorem rising_get {L : List PF} (h : Rising L) {i j : Nat} (hij : i < j) {y x : PF} (hy : L[i]? = some y) (hx : L[j]? = some x) : ltN y.name x.name = true := by
  obtain ⟨h1, rfl⟩ := List.getElem?_eq_some_iff.1 hy
  obtain ⟨h2, rfl⟩ := List.getElem?_eq_some_iff.1 hx
  exact List.pairwise_iff_getElem.1 h i j h1 h2 hij
theorem get_of_lt (L : List PF) (i : Nat) (h : i < L.length) : ∃ x, L[i]? = some x := ⟨L[i], List.getElem?_eq_getElem h⟩

set_option maxHeartbeats 2000000 in
set_option maxRecDepth 100000 in
theorem search_any (w : World) (v : Value) (L : List PF) (n : ByteArray) (hown : w.ownsRow 0 82 3 v L.length (cs L)) (hr : Rising L) (hl : L.length ≤ 1000) :
    Calls Try.prog 92 #[v, .string n, .func (.func 93) #[] #[]] w fun e w' =>
      e = .returned (.tuple #[.int .i64 (place L n : Nat), .bool (isAt L n)]) ∧ Below w.heap.size w w' := by
  have HR := Lib.hid hr
  have C1 : ∀ (x : PF) (w1 : World), Hid (Calls Try.prog 93 #[x.val, .string n] w1 fun e w' => e = .returned (.int .i64 (cmpN x.name n)) ∧ Below w1.heap.size w1 w') := fun x w1 => Lib.hid (at1_any x n w1)
  clear hr
  by_cases hne : L = []
  · obtain ⟨a, cp, rfl⟩ : ∃ a cp, v = .slice a 0 cp := by
      subst hne
      rcases hown.2 with ⟨rfl, _⟩ | ⟨g, cap, cur, rfl, _⟩
      · exact ⟨_, _, rfl⟩
      · exact ⟨_, _, rfl⟩
    subst hne
    rw [show place [] n = 0 from rfl, show isAt [] n = false from rfl]
    clear hown
    go_enter Try.func92, Try.ntmps92
    go_wp2_with fail
    go_loopw [9, 10, 11] (fun i j _ wr => i = .int .i64 0 ∧ j = .int .i64 0 ∧ wr = w) (fun _ _ _ _ => 0)
    case atStart => exact ⟨rfl, rfl, rfl⟩
    case round =>
      obtain ⟨rfl, rfl, rfl⟩ := hrel
      go_wp2_with fail
      go_ret2
      exact ⟨rfl, Below.refl _ _⟩
  · obtain ⟨g, cap, rfl, h1, h2, hg, hc, hf⟩ := own_files hown hne
    have HC := Lib.hid hc
    obtain ⟨q, hq⟩ : ∃ q, q = L.length := ⟨_, rfl⟩
    have HQ := Lib.hid hq
    have hq0 : 0 < q := by rw [hq]; exact Nat.pos_of_ne_zero (fun e => hne (List.eq_nil_of_length_eq_zero e))
    rw [← hq] at hl h1 ⊢
    unfold maxLen at h2
    clear hq hc hne hown
    go_enter Try.func92, Try.ntmps92
    go_wp2_with fail
    go_loopw [9, 10, 11] (fun i j _ wr => ∃ a c : Nat, a ≤ c ∧ c ≤ q ∧ i = .int .i64 (a : Nat) ∧ j = .int .i64 (c : Nat) ∧ Hid ((∀ t x, t < a → L[t]? = some x → ltN x.name n = true) ∧ (∀ x, L[c]? = some x → ltN x.name n = false)) ∧ Below w.heap.size w wr) (fun i j _ _ => (intOf j).toNat - (intOf i).toNat)
    case atStart => exact ⟨0, q, Nat.zero_le _, Nat.le_refl _, rfl, rfl, Lib.hid ⟨fun t x ht => by omega, fun x hx => by rw [HQ.out, List.getElem?_eq_none (Nat.le_refl _)] at hx; cases hx⟩, Below.refl _ _⟩
    case round =>
      obtain ⟨a, c, hac, hcq, rfl, rfl, HI, hbel⟩ := hrel
      by_cases hlt : a < c
      · obtain ⟨x, hx⟩ := get_of_lt L ((a + c) / 2) (by rw [← HQ.out]; omega)
        obtain ⟨d0, d1, d2⟩ := HC.out _ x hx
        rw [← hbel.cell (p := ⟨g, (a + c) / 2 * 3, none⟩) hg] at d0
        rw [← hbel.cell (p := ⟨g, (a + c) / 2 * 3 + 1, none⟩) hg] at d1
        rw [← hbel.cell (p := ⟨g, (a + c) / 2 * 3 + 2, none⟩) hg] at d2
        have HX := Lib.hid hx
        have hcm := cmpN_lt x.name n
        obtain ⟨z, hz⟩ : ∃ z, z = cmpN x.name n := ⟨_, rfl⟩
        have C2 : ∀ w1 : World, Hid (Calls Try.prog 93 #[x.val, .string n] w1 fun e w' => e = .returned (.int .i64 z) ∧ Below w1.heap.size w1 w') := by rw [hz]; exact fun w1 => C1 x w1
        rw [← hz] at hcm
        have HCM := Lib.hid hcm
        clear hx hcm hz
        by_cases hlz : z < 0
        · go_wp2_with fail
          (with_reducible refine (C2 _).out.mono ?_); rintro e w2 ⟨rfl, hb2⟩
          go_wp2_with fail
          go_roundw
          case rel =>
            refine ⟨(a + c) / 2 + 1, c, by omega, hcq, by go_num, rfl, Lib.hid ⟨fun t y ht hy => ?_, HI.out.2⟩, below_tr hbel hb2⟩
            have hxn : ltN x.name n = true := by rw [← HCM.out, decide_eq_true hlz]
            by_cases e : t = (a + c) / 2
            · subst e
              rw [HX.out] at hy
              cases hy
              exact hxn
            · exact ltN_trans (rising_get HR.out (by omega) hy HX.out) hxn
          case measure => simp [intOf]; omega
        · go_wp2_with fail
          (with_reducible refine (C2 _).out.mono ?_); rintro e w2 ⟨rfl, hb2⟩
          go_wp2_with fail
          go_roundw
          case rel =>
            refine ⟨a, (a + c) / 2, by omega, by omega, rfl, by go_num, Lib.hid ⟨HI.out.1, fun y hy => ?_⟩, below_tr hbel hb2⟩
            rw [HX.out] at hy
            cases hy
            rw [← HCM.out, decide_eq_false (by omega)]
          case measure => simp [intOf]; omega
      · obtain rfl : a = c := by omega
        have hpl := place_eq L n a (by rw [← HQ.out]; exact hcq) HI.out.1 HI.out.2
        have HP := Lib.hid hpl
        clear hpl
        by_cases haq : a < q
        · obtain ⟨x, hx⟩ := get_of_lt L a (by rw [← HQ.out]; exact haq)
          obtain ⟨d0, d1, d2⟩ := HC.out _ x hx
          rw [← hbel.cell (p := ⟨g, a * 3, none⟩) hg] at d0
          rw [← hbel.cell (p := ⟨g, a * 3 + 1, none⟩) hg] at d1
          rw [← hbel.cell (p := ⟨g, a * 3 + 2, none⟩) hg] at d2
          have hat : isAt L n = (cmpN x.name n == 0) := by unfold isAt; rw [HP.out, hx, cmpN_eq]
          obtain ⟨z, hz⟩ : ∃ z, z = cmpN x.name n := ⟨_, rfl⟩
          have C2 : ∀ w1 : World, Hid (Calls Try.prog 93 #[x.val, .string n] w1 fun e w' => e = .returned (.int .i64 z) ∧ Below w1.heap.size w1 w') := by rw [hz]; exact fun w1 => C1 x w1
          rw [← hz] at hat
          have HAT := Lib.hid hat
          clear hx hat hz
          go_wp2_with fail
          (with_reducible refine (C2 _).out.mono ?_); rintro e w2 ⟨rfl, hb2⟩
          go_wp2_with fail
          go_ret2
          refine ⟨?_, below_tr hbel hb2⟩
          rw [HP.out, HAT.out]
          rfl
        · obtain rfl : a = q := by omega
          have hat : isAt L n = false := by unfold isAt; rw [HP.out, HQ.out, List.getElem?_eq_none (Nat.le_refl _)]
          have HAT := Lib.hid hat
          clear hat
          go_wp2_with fail
          go_ret2
          refine ⟨?_, hbel⟩
          rw [HP.out, HAT.out]
          rfl
def total (L : List PF) : Nat := (L.map fun x => x.pl.size + x.air.size).sum
/-- What holds of a file system that the program keeps. -/
structure Sound (F : FR) : Prop where
  lim1 : 1 ≤ F.limit
  lim2 : F.limit ≤ 1048576
  cnt : F.files.length ≤ 32
  asc : Rising F.files
  nam : ∀ x ∈ F.files, 1 ≤ x.name.size ∧ x.name.size ≤ 16
  sum : (total F.files : Int) ≤ F.limit
  lf : F.left ≤ 9223372036854775807
  kl : F.keep.length ≤ 9223372036854775807
theorem mem_sum : ∀ (L : List PF) (x : PF), x ∈ L → x.pl.size + x.air.size ≤ total L
  | y :: L, x, h => by
    unfold total at *; rw [List.map_cons, List.sum_cons]
    rcases List.mem_cons.1 h with rfl | h
    · omega
    · have := mem_sum L x h; unfold total at this; omega
theorem Sound.size {F : FR} (h : Sound F) {x : PF} (hx : x ∈ F.files) : x.pl.size + x.air.size ≤ 1048576 := by
  have h1 := mem_sum F.files x hx
  have h2 := h.sum
  have h3 := h.lim2
  omega
theorem Sound.lim {F : FR} (h : Sound F) : F.limit ≠ 0 := by have := h.lim1; omega
set_option maxRecDepth 100000 in
theorem at_any {M : Nat → Prop} {w : World} {b : Nat} {F : FR} (h : FSAt M w b F) (hG : Sound F) (n : ByteArray) :
    Calls Try.prog 55 #[.pointer (some ⟨b, 0, none⟩), .string n] w fun e w' =>
      e = .returned (.tuple #[.int .i64 (place F.files n : Nat), .bool (isAt F.files n)]) ∧ Below w.heap.size w w' := by
  obtain ⟨fv, kv, h⟩ := h
  have c3 := h.box.c3
  have C1 := Lib.hid (search_any w fv F.files n h.own hG.asc (by have := hG.cnt; omega))
  clear h hG
  go_enter Try.func55, Try.ntmps55
  go_wp2_with fail
  (with_reducible refine C1.out.mono ?_); rintro e w2 ⟨rfl, hb2⟩
  go_wp2_with fail
  go_ret2
  exact ⟨rfl, hb2⟩
end Go.Proofs.Ytmoaecicibjmnaa
