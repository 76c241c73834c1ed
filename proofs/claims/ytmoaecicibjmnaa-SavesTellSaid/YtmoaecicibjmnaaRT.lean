/- The document's saves. -/
import Derived.Test.YtmoaecicibjmnaaRQ
import Derived.BigQuiet
import Derived.Laws.Cover1
namespace Go.Proofs.Ytmoaecicibjmnaa
open Go.RowKit

set_option maxRecDepth 100000 in
theorem ron_any {M : Nat → Prop} {w : World} {b : Nat} {F : FR} (h : RAt M w b F) :
    Calls Try.prog 87 #[.pointer (some ⟨b, 0, none⟩)] w fun e w' => e = .returned (.int .i64 (onE F)) ∧ w' = w := by
  obtain ⟨fv, kv, L, h, _⟩ := h
  have c2 := h.box.c2
  unfold onE
  by_cases ho : F.off = true
  · rw [if_pos ho]
    rw [ho] at c2
    clear ho h
    go_enter Try.func87, Try.ntmps87
    go_wp2_with fail
    go_ret
    exact ⟨rfl, rfl⟩
  · rw [if_neg ho]
    have ho' : F.off = false := by cases e : F.off; rfl; exact absurd e ho
    rw [ho'] at c2
    clear ho ho' h
    go_enter Try.func87, Try.ntmps87
    go_wp2_with fail
    go_ret
    exact ⟨rfl, rfl⟩
theorem eq_draft (n : ByteArray) : (n.toList == [126]) = decide (n = ⟨#[126]⟩) := by
  have h : (⟨#[126]⟩ : ByteArray).toList = [126] := by rw [ByteArray.toList_eq]
  have h2 := toList_beq n ⟨#[126]⟩
  rw [h] at h2
  exact h2
theorem clean_cases (F : FR) : (F.off = true ∧ cleanE F = 51 ∧ removeF F dN = F) ∨ (F.off = false ∧ isAt F.files dN = false ∧ cleanE F = 0 ∧ removeF F dN = F) ∨ (F.off = false ∧ isAt F.files dN = true ∧ cleanE F = strokeE F dN) := by
  unfold cleanE
  cases ho : F.off with
  | true =>
    have hz : hasE F dN = 51 := by unfold hasE; rw [if_pos ho]
    have hs : strokeE F dN = 51 := by unfold strokeE; rw [hz]; rfl
    refine .inl ⟨rfl, by rw [hs]; rfl, ?_⟩
    unfold removeF; rw [hz]; rfl
  | false =>
    cases hi : isAt F.files dN with
    | false =>
      have hz : hasE F dN = 4 := by unfold hasE; rw [if_neg (by rw [ho]; decide), if_neg (by rw [hi]; decide)]
      have hs : strokeE F dN = 4 := by unfold strokeE; rw [hz]; rfl
      refine .inr (.inl ⟨rfl, rfl, by rw [hs]; rfl, ?_⟩)
      unfold removeF; rw [hz]; rfl
    | true =>
      have hz : hasE F dN = 0 := by unfold hasE; rw [if_neg (by rw [ho]; decide), if_pos hi]
      refine .inr (.inr ⟨rfl, rfl, ?_⟩)
      unfold strokeE; rw [if_pos hz]; split <;> rfl
set_option maxRecDepth 100000 in
set_option maxHeartbeats 4000000 in
theorem rclean_any {M : Nat → Prop} {b : Nat} {F : FR} (w : World) (h : RAt M w b F) (hG : Sound F) (hkl : F.keep.length ≤ 1000000) :
    Calls Try.prog 43 #[.pointer (some ⟨b, 0, none⟩)] w fun e w' => e = .returned (.int .i64 (cleanE F)) ∧ RTurned M w w' b (removeF F dN) := by
  have C1 := ron_any h
  have C2 := rplace_any h hG dN
  have H := Lib.hid h
  rcases clean_cases F with ⟨ho, e1, e2⟩ | ⟨ho, hi, e1, e2⟩ | ⟨ho, hi, e1⟩
  · rw [onE, if_pos ho] at C1
    rw [e1, e2]
    have C1 := Lib.hid C1
    clear ho e1 e2 C2 h hG
    go_enter Try.func43, Try.ntmps43
    go_wp2_with fail
    (with_reducible refine C1.out.mono ?_); rintro e w1 ⟨rfl, rfl⟩
    go_wp2_with fail
    go_ret
    exact ⟨rfl, RTurned.below H.out (Below.refl _ _)⟩
  · rw [onE, if_neg (by rw [ho]; decide)] at C1
    have ep : placeI F dN = -1 := by unfold placeI; rw [if_neg (by rw [hi]; decide)]
    rw [ep] at C2
    rw [e1, e2]
    have C1 := Lib.hid C1
    have C2 := Lib.hid C2
    clear ho hi e1 e2 ep h hG
    go_enter Try.func43, Try.ntmps43
    go_wp2_with fail
    (with_reducible refine C1.out.mono ?_); rintro e w1 ⟨rfl, rfl⟩
    go_wp2_with fail
    (with_reducible refine C2.out.mono ?_); rintro e w2 ⟨rfl, hb2⟩
    go_wp2_with fail
    go_ret
    exact ⟨rfl, RTurned.below H.out hb2⟩
  · rw [onE, if_neg (by rw [ho]; decide)] at C1
    have ep : placeI F dN = ((place F.files dN : Nat) : Int) := by unfold placeI; rw [if_pos hi]
    rw [ep] at C2
    have hk : decide ((0 : Int) ≤ ((place F.files dN : Nat) : Int)) = true := decide_eq_true (by omega)
    have hk2 : (0 : Int) ≤ ((place F.files dN : Nat) : Int) := by omega
    rw [e1]
    have C3 := fun wx hb => Lib.hid (rremove_any wx (h.below hb) hG hkl dN)
    have C1 := Lib.hid C1
    have C2 := Lib.hid C2
    generalize removeF F dN = R at *
    generalize strokeE F dN = E at *
    generalize place F.files dN = k at *
    clear ho hi e1 ep h hG
    go_enter Try.func43, Try.ntmps43
    go_wp2_with fail
    (with_reducible refine C1.out.mono ?_); rintro e w1 ⟨rfl, rfl⟩
    go_wp2_with fail
    (with_reducible refine C2.out.mono ?_); rintro e w2 ⟨rfl, hb2⟩
    have C4 := C3 w2 hb2
    clear C3
    go_wp2_with fail
    (with_reducible refine C4.out.mono ?_); rintro e w3 ⟨rfl, ht⟩
    have HT := Lib.hid ht
    clear ht
    go_wp2_with fail
    go_ret
    exact ⟨rfl, RTurned.trans (fun k hk => .inl hk) (Out.of_below hb2) HT.out⟩
theorem bad_cases (n : ByteArray) : (badN n ∧ namedB n = false) ∨ (badN n ∧ namedB n = true ∧ n = dN) ∨ (¬ badN n ∧ namedB n = true ∧ n ≠ dN) := by
  by_cases hb : badN n
  · cases hn : namedB n with
    | false => exact .inl ⟨hb, rfl⟩
    | true =>
      refine .inr (.inl ⟨hb, rfl, ?_⟩)
      rcases hb with h | h | h
      · exfalso; unfold namedB at hn; simp at hn; omega
      · exfalso; unfold namedB at hn; simp at hn; omega
      · exact h
  · exact .inr (.inr ⟨hb, (good_name hb).1, (good_name hb).2⟩)
theorem read_off {F : FR} {n : ByteArray} (h : hasE F n ≠ 0) : readS F n = ⟨#[]⟩ := by unfold readS; rw [if_neg h]; rfl
set_option maxRecDepth 100000 in
set_option maxHeartbeats 4000000 in
theorem rload_any {M : Nat → Prop} {b : Nat} {F : FR} (w : World) (h : RAt M w b F) (hG : Sound F) (n : ByteArray) (hn : n.size ≤ 9223372036854775807) :
    Calls Try.prog 42 #[.pointer (some ⟨b, 0, none⟩), .string n] w fun e w' => e = .returned (.tuple #[.string (loadS F n), .int .i64 (loadE F n)]) ∧ Below w.heap.size w w' := by
  have C1 := ron_any h
  have C2 := Lib.hid (rname_any n w hn)
  have C3 := Lib.hid (rread_any h hG n)
  have hd := eq_draft n
  unfold loadS loadE
  by_cases ho : F.off = true
  · rw [onE, if_pos ho] at C1
    rw [if_pos ho, if_neg (by decide)]
    have C1 := Lib.hid C1
    clear ho h hG hd C2 C3
    go_enter Try.func42, Try.ntmps42
    go_wp2_with fail
    (with_reducible refine C1.out.mono ?_); rintro e w1 ⟨rfl, rfl⟩
    go_wp2_with fail
    go_ret2
    exact ⟨rfl, Below.refl _ _⟩
  · rw [onE, if_neg ho] at C1
    rw [if_neg ho]
    have C1 := Lib.hid C1
    rcases bad_cases n with ⟨hb, hnm⟩ | ⟨hb, hnm, he⟩ | ⟨hb, hnm, he⟩
    · rw [if_pos hb, if_neg (by decide)]
      rw [hnm] at C2
      clear ho h hG hd hb hnm C3
      go_enter Try.func42, Try.ntmps42
      go_wp2_with fail
      (with_reducible refine C1.out.mono ?_); rintro e w1 ⟨rfl, rfl⟩
      go_wp2_with fail
      (with_reducible refine C2.out.mono ?_); rintro e w1 ⟨rfl, rfl⟩
      go_wp2_with fail
      go_ret2
      exact ⟨rfl, Below.refl _ _⟩
    · rw [if_pos hb, if_neg (by decide)]
      rw [hnm] at C2
      rw [decide_eq_true he] at hd
      clear ho h hG hb hnm he C3
      go_enter Try.func42, Try.ntmps42
      go_wp2_with fail
      (with_reducible refine C1.out.mono ?_); rintro e w1 ⟨rfl, rfl⟩
      go_wp2_with fail
      (with_reducible refine C2.out.mono ?_); rintro e w1 ⟨rfl, rfl⟩
      go_wp2_with fail
      go_ret2
      exact ⟨rfl, Below.refl _ _⟩
    · rw [if_neg hb]
      rw [hnm] at C2
      rw [decide_eq_false he] at hd
      have HS : Hid (readS F n = if hasE F n = 0 then readS F n else ⟨#[]⟩) := Lib.hid (by split; rfl; rename_i h0; exact read_off h0)
      clear ho h hG hb hnm he
      rw [← HS.out]
      clear HS
      generalize readS F n = S at *
      generalize hasE F n = E at *
      go_enter Try.func42, Try.ntmps42
      go_wp2_with fail
      (with_reducible refine C1.out.mono ?_); rintro e w1 ⟨rfl, rfl⟩
      go_wp2_with fail
      (with_reducible refine C2.out.mono ?_); rintro e w1 ⟨rfl, rfl⟩
      go_wp2_with fail
      (with_reducible refine C3.out.mono ?_); rintro e w2 ⟨rfl, hb2⟩
      go_wp2_with fail
      go_ret2
      exact ⟨rfl, hb2⟩
theorem save_good {F : FR} (ho : F.off = false) {n : ByteArray} (hn : ¬ badN n) (t : ByteArray) :
    saveE F n t = (if cleanE F ≠ 0 then cleanE F else if appE (wF3 F) dN t ≠ 0 then appE (wF3 F) dN t else if strokeE (wF4 F t) dN ≠ 0 then strokeE (wF4 F t) dN else renE (wF5 F t) dN n) ∧
    saveF F n t = (if cleanE F ≠ 0 then wF3 F else if appE (wF3 F) dN t ≠ 0 then wF4 F t else if strokeE (wF4 F t) dN ≠ 0 then wF5 F t else wF6 F n t) := by
  have h0 : wE F n t 0 = 0 := by show onE F = 0; rw [onE, if_neg (by rw [ho]; decide)]
  have h1 : wE F n t 1 = 0 := by show nameE n = 0; rw [nameE, if_neg hn]
  unfold saveE saveF
  rw [h0, h1]
  refine ⟨?_, ?_⟩
  · rw [if_neg (by decide), if_neg (by decide)]
    rfl
  · rw [if_neg (by decide), if_neg (by decide)]
    rfl
theorem wF3_keep (F : FR) {m : Nat} (h : F.keep.length ≤ m) : (wF3 F).keep.length ≤ m := by
  have := with_keep F ⟨7, dN, tx [], tx [], 0, []⟩
  rcases this with e | e
  · show (withF F ⟨7, dN, tx [], tx [], 0, []⟩).keep.length ≤ m; rw [e]; exact h
  · show (withF F ⟨7, dN, tx [], tx [], 0, []⟩).keep.length ≤ m; rw [e]; exact Nat.zero_le _
theorem wF4_keep (F : FR) (t : ByteArray) {m : Nat} (h : F.keep.length ≤ m) : (wF4 F t).keep.length ≤ m := by
  rcases with_keep (wF3 F) ⟨0, dN, tx [], t, 0, []⟩ with e | e
  · show (withF (wF3 F) ⟨0, dN, tx [], t, 0, []⟩).keep.length ≤ m; rw [e]; exact wF3_keep F h
  · show (withF (wF3 F) ⟨0, dN, tx [], t, 0, []⟩).keep.length ≤ m; rw [e]; exact Nat.zero_le _
theorem wF5_keep (F : FR) (t : ByteArray) {m : Nat} (h : F.keep.length ≤ m) : (wF5 F t).keep.length ≤ m := by
  rcases with_keep (wF4 F t) ⟨3, dN, tx [], tx [], 0, []⟩ with e | e
  · show (withF (wF4 F t) ⟨3, dN, tx [], tx [], 0, []⟩).keep.length ≤ m; rw [e]; exact wF4_keep F t h
  · show (withF (wF4 F t) ⟨3, dN, tx [], tx [], 0, []⟩).keep.length ≤ m; rw [e]; exact Nat.zero_le _
theorem wF6_keep (F : FR) (n t : ByteArray) {m : Nat} (h : F.keep.length ≤ m) : (wF6 F n t).keep.length ≤ m := by
  rcases with_keep (wF5 F t) ⟨6, dN, n, tx [], 0, []⟩ with e | e
  · show (withF (wF5 F t) ⟨6, dN, n, tx [], 0, []⟩).keep.length ≤ m; rw [e]; exact wF5_keep F t h
  · show (withF (wF5 F t) ⟨6, dN, n, tx [], 0, []⟩).keep.length ≤ m; rw [e]; exact Nat.zero_le _
theorem saved_keep (F : FR) (n t : ByteArray) {m : Nat} (h : F.keep.length ≤ m) : (saveF F n t).keep.length ≤ m := by
  unfold saveF
  split; exact h
  split; exact h
  split; exact wF3_keep F h
  split; exact wF4_keep F t h
  split; exact wF5_keep F t h
  exact wF6_keep F n t h
set_option maxRecDepth 100000 in
set_option maxHeartbeats 8000000 in
theorem rwrite_any {M : Nat → Prop} {b : Nat} {F : FR} (w : World) (h : RAt M w b F) (hG : Sound F) (hkl : F.keep.length ≤ 1000000) (n t : ByteArray) (hn : n.size ≤ 1000000) (ht : t.size ≤ 1000000) :
    Calls Try.prog 44 #[.pointer (some ⟨b, 0, none⟩), .string n, .string t] w fun e w' => e = .returned (.int .i64 (saveE F n t)) ∧ RTurned M w w' b (saveF F n t) := by
  have C1 := ron_any h
  have C2 := Lib.hid (rname_any n w (by omega))
  have hd := eq_draft n
  have H := Lib.hid h
  by_cases ho : F.off = true
  · have e1 : saveE F n t = 51 := by unfold saveE; rw [show wE F n t 0 = 51 by show onE F = 51; rw [onE, if_pos ho]]; rfl
    have e2 : saveF F n t = F := by unfold saveF; rw [show wE F n t 0 = 51 by show onE F = 51; rw [onE, if_pos ho]]; rfl
    rw [onE, if_pos ho] at C1
    rw [e1, e2]
    have C1 := Lib.hid C1
    clear ho h hG hd C2 e1 e2
    go_enter Try.func44, Try.ntmps44
    go_wp2_with fail
    (with_reducible refine C1.out.mono ?_); rintro e w1 ⟨rfl, rfl⟩
    go_wp2_with fail
    go_ret
    exact ⟨rfl, RTurned.below H.out (Below.refl _ _)⟩
  · have ho' : F.off = false := by cases e : F.off; rfl; exact absurd e ho
    rw [onE, if_neg ho] at C1
    have C1 := Lib.hid C1
    rcases bad_cases n with ⟨hb, hnm⟩ | ⟨hb, hnm, he⟩ | ⟨hb, hnm, he⟩
    · obtain ⟨e1, e2⟩ := save_bad ho' hb t
      rw [e1, e2]
      rw [hnm] at C2
      clear ho ho' h hG hd hb hnm e1 e2
      go_enter Try.func44, Try.ntmps44
      go_wp2_with fail
      (with_reducible refine C1.out.mono ?_); rintro e w1 ⟨rfl, rfl⟩
      go_wp2_with fail
      (with_reducible refine C2.out.mono ?_); rintro e w1 ⟨rfl, rfl⟩
      go_wp2_with fail
      go_ret
      exact ⟨rfl, RTurned.below H.out (Below.refl _ _)⟩
    · obtain ⟨e1, e2⟩ := save_bad ho' hb t
      rw [e1, e2]
      rw [hnm] at C2
      rw [decide_eq_true he] at hd
      clear ho ho' h hG hb hnm he e1 e2
      go_enter Try.func44, Try.ntmps44
      go_wp2_with fail
      (with_reducible refine C1.out.mono ?_); rintro e w1 ⟨rfl, rfl⟩
      go_wp2_with fail
      (with_reducible refine C2.out.mono ?_); rintro e w1 ⟨rfl, rfl⟩
      go_wp2_with fail
      go_ret
      exact ⟨rfl, RTurned.below H.out (Below.refl _ _)⟩
    · obtain ⟨e1, e2⟩ := save_good ho' hb t
      rw [e1, e2]
      rw [hnm] at C2
      rw [decide_eq_false he] at hd
      have C3 := Lib.hid (rclean_any w h hG hkl)
      have C4 : ∀ (M3 : Nat → Prop) (w3 : World), RAt M3 w3 b (wF3 F) → Hid (Calls Try.prog 70 #[.pointer (some ⟨b, 0, none⟩), .string dN, .string t] w3 fun e w' => e = .returned (.int .i64 (appE (wF3 F) dN t)) ∧ RTurned M3 w3 w' b (wF4 F t)) := fun M3 w3 h3 => Lib.hid (rappend_any w3 h3 hG.w3 (wF3_keep F hkl) dN t (by decide +kernel) ht)
      have C5 : ∀ (M3 : Nat → Prop) (w3 : World), RAt M3 w3 b (wF4 F t) → Hid (Calls Try.prog 63 #[.pointer (some ⟨b, 0, none⟩), .string dN] w3 fun e w' => e = .returned (.int .i64 (strokeE (wF4 F t) dN)) ∧ RTurned M3 w3 w' b (wF5 F t)) := fun M3 w3 h3 => Lib.hid (rsync_any w3 h3 (hG.w4 t) (wF4_keep F t hkl) dN)
      have C6 : ∀ (M3 : Nat → Prop) (w3 : World), RAt M3 w3 b (wF5 F t) → Hid (Calls Try.prog 65 #[.pointer (some ⟨b, 0, none⟩), .string dN, .string n] w3 fun e w' => e = .returned (.int .i64 (renE (wF5 F t) dN n)) ∧ RTurned M3 w3 w' b (wF6 F n t)) := fun M3 w3 h3 => Lib.hid (rrename_any w3 h3 (hG.w5 t) (wF5_keep F t hkl) dN n (by omega))
      clear e1 e2 ho ho' h hG hb hnm he H
      change Hid (Calls _ _ _ _ fun e w' => _ ∧ RTurned M w w' b (wF3 F)) at C3
      generalize wF6 F n t = F6 at *
      generalize renE (wF5 F t) dN n = E5 at *
      generalize strokeE (wF4 F t) dN = E4 at *
      generalize appE (wF3 F) dN t = E3 at *
      generalize cleanE F = E2 at *
      generalize wF5 F t = F5 at *
      generalize wF4 F t = F4 at *
      generalize wF3 F = F3 at *
      by_cases h2 : E2 = 0
      · subst h2
        rw [if_neg (show ¬ ((0 : Int) ≠ 0) from fun h => h rfl), if_neg (show ¬ ((0 : Int) ≠ 0) from fun h => h rfl)]
        by_cases h3 : E3 = 0
        · subst h3
          rw [if_neg (show ¬ ((0 : Int) ≠ 0) from fun h => h rfl), if_neg (show ¬ ((0 : Int) ≠ 0) from fun h => h rfl)]
          by_cases h4 : E4 = 0
          · subst h4
            rw [if_neg (show ¬ ((0 : Int) ≠ 0) from fun h => h rfl), if_neg (show ¬ ((0 : Int) ≠ 0) from fun h => h rfl)]
            go_enter Try.func44, Try.ntmps44
            go_wp2_with fail
            (with_reducible refine C1.out.mono ?_); rintro e w1 ⟨rfl, rfl⟩
            go_wp2_with fail
            (with_reducible refine C2.out.mono ?_); rintro e w1 ⟨rfl, rfl⟩
            go_wp2_with fail
            (with_reducible refine C3.out.mono ?_); rintro e w3 ⟨rfl, M3, h3, hM3, ho3⟩
            have D4 := C4 M3 w3 h3
            have HT3 := Lib.hid (And.intro hM3 ho3)
            clear h3 hM3 ho3 C4 C3
            go_wp2_with fail
            (with_reducible refine D4.out.mono ?_); rintro e w4 ⟨rfl, M4, h4, hM4, ho4⟩
            have D5 := C5 M4 w4 h4
            have HT4 := Lib.hid (And.intro hM4 ho4)
            clear h4 hM4 ho4 C5 D4
            go_wp2_with fail
            (with_reducible refine D5.out.mono ?_); rintro e w5 ⟨rfl, M5, h5, hM5, ho5⟩
            have D6 := C6 M5 w5 h5
            have HT5 := Lib.hid (And.intro hM5 ho5)
            clear h5 hM5 ho5 C6 D5
            go_wp2_with fail
            (with_reducible refine D6.out.mono ?_); rintro e w6 ⟨rfl, ht6⟩
            have HT6 := Lib.hid ht6
            clear ht6
            go_wp2_with fail
            go_ret
            exact ⟨rfl, RTurned.trans HT3.out.1 HT3.out.2 (RTurned.trans HT4.out.1 HT4.out.2 (RTurned.trans HT5.out.1 HT5.out.2 HT6.out))⟩
          · rw [if_pos h4, if_pos h4]
            have h4' : (E4 == 0) = false := by simpa using h4
            clear h4 C6
            go_enter Try.func44, Try.ntmps44
            go_wp2_with fail
            (with_reducible refine C1.out.mono ?_); rintro e w1 ⟨rfl, rfl⟩
            go_wp2_with fail
            (with_reducible refine C2.out.mono ?_); rintro e w1 ⟨rfl, rfl⟩
            go_wp2_with fail
            (with_reducible refine C3.out.mono ?_); rintro e w3 ⟨rfl, M3, h3, hM3, ho3⟩
            have D4 := C4 M3 w3 h3
            have HT3 := Lib.hid (And.intro hM3 ho3)
            clear h3 hM3 ho3 C4 C3
            go_wp2_with fail
            (with_reducible refine D4.out.mono ?_); rintro e w4 ⟨rfl, M4, h4, hM4, ho4⟩
            have D5 := C5 M4 w4 h4
            have HT4 := Lib.hid (And.intro hM4 ho4)
            clear h4 hM4 ho4 C5 D4
            go_wp2_with fail
            (with_reducible refine D5.out.mono ?_); rintro e w5 ⟨rfl, ht5⟩
            have HT5 := Lib.hid ht5
            clear ht5
            go_wp2_with fail
            go_ret
            exact ⟨rfl, RTurned.trans HT3.out.1 HT3.out.2 (RTurned.trans HT4.out.1 HT4.out.2 HT5.out)⟩
        · rw [if_pos h3, if_pos h3]
          have h3' : (E3 == 0) = false := by simpa using h3
          clear h3 C5 C6
          go_enter Try.func44, Try.ntmps44
          go_wp2_with fail
          (with_reducible refine C1.out.mono ?_); rintro e w1 ⟨rfl, rfl⟩
          go_wp2_with fail
          (with_reducible refine C2.out.mono ?_); rintro e w1 ⟨rfl, rfl⟩
          go_wp2_with fail
          (with_reducible refine C3.out.mono ?_); rintro e w3 ⟨rfl, M3, h3, hM3, ho3⟩
          have D4 := C4 M3 w3 h3
          have HT3 := Lib.hid (And.intro hM3 ho3)
          clear h3 hM3 ho3 C4 C3
          go_wp2_with fail
          (with_reducible refine D4.out.mono ?_); rintro e w4 ⟨rfl, ht4⟩
          have HT4 := Lib.hid ht4
          clear ht4
          go_wp2_with fail
          go_ret
          exact ⟨rfl, RTurned.trans HT3.out.1 HT3.out.2 HT4.out⟩
      · rw [if_pos h2, if_pos h2]
        have h2' : (E2 == 0) = false := by simpa using h2
        clear h2 C4 C5 C6
        go_enter Try.func44, Try.ntmps44
        go_wp2_with fail
        (with_reducible refine C1.out.mono ?_); rintro e w1 ⟨rfl, rfl⟩
        go_wp2_with fail
        (with_reducible refine C2.out.mono ?_); rintro e w1 ⟨rfl, rfl⟩
        go_wp2_with fail
        (with_reducible refine C3.out.mono ?_); rintro e w3 ⟨rfl, ht3⟩
        have HT3 := Lib.hid ht3
        clear ht3
        go_wp2_with fail
        go_ret
        exact ⟨rfl, HT3.out⟩
end Go.Proofs.Ytmoaecicibjmnaa
