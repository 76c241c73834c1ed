/- Of a file system that is none: what is told, With. -/
import Derived.Test.YtmoaecicibjmnaaSE
namespace Go.Proofs.Ytmoaecicibjmnaa
open Go.RowKit

/-- A pointer to none, or to one that has nothing. -/
def None2 (w : World) (p : Option Addr) : Prop := p = none ∨ ∃ b, p = some ⟨b, 0, none⟩ ∧ w.cell? ⟨b, 0, none⟩ = some (.int .i64 0) ∧ w.cell? ⟨b, 1, none⟩ = some (.int .i64 0) ∧ w.cell? ⟨b, 3, none⟩ = some (.slice none 0 0)
theorem None2.gone {w : World} {p : Option Addr} (h : None2 w p) : Gone w p := by
  rcases h with h | ⟨b, h, hc, _⟩
  · exact .inl h
  · exact .inr ⟨b, h, hc⟩
theorem None2.eq {w w' : World} {p : Option Addr} (h : None2 w p) (he : ∀ b, p = some ⟨b, 0, none⟩ → b < w.heap.size → w'.heap[b]? = w.heap[b]?) : None2 w' p := by
  rcases h with h | ⟨b, h, h0, h1, h3⟩
  · exact .inl h
  · have e := fun i => World.cell?_of_block (a := ⟨b, i, none⟩) (he b h (lt_of_cell h0))
    exact .inr ⟨b, h, (e 0).trans h0, (e 1).trans h1, (e 3).trans h3⟩
theorem None2.below {w w' : World} {p : Option Addr} (h : None2 w p) (hb : Below w.heap.size w w') : None2 w' p := h.eq fun b _ hlt => hb.block b hlt
set_option maxRecDepth 100000 in
theorem all_int_none {p : Option Addr} (w : World) (hg : None2 w p) (g : Nat) : Calls Try.prog 45 #[.pointer p, .func (.func g) #[] #[]] w fun e w' => e = .returned (.slice none 0 0) ∧ Below w.heap.size w w' := by
  rcases hg with rfl | ⟨b, rfl, h0, h1, h3⟩
  · go_enter Try.func45, Try.ntmps45
    go_wp2_with fail
    go_ret
    exact ⟨rfl, Below.refl _ _⟩
  · clear h0 h1
    go_enter Try.func45, Try.ntmps45
    go_wp2_with fail
    go_loopw [15, 5] (fun i out wr => i = .int .i64 0 ∧ out = .slice none 0 0 ∧ Below w.heap.size w wr) (fun _ _ _ => 0)
    case atStart => exact ⟨rfl, rfl, Below.refl _ _⟩
    case round =>
      obtain ⟨rfl, rfl, hbel⟩ := hrel
      go_wp2_with fail
      go_ret
      exact ⟨rfl, hbel⟩
set_option maxRecDepth 100000 in
theorem all_string_none {p : Option Addr} (w : World) (hg : None2 w p) (g : Nat) : Calls Try.prog 48 #[.pointer p, .func (.func g) #[] #[]] w fun e w' => e = .returned (.slice none 0 0) ∧ Below w.heap.size w w' := by
  rcases hg with rfl | ⟨b, rfl, h0, h1, h3⟩
  · go_enter Try.func48, Try.ntmps48
    go_wp2_with fail
    go_ret
    exact ⟨rfl, Below.refl _ _⟩
  · clear h0 h1
    go_enter Try.func48, Try.ntmps48
    go_wp2_with fail
    go_loopw [15, 5] (fun i out wr => i = .int .i64 0 ∧ out = .slice none 0 0 ∧ Below w.heap.size w wr) (fun _ _ _ => 0)
    case atStart => exact ⟨rfl, rfl, Below.refl _ _⟩
    case round =>
      obtain ⟨rfl, rfl, hbel⟩ := hrel
      go_wp2_with fail
      go_ret
      exact ⟨rfl, hbel⟩
set_option maxRecDepth 100000 in
theorem names_none {p : Option Addr} (w : World) (hg : None2 w p) : Calls Try.prog 17 #[.pointer p] w fun e w' => e = .returned (.slice none 0 0) ∧ Below w.heap.size w w' := by
  have C1 := Lib.hid (all_string_none w hg 49)
  clear hg
  go_enter Try.func17, Try.ntmps17
  go_wp2_with fail
  (with_reducible refine C1.out.mono ?_); rintro e w2 ⟨rfl, hb2⟩
  go_wp2_with fail
  go_ret
  exact ⟨rfl, hb2⟩
set_option maxRecDepth 100000 in
theorem unsynced_none {p : Option Addr} (w : World) (hg : None2 w p) : Calls Try.prog 33 #[.pointer p] w fun e w' => e = .returned (.slice none 0 0) ∧ Below w.heap.size w w' := by
  have C1 := Lib.hid (all_int_none w hg 75)
  clear hg
  go_enter Try.func33, Try.ntmps33
  go_wp2_with fail
  (with_reducible refine C1.out.mono ?_); rintro e w2 ⟨rfl, hb2⟩
  go_wp2_with fail
  go_ret
  exact ⟨rfl, hb2⟩
set_option maxRecDepth 100000 in
theorem size_none {p : Option Addr} (w : World) (hg : None2 w p) : Calls Try.prog 16 #[.pointer p] w fun e w' => e = .returned (.int .i64 0) ∧ Below w.heap.size w w' := by
  have C1 := Lib.hid (all_int_none w hg 46)
  clear hg
  go_enter Try.func16, Try.ntmps16
  go_wp2_with fail
  (with_reducible refine C1.out.mono ?_); rintro e w2 ⟨rfl, hb2⟩
  go_wp2_with fail
  go_loopw [9, 3] (fun i s wr => i = .int .i64 0 ∧ s = .int .i64 0 ∧ Below w.heap.size w wr) (fun _ _ _ => 0)
  case atStart => exact ⟨rfl, rfl, hb2⟩
  case round =>
    obtain ⟨rfl, rfl, hbel⟩ := hrel
    go_wp2_with fail
    go_ret
    exact ⟨rfl, hbel⟩
set_option maxRecDepth 100000 in
theorem starts_none {p : Option Addr} (w : World) (hg : None2 w p) : Calls Try.prog 34 #[.pointer p] w fun e w' => e = .returned (.int .i64 0) ∧ Below w.heap.size w w' := by
  rcases hg with rfl | ⟨b, rfl, h0, h1, h3⟩
  · refine (starts_nil w).mono ?_
    rintro e w' ⟨rfl, rfl⟩
    exact ⟨rfl, Below.refl _ _⟩
  · go_enter Try.func34, Try.ntmps34
    go_wp2_with fail
    go_ret
    exact ⟨rfl, Below.refl _ _⟩
set_option maxRecDepth 100000 in
set_option maxHeartbeats 8000000 in
theorem with_gone {p : Option Addr} (w : World) (hg : Gone w p) (k : Nat) (hk : k < 12) (A B S : ByteArray) (n : Int) (ka : Option Addr) (kl kc : Nat) :
    Calls Try.prog 18 #[.pointer p, .agg #[.int .u8 (k : Int), .string A, .string B, .string S, .int .i64 n, .slice ka kl kc]] w fun e w' => e = .returned (.int .i64 1) ∧ Below w.heap.size w w' := by
  have H := Lib.hid hg
  clear hg
  obtain ⟨K, hK⟩ : ∃ K : Ending → World → Prop, K = fun e w' => e = .returned (.int .i64 1) ∧ Below w.heap.size w w' := ⟨_, rfl⟩
  have HK := Lib.hid hK
  rw [← hK]
  clear hK
  rcases (show k = 0 ∨ k = 1 ∨ k = 2 ∨ k = 3 ∨ k = 4 ∨ k = 5 ∨ k = 6 ∨ k = 7 ∨ k = 8 ∨ k = 9 ∨ k = 10 ∨ k = 11 by omega) with rfl | rfl | rfl | rfl | rfl | rfl | rfl | rfl | rfl | rfl | rfl | rfl
  · go_enter Try.func18, Try.ntmps18
    go_upto_region 1 with fail
    obtain ⟨W, hW, hbW, c0, c1, c2, c3, c4, c5⟩ := six_new w (.int .u8 0) (.string A) (.string B) (.string S) (.int .i64 n) (.slice ka kl kc) 35
    rw [hW]
    clear hW
    have C1 := Lib.hid (append_gone W (H.out.below hbW) A S)
    go_wp2_with fail
    (with_reducible refine C1.out.mono ?_); rintro e w3 ⟨rfl, hb3⟩
    go_wp2_with fail
    rw [HK.out]
    exact ⟨rfl, below_tr hbW hb3⟩
  · go_enter Try.func18, Try.ntmps18
    go_upto_region 1 with fail
    obtain ⟨W, hW, hbW, c0, c1, c2, c3, c4, c5⟩ := six_new w (.int .u8 1) (.string A) (.string B) (.string S) (.int .i64 n) (.slice ka kl kc) 35
    rw [hW]
    clear hW
    have C1 := Lib.hid (append_gone W (H.out.below hbW) A S)
    go_wp2_with fail
    (with_reducible refine C1.out.mono ?_); rintro e w3 ⟨rfl, hb3⟩
    go_wp2_with fail
    rw [HK.out]
    exact ⟨rfl, below_tr hbW hb3⟩
  · go_enter Try.func18, Try.ntmps18
    go_upto_region 1 with fail
    obtain ⟨W, hW, hbW, c0, c1, c2, c3, c4, c5⟩ := six_new w (.int .u8 2) (.string A) (.string B) (.string S) (.int .i64 n) (.slice ka kl kc) 35
    rw [hW]
    clear hW
    have C1 := Lib.hid (append_gone W (H.out.below hbW) A S)
    go_wp2_with fail
    (with_reducible refine C1.out.mono ?_); rintro e w3 ⟨rfl, hb3⟩
    go_wp2_with fail
    rw [HK.out]
    exact ⟨rfl, below_tr hbW hb3⟩
  · go_enter Try.func18, Try.ntmps18
    go_upto_region 1 with fail
    obtain ⟨W, hW, hbW, c0, c1, c2, c3, c4, c5⟩ := six_new w (.int .u8 3) (.string A) (.string B) (.string S) (.int .i64 n) (.slice ka kl kc) 35
    rw [hW]
    clear hW
    have C1 := Lib.hid (sync_gone W (H.out.below hbW) A)
    go_wp2_with fail
    (with_reducible refine C1.out.mono ?_); rintro e w3 ⟨rfl, hb3⟩
    go_wp2_with fail
    rw [HK.out]
    exact ⟨rfl, below_tr hbW hb3⟩
  · go_enter Try.func18, Try.ntmps18
    go_upto_region 1 with fail
    obtain ⟨W, hW, hbW, c0, c1, c2, c3, c4, c5⟩ := six_new w (.int .u8 4) (.string A) (.string B) (.string S) (.int .i64 n) (.slice ka kl kc) 35
    rw [hW]
    clear hW
    have C1 := Lib.hid (sync_gone W (H.out.below hbW) A)
    go_wp2_with fail
    (with_reducible refine C1.out.mono ?_); rintro e w3 ⟨rfl, hb3⟩
    go_wp2_with fail
    rw [HK.out]
    exact ⟨rfl, below_tr hbW hb3⟩
  · go_enter Try.func18, Try.ntmps18
    go_upto_region 1 with fail
    obtain ⟨W, hW, hbW, c0, c1, c2, c3, c4, c5⟩ := six_new w (.int .u8 5) (.string A) (.string B) (.string S) (.int .i64 n) (.slice ka kl kc) 35
    rw [hW]
    clear hW
    have C1 := Lib.hid (truncate_gone W (H.out.below hbW) A n)
    go_wp2_with fail
    (with_reducible refine C1.out.mono ?_); rintro e w3 ⟨rfl, hb3⟩
    go_wp2_with fail
    rw [HK.out]
    exact ⟨rfl, below_tr hbW hb3⟩
  · go_enter Try.func18, Try.ntmps18
    go_upto_region 1 with fail
    obtain ⟨W, hW, hbW, c0, c1, c2, c3, c4, c5⟩ := six_new w (.int .u8 6) (.string A) (.string B) (.string S) (.int .i64 n) (.slice ka kl kc) 35
    rw [hW]
    clear hW
    have C1 := Lib.hid (rename_gone W (H.out.below hbW) A B)
    go_wp2_with fail
    (with_reducible refine C1.out.mono ?_); rintro e w3 ⟨rfl, hb3⟩
    go_wp2_with fail
    rw [HK.out]
    exact ⟨rfl, below_tr hbW hb3⟩
  · go_enter Try.func18, Try.ntmps18
    go_upto_region 1 with fail
    obtain ⟨W, hW, hbW, c0, c1, c2, c3, c4, c5⟩ := six_new w (.int .u8 7) (.string A) (.string B) (.string S) (.int .i64 n) (.slice ka kl kc) 35
    rw [hW]
    clear hW
    have C1 := Lib.hid (remove_gone W (H.out.below hbW) A)
    go_wp2_with fail
    (with_reducible refine C1.out.mono ?_); rintro e w3 ⟨rfl, hb3⟩
    go_wp2_with fail
    rw [HK.out]
    exact ⟨rfl, below_tr hbW hb3⟩
  · go_enter Try.func18, Try.ntmps18
    go_upto_region 1 with fail
    obtain ⟨W, hW, hbW, c0, c1, c2, c3, c4, c5⟩ := six_new w (.int .u8 8) (.string A) (.string B) (.string S) (.int .i64 n) (.slice ka kl kc) 35
    rw [hW]
    clear hW
    have C1 := Lib.hid (crash_gone W (H.out.below hbW) ka kl kc)
    go_wp2_with fail
    (with_reducible refine C1.out.mono ?_); rintro e w3 ⟨rfl, hb3⟩
    go_wp2_with fail
    rw [HK.out]
    exact ⟨rfl, below_tr hbW hb3⟩
  · go_enter Try.func18, Try.ntmps18
    go_upto_region 1 with fail
    obtain ⟨W, hW, hbW, c0, c1, c2, c3, c4, c5⟩ := six_new w (.int .u8 9) (.string A) (.string B) (.string S) (.int .i64 n) (.slice ka kl kc) 35
    rw [hW]
    clear hW
    have C1 := Lib.hid (start_gone W (H.out.below hbW))
    go_wp2_with fail
    (with_reducible refine C1.out.mono ?_); rintro e w3 ⟨rfl, hb3⟩
    go_wp2_with fail
    rw [HK.out]
    exact ⟨rfl, below_tr hbW hb3⟩
  · go_enter Try.func18, Try.ntmps18
    go_upto_region 1 with fail
    obtain ⟨W, hW, hbW, c0, c1, c2, c3, c4, c5⟩ := six_new w (.int .u8 10) (.string A) (.string B) (.string S) (.int .i64 n) (.slice ka kl kc) 35
    rw [hW]
    clear hW
    have C1 := Lib.hid (start_gone W (H.out.below hbW))
    go_wp2_with fail
    (with_reducible refine C1.out.mono ?_); rintro e w3 ⟨rfl, hb3⟩
    go_wp2_with fail
    rw [HK.out]
    exact ⟨rfl, below_tr hbW hb3⟩
  · go_enter Try.func18, Try.ntmps18
    go_upto_region 1 with fail
    obtain ⟨W, hW, hbW, c0, c1, c2, c3, c4, c5⟩ := six_new w (.int .u8 11) (.string A) (.string B) (.string S) (.int .i64 n) (.slice ka kl kc) 35
    rw [hW]
    clear hW
    have C1 := Lib.hid (fail_gone W (H.out.below hbW) n ka kl kc)
    go_wp2_with fail
    (with_reducible refine C1.out.mono ?_); rintro e w3 ⟨rfl, hb3⟩
    go_wp2_with fail
    rw [HK.out]
    exact ⟨rfl, below_tr hbW hb3⟩
end Go.Proofs.Ytmoaecicibjmnaa
