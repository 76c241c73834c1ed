/- FilesOver: the walk. -/
import Derived.Test.YtmoaecicibjmnaaKN
namespace Go.Proofs.Ytmoaecicibjmnaa
open Go.RowKit

set_option maxRecDepth 100000 in
set_option maxHeartbeats 4000000 in
theorem ov_list (w : World) (old : ByteArray) : DosAt (fun k => k < (w.alloc (.cells #[.int .u8 0, .string ⟨#[102]⟩, .string ⟨#[]⟩, .string old, .int .i64 0, .slice none 0 0, .int .u8 3, .string ⟨#[102]⟩, .string ⟨#[]⟩, .string ⟨#[]⟩, .int .i64 0, .slice none 0 0] 35)).heap.size) (w.alloc (.cells #[.int .u8 0, .string ⟨#[102]⟩, .string ⟨#[]⟩, .string old, .int .i64 0, .slice none 0 0, .int .u8 3, .string ⟨#[102]⟩, .string ⟨#[]⟩, .string ⟨#[]⟩, .int .i64 0, .slice none 0 0] 35)) (.slice (some ⟨w.heap.size, 0, none⟩) 2 2) (ovL old) := by
  obtain ⟨W, hW⟩ : ∃ W, W = w.alloc (.cells #[.int .u8 0, .string ⟨#[102]⟩, .string ⟨#[]⟩, .string old, .int .i64 0, .slice none 0 0, .int .u8 3, .string ⟨#[102]⟩, .string ⟨#[]⟩, .string ⟨#[]⟩, .int .i64 0, .slice none 0 0] 35) := ⟨_, rfl⟩
  have e : W.heap[w.heap.size]? = some (.cells #[.int .u8 0, .string ⟨#[102]⟩, .string ⟨#[]⟩, .string old, .int .i64 0, .slice none 0 0, .int .u8 3, .string ⟨#[102]⟩, .string ⟨#[]⟩, .string ⟨#[]⟩, .int .i64 0, .slice none 0 0] 35 (0, 0)) := by rw [hW, heap_alloc, if_pos rfl]
  have hs : w.heap.size < W.heap.size := by rw [hW, size_alloc]; omega
  rw [← hW]
  clear hW
  refine ⟨_, 2, rfl, fun _ => ⟨_, 0, rfl, hs, hs, fun j d hj => ?_⟩⟩
  have hj2 : j < 2 := (List.getElem?_eq_some_iff.1 hj).1
  have hnil : IntsIn (fun k => k < W.heap.size) W (.slice none 0 0) [] := ⟨none, 0, rfl, fun h => absurd rfl h⟩
  rcases (show j = 0 ∨ j = 1 by omega) with rfl | rfl
  · injection hj with hj
    subst hj
    exact ⟨_, hnil, cell_at e 0, cell_at e 1, cell_at e 2, cell_at e 3, cell_at e 4, cell_at e 5⟩
  · injection hj with hj
    subst hj
    exact ⟨_, hnil, cell_at e 6, cell_at e 7, cell_at e 8, cell_at e 9, cell_at e 10, cell_at e 11⟩

theorem pair_new (w : World) (v0 v1 : Value) (t : TypeId) : ∃ W, w.alloc (.cells #[v0, v1] t) = W ∧ Below w.heap.size w W ∧ W.cell? ⟨w.heap.size, 0, none⟩ = some v0 ∧ W.cell? ⟨w.heap.size, 1, none⟩ = some v1 := by
  have h : (w.alloc (.cells #[v0, v1] t)).heap[w.heap.size]? = some (.cells #[v0, v1] t (0, 0)) := by rw [heap_alloc, if_pos rfl]
  exact ⟨_, rfl, (Below.refl _ _).alloc (Nat.le_refl _) _, cell_at h 0, cell_at h 1⟩
/-- The two of them on a file system: sound all along. -/
theorem ov_sound (old : ByteArray) :
    Sound (afterF (1 + 8000) (ovL old)) := (after_fresh (1 + 8000) (by omega) (by omega) (ovL old) (fun d hd => by
      simp only [ovL, List.mem_cons, List.not_mem_nil, or_false] at hd
      rcases hd with rfl | rfl <;> simp)).start.sound
theorem ok_of {k : Nat} {A B S : ByteArray} (h : k < 256) (hA : A.size ≤ 2000) (hB : B.size ≤ 2000) (hS : S.size ≤ 2000) : DoOK ⟨k, A, B, S, 0, []⟩ :=
  ⟨h, by show A.size ≤ _; omega, by show B.size ≤ _; omega, by show S.size ≤ _; omega, by show _ ≤ (0 : Int); omega, by show (0 : Int) ≤ _; omega, Nat.zero_le _, fun x hx => by cases hx⟩
theorem ov_fail (L : List PF) (m : Nat) (keep : List Int) : failE ⟨8001, 0, false, L, -1, []⟩ m = 0 ∧ failF ⟨8001, 0, false, L, -1, []⟩ m keep = ⟨8001, 0, false, L, m, keep⟩ := by
  constructor
  · unfold failE; rw [if_neg (by simp), if_neg (by omega)]
  · unfold failF; rw [if_neg (by simp)]
set_option maxRecDepth 100000 in
set_option maxHeartbeats 8000000 in
theorem filesOver_walk (old new : ByteArray) (n : Int) (kv : Value) (keep : List Int) (w : World) (hn : 0 ≤ n ∧ n < 256) (hk : IntsIn (fun k => k < w.heap.size) w kv keep)
    (ho : old.size ≤ 9223372036854775807) (hw : new.size ≤ 9223372036854775807) (hkl : keep.length ≤ 9223372036854775807) :
    Calls Try.prog 4 #[.agg #[.string old, .string new], .int .u8 n, kv] w fun e w' => e = .returned (.bool true) ∧ Below w.heap.size w w' := by
  have HK := Lib.hid hk
  obtain ⟨ka, kc, rfl⟩ := hk.val
  clear hk
  go_enter Try.func4, Try.ntmps4
  go_upto_region 1 with fail
  obtain ⟨W1, hW1, hbW, c0, c1⟩ := pair_new w (.string old) (.string new) 39
  rw [hW1]
  clear hW1
  go_quiet (fail)
  go_upto_region 2 with fail
  have hb2 := below_drewN hbW nq
  clear c0 c1 hbW
  generalize W1.drewN nq = W2 at *
  by_cases h1 : 2000 < old.size
  · go_wp2_with fail
    go_ret
    exact ⟨rfl, hb2⟩
  by_cases h2 : 2000 < new.size
  · go_wp2_with fail
    go_ret
    exact ⟨rfl, hb2⟩
  by_cases h3 : 60 < keep.length
  · go_wp2_with fail
    go_ret
    exact ⟨rfl, hb2⟩
  have h1' : old.size ≤ 2000 := by omega
  have h2' : new.size ≤ 2000 := by omega
  have CA := Lib.hid (after_any 8000 _ (ovL old) _ (by omega) (ov_list W2 old) (by simp [ovL]) (fun d hd => by
      simp only [ovL, List.mem_cons, List.not_mem_nil, or_false] at hd
      rcases hd with rfl | rfl
      · exact ⟨ok_of (by decide) (by decide) (by decide) h1', Nat.zero_le _⟩
      · exact ⟨ok_of (by decide) (by decide) (by decide) (by decide), Nat.zero_le _⟩))
  have hS0 := ov_sound old
  rw [ov_after old h1'] at CA hS0
  have HS0 := Lib.hid hS0
  obtain ⟨m, hm⟩ : ∃ m : Nat, m = n.toNat % 6 := ⟨_, rfl⟩
  have hwi : n % 6 = (m : Int) := by omega
  have hm6 : m < 6 := by omega
  have hS1 : Sound ⟨8001, 0, false, [⟨fN, old, noB⟩], (m : Int), keep⟩ := HS0.out.with' ⟨11, tx [], tx [], tx [], m, keep⟩ (by show (m : Int) ≤ _; omega) (by show keep.length ≤ _; omega)
  have HS1 := Lib.hid hS1
  clear hm hS0 hS1
  go_wp2_with fail
  (with_reducible refine CA.out.mono ?_); rintro e w3 ⟨b, rfl, M, hf, hM, hb3⟩
  have hbel3 := below_tr (hb2.alloc hb2.size _) hb3
  have HM := Lib.hid (fun x (hx : M x) => Nat.le_trans (hb2.alloc hb2.size _).size (hM x hx))
  have HF := Lib.hid hf
  have hk3 : IntsIn (fun _ => True) w3 (.slice ka keep.length kc) keep := HK.out.eq hbel3.size fun k hk _ => ⟨hbel3.block k hk, trivial⟩
  have CF := fail_any w3 hf HS0.out (m : Int) hk3 (by omega)
  rw [(ov_fail _ m keep).1, (ov_fail _ m keep).2] at CF
  have CF1 := Lib.hid CF
  clear CF hk3 hf hM hb3 CA HK
  go_wp2_with fail
  (with_reducible refine CF1.out.mono ?_); rintro e w4 ⟨rfl, M4, hf4, hM4, ho4⟩
  have hbel4 : Below w.heap.size w w4 := hbel3.trans (ho4.below hbel3.size HM.out)
  have HF4 := Lib.hid hf4
  have HM4 := Lib.hid (fun x (hx : M4 x) => (show w.heap.size ≤ x by rcases hM4 x hx with h | h; exact HM.out x h; exact Nat.le_trans hbel3.size h))
  clear hf4 hM4 ho4 CF1 HF HM hbel3
  have CA := append_any w4 HF4.out HS1.out gN new (by omega)
  have hS2 : Sound (appF ⟨8001, 0, false, [⟨fN, old, noB⟩], (m : Int), keep⟩ gN new) := HS1.out.with' ⟨0, gN, tx [], new, 0, []⟩ (by show (0 : Int) ≤ _; omega) (by show 0 ≤ _; omega)
  rw [ov_appE old new keep m h1' h2', ov_appF old new keep m (by omega) h1' h2'] at CA
  rw [ov_appF old new keep m (by omega) h1' h2'] at hS2
  rcases (show m = 0 ∨ m = 1 ∨ m = 2 ∨ 3 ≤ m by omega) with rfl | rfl | rfl | hm3
  · have hw0 : n % 6 = 0 := hwi
    rw [if_pos (by decide)] at CA hS2
    rw [if_pos (by decide)] at CA
    have HSx := Lib.hid hS2
    have CA1 := Lib.hid CA
    clear CA hS2 hwi HS0 HS1
    go_wp2_with fail
    (with_reducible refine CA1.out.mono ?_); rintro e w5 ⟨rfl, M5, hf5, hM5, ho5⟩
    have hbel5 : Below w.heap.size w w5 := hbel4.trans (ho5.below hbel4.size HM4.out)
    have HF5 := Lib.hid hf5
    have HM5 := Lib.hid (fun x (hx : M5 x) => (show w.heap.size ≤ x by rcases hM5 x hx with h | h; exact HM4.out x h; exact Nat.le_trans hbel4.size h))
    clear hf5 hM5 ho5 CA1 HF4 hbel4 HM4
    have CU := Lib.hid (up_any HF5.out HSx.out.lim)
    have CS := Lib.hid (start_any w5 HF5.out HSx.out)
    unfold startE at CS
    rw [if_pos (by rfl)] at CS
    have CU1 : Hid (Calls Try.prog 26 #[.pointer (some ⟨b, 0, none⟩)] w5 fun e w' => e = .returned (.bool false) ∧ w' = w5) := CU
    have HSy := Lib.hid HSx.out.start
    clear CU
    go_wp2_with fail
    (with_reducible refine CU1.out.mono ?_); rintro e w6 ⟨rfl, rfl⟩
    go_wp2_with fail
    (with_reducible refine CS.out.mono ?_); rintro e w6 ⟨rfl, M6, hf6, hM6, ho6⟩
    have hbel6 : Below w.heap.size w w6 := hbel5.trans (ho6.below hbel5.size HM5.out)
    have HF6 := Lib.hid hf6
    have HM6 := Lib.hid (fun x (hx : M6 x) => (show w.heap.size ≤ x by rcases hM6 x hx with h | h; exact HM5.out x h; exact Nat.le_trans hbel5.size h))
    clear hf6 hM6 ho6 CS HF5 hbel5 HM5

    have CR := read_any HF6.out HSy.out fN
    rw [(ov_read2 old new keep 0).1, (ov_read2 old new keep 0).2] at CR
    have CR1 := Lib.hid CR
    clear CR
    go_wp2_with fail
    (with_reducible refine CR1.out.mono ?_); rintro e w7 ⟨rfl, hb7⟩
    have hbel7 := below_tr hbel6 hb7
    have CD := Lib.hid (does_any w7)
    clear CR1 hb7 hbel6
    go_wp2_with fail
    (with_reducible refine CD.out.mono ?_); rintro e w8 ⟨rfl, hb8⟩
    go_wp2_with fail
    go_ret
    exact ⟨rfl, below_tr hbel7 hb8⟩
  · have hw0 : n % 6 = 1 := hwi
    rw [if_neg (by decide)] at CA hS2
    rw [if_neg (by decide)] at CA
    have HS2 := Lib.hid hS2
    have CA1 := Lib.hid CA
    clear CA hS2 hwi HS0 HS1
    go_wp2_with fail
    (with_reducible refine CA1.out.mono ?_); rintro e w5 ⟨rfl, M5, hf5, hM5, ho5⟩
    have hbel5 : Below w.heap.size w w5 := hbel4.trans (ho5.below hbel4.size HM4.out)
    have HF5 := Lib.hid hf5
    have HM5 := Lib.hid (fun x (hx : M5 x) => (show w.heap.size ≤ x by rcases hM5 x hx with h | h; exact HM4.out x h; exact Nat.le_trans hbel4.size h))
    clear hf5 hM5 ho5 CA1 HF4 hbel4 HM4
    have CB := sync_any w5 HF5.out HS2.out gN
    have hS3 : Sound (syncF (ov2 old new keep (((1 : Nat) : Int) - 1)) gN) := HS2.out.with' ⟨3, gN, tx [], tx [], 0, []⟩ (by show (0 : Int) ≤ _; omega) (by show 0 ≤ _; omega)
    rw [ov_syncE, ov_syncF _ _ _ _ (by decide)] at CB
    rw [ov_syncF _ _ _ _ (by decide)] at hS3
    rw [if_pos (by decide)] at CB hS3
    rw [if_pos (by decide)] at CB
    have HSx := Lib.hid hS3
    have CB1 := Lib.hid CB
    clear CB hS3 HS2
    go_wp2_with fail
    (with_reducible refine CB1.out.mono ?_); rintro e w6 ⟨rfl, M6, hf6, hM6, ho6⟩
    have hbel6 : Below w.heap.size w w6 := hbel5.trans (ho6.below hbel5.size HM5.out)
    have HF6 := Lib.hid hf6
    have HM6 := Lib.hid (fun x (hx : M6 x) => (show w.heap.size ≤ x by rcases hM6 x hx with h | h; exact HM5.out x h; exact Nat.le_trans hbel5.size h))
    clear hf6 hM6 ho6 CB1 HF5 hbel5 HM5
    have CU := Lib.hid (up_any HF6.out HSx.out.lim)
    have CS := Lib.hid (start_any w6 HF6.out HSx.out)
    unfold startE at CS
    rw [if_pos (by rfl)] at CS
    have CU1 : Hid (Calls Try.prog 26 #[.pointer (some ⟨b, 0, none⟩)] w6 fun e w' => e = .returned (.bool false) ∧ w' = w6) := CU
    have HSy := Lib.hid HSx.out.start
    clear CU
    go_wp2_with fail
    (with_reducible refine CU1.out.mono ?_); rintro e w7 ⟨rfl, rfl⟩
    go_wp2_with fail
    (with_reducible refine CS.out.mono ?_); rintro e w7 ⟨rfl, M7, hf7, hM7, ho7⟩
    have hbel7 : Below w.heap.size w w7 := hbel6.trans (ho7.below hbel6.size HM6.out)
    have HF7 := Lib.hid hf7
    have HM7 := Lib.hid (fun x (hx : M7 x) => (show w.heap.size ≤ x by rcases hM7 x hx with h | h; exact HM6.out x h; exact Nat.le_trans hbel6.size h))
    clear hf7 hM7 ho7 CS HF6 hbel6 HM6

    have CR := read_any HF7.out HSy.out fN
    rw [(ov_read2 old new keep 0).1, (ov_read2 old new keep 0).2] at CR
    have CR1 := Lib.hid CR
    clear CR
    go_wp2_with fail
    (with_reducible refine CR1.out.mono ?_); rintro e w8 ⟨rfl, hb8⟩
    have hbel8 := below_tr hbel7 hb8
    have CD := Lib.hid (does_any w8)
    clear CR1 hb8 hbel7
    go_wp2_with fail
    (with_reducible refine CD.out.mono ?_); rintro e w9 ⟨rfl, hb9⟩
    go_wp2_with fail
    go_ret
    exact ⟨rfl, below_tr hbel8 hb9⟩
  · have hw0 : n % 6 = 2 := hwi
    rw [if_neg (by decide)] at CA hS2
    rw [if_neg (by decide)] at CA
    have HS2 := Lib.hid hS2
    have CA1 := Lib.hid CA
    clear CA hS2 hwi HS0 HS1
    go_wp2_with fail
    (with_reducible refine CA1.out.mono ?_); rintro e w5 ⟨rfl, M5, hf5, hM5, ho5⟩
    have hbel5 : Below w.heap.size w w5 := hbel4.trans (ho5.below hbel4.size HM4.out)
    have HF5 := Lib.hid hf5
    have HM5 := Lib.hid (fun x (hx : M5 x) => (show w.heap.size ≤ x by rcases hM5 x hx with h | h; exact HM4.out x h; exact Nat.le_trans hbel4.size h))
    clear hf5 hM5 ho5 CA1 HF4 hbel4 HM4
    have CB := sync_any w5 HF5.out HS2.out gN
    have hS3 : Sound (syncF (ov2 old new keep (((2 : Nat) : Int) - 1)) gN) := HS2.out.with' ⟨3, gN, tx [], tx [], 0, []⟩ (by show (0 : Int) ≤ _; omega) (by show 0 ≤ _; omega)
    rw [ov_syncE, ov_syncF _ _ _ _ (by decide)] at CB
    rw [ov_syncF _ _ _ _ (by decide)] at hS3
    rw [if_neg (by decide)] at CB hS3
    rw [if_neg (by decide)] at CB
    have HS3 := Lib.hid hS3
    have CB1 := Lib.hid CB
    clear CB hS3 HS2
    go_wp2_with fail
    (with_reducible refine CB1.out.mono ?_); rintro e w6 ⟨rfl, M6, hf6, hM6, ho6⟩
    have hbel6 : Below w.heap.size w w6 := hbel5.trans (ho6.below hbel5.size HM5.out)
    have HF6 := Lib.hid hf6
    have HM6 := Lib.hid (fun x (hx : M6 x) => (show w.heap.size ≤ x by rcases hM6 x hx with h | h; exact HM5.out x h; exact Nat.le_trans hbel5.size h))
    clear hf6 hM6 ho6 CB1 HF5 hbel5 HM5
    have CC := rename_any w6 HF6.out HS3.out gN fN
    have hS4 : Sound (renameF (ov3 old new keep (((2 : Nat) : Int) - 1 - 1)) gN fN) := HS3.out.with' ⟨6, gN, fN, tx [], 0, []⟩ (by show (0 : Int) ≤ _; omega) (by show 0 ≤ _; omega)
    rw [ov_renE, ov_renF _ _ _ _ (by decide)] at CC
    rw [ov_renF _ _ _ _ (by decide)] at hS4
    rw [if_pos (by decide)] at CC hS4
    rw [if_pos (by decide)] at CC
    have HSx := Lib.hid hS4
    have CC1 := Lib.hid CC
    clear CC hS4 HS3
    go_wp2_with fail
    (with_reducible refine CC1.out.mono ?_); rintro e w7 ⟨rfl, M7, hf7, hM7, ho7⟩
    have hbel7 : Below w.heap.size w w7 := hbel6.trans (ho7.below hbel6.size HM6.out)
    have HF7 := Lib.hid hf7
    have HM7 := Lib.hid (fun x (hx : M7 x) => (show w.heap.size ≤ x by rcases hM7 x hx with h | h; exact HM6.out x h; exact Nat.le_trans hbel6.size h))
    clear hf7 hM7 ho7 CC1 HF6 hbel6 HM6
    have CU := Lib.hid (up_any HF7.out HSx.out.lim)
    have CS := Lib.hid (start_any w7 HF7.out HSx.out)
    unfold startE at CS
    rw [if_pos (by rfl)] at CS
    have CU1 : Hid (Calls Try.prog 26 #[.pointer (some ⟨b, 0, none⟩)] w7 fun e w' => e = .returned (.bool false) ∧ w' = w7) := CU
    have HSy := Lib.hid HSx.out.start
    clear CU
    go_wp2_with fail
    (with_reducible refine CU1.out.mono ?_); rintro e w8 ⟨rfl, rfl⟩
    go_wp2_with fail
    (with_reducible refine CS.out.mono ?_); rintro e w8 ⟨rfl, M8, hf8, hM8, ho8⟩
    have hbel8 : Below w.heap.size w w8 := hbel7.trans (ho8.below hbel7.size HM7.out)
    have HF8 := Lib.hid hf8
    have HM8 := Lib.hid (fun x (hx : M8 x) => (show w.heap.size ≤ x by rcases hM8 x hx with h | h; exact HM7.out x h; exact Nat.le_trans hbel7.size h))
    clear hf8 hM8 ho8 CS HF7 hbel7 HM7

    have CR := read_any HF8.out HSy.out fN
    rw [(ov_read3 old new keep 0).1, (ov_read3 old new keep 0).2] at CR
    have CR1 := Lib.hid CR
    clear CR
    go_wp2_with fail
    (with_reducible refine CR1.out.mono ?_); rintro e w9 ⟨rfl, hb9⟩
    have hbel9 := below_tr hbel8 hb9
    have CD := Lib.hid (does_any w9)
    clear CR1 hb9 hbel8
    go_wp2_with fail
    (with_reducible refine CD.out.mono ?_); rintro e w10 ⟨rfl, hb10⟩
    go_wp2_with fail
    go_ret
    exact ⟨rfl, below_tr hbel9 hb10⟩
  · have g6 : (2 : Int) < (m : Int) := by omega
    rw [if_neg (by omega)] at CA hS2
    rw [if_neg (by omega)] at CA
    have HS2 := Lib.hid hS2
    have CA1 := Lib.hid CA
    clear CA hS2 HS0 HS1
    go_wp2_with fail
    (with_reducible refine CA1.out.mono ?_); rintro e w5 ⟨rfl, M5, hf5, hM5, ho5⟩
    have hbel5 : Below w.heap.size w w5 := hbel4.trans (ho5.below hbel4.size HM4.out)
    have HF5 := Lib.hid hf5
    have HM5 := Lib.hid (fun x (hx : M5 x) => (show w.heap.size ≤ x by rcases hM5 x hx with h | h; exact HM4.out x h; exact Nat.le_trans hbel4.size h))
    clear hf5 hM5 ho5 CA1 HF4 hbel4 HM4
    have CB := sync_any w5 HF5.out HS2.out gN
    have hS3 : Sound (syncF (ov2 old new keep ((m : Int) - 1)) gN) := HS2.out.with' ⟨3, gN, tx [], tx [], 0, []⟩ (by show (0 : Int) ≤ _; omega) (by show 0 ≤ _; omega)
    rw [ov_syncE, ov_syncF _ _ _ _ (by omega)] at CB
    rw [ov_syncF _ _ _ _ (by omega)] at hS3
    rw [if_neg (by omega)] at CB hS3
    rw [if_neg (by omega)] at CB
    have HS3 := Lib.hid hS3
    have CB1 := Lib.hid CB
    clear CB hS3 HS2
    go_wp2_with fail
    (with_reducible refine CB1.out.mono ?_); rintro e w6 ⟨rfl, M6, hf6, hM6, ho6⟩
    have hbel6 : Below w.heap.size w w6 := hbel5.trans (ho6.below hbel5.size HM5.out)
    have HF6 := Lib.hid hf6
    have HM6 := Lib.hid (fun x (hx : M6 x) => (show w.heap.size ≤ x by rcases hM6 x hx with h | h; exact HM5.out x h; exact Nat.le_trans hbel5.size h))
    clear hf6 hM6 ho6 CB1 HF5 hbel5 HM5
    have CC := rename_any w6 HF6.out HS3.out gN fN
    have hS4 : Sound (renameF (ov3 old new keep ((m : Int) - 1 - 1)) gN fN) := HS3.out.with' ⟨6, gN, fN, tx [], 0, []⟩ (by show (0 : Int) ≤ _; omega) (by show 0 ≤ _; omega)
    rw [ov_renE, ov_renF _ _ _ _ (by omega)] at CC
    rw [ov_renF _ _ _ _ (by omega)] at hS4
    rw [if_neg (by omega)] at CC hS4
    rw [if_neg (by omega)] at CC
    have HS4 := Lib.hid hS4
    have CC1 := Lib.hid CC
    clear CC hS4 HS3
    go_wp2_with fail
    (with_reducible refine CC1.out.mono ?_); rintro e w7 ⟨rfl, M7, hf7, hM7, ho7⟩
    have hbel7 : Below w.heap.size w w7 := hbel6.trans (ho7.below hbel6.size HM6.out)
    have HF7 := Lib.hid hf7
    have HM7 := Lib.hid (fun x (hx : M7 x) => (show w.heap.size ≤ x by rcases hM7 x hx with h | h; exact HM6.out x h; exact Nat.le_trans hbel6.size h))
    clear hf7 hM7 ho7 CC1 HF6 hbel6 HM6
    have CU1 : Hid (Calls Try.prog 26 #[.pointer (some ⟨b, 0, none⟩)] w7 fun e w' => e = .returned (.bool true) ∧ w' = w7) := Lib.hid (up_any HF7.out HS4.out.lim)
    have CR := read_any HF7.out HS4.out fN
    rw [(ov_readN _ _ _).1, (ov_readN _ _ _).2] at CR
    have CR1 := Lib.hid CR
    clear CR
    go_wp2_with fail
    (with_reducible refine CU1.out.mono ?_); rintro e w8 ⟨rfl, rfl⟩
    go_wp2_with fail
    (with_reducible refine CR1.out.mono ?_); rintro e w9 ⟨rfl, hb9⟩
    have hbel9 := below_tr hbel7 hb9
    have CD := Lib.hid (does_any w9)
    clear CR1 hb9 hbel7
    go_wp2_with fail
    (with_reducible refine CD.out.mono ?_); rintro e w10 ⟨rfl, hb10⟩
    go_wp2_with fail
    go_ret
    exact ⟨rfl, below_tr hbel9 hb10⟩
end Go.Proofs.Ytmoaecicibjmnaa
