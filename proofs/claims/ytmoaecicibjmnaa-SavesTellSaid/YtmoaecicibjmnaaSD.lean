/- saves: the chapter's examples. -/
import Derived.Test.YtmoaecicibjmnaaKJ
namespace Go.Proofs.Ytmoaecicibjmnaa
open Go.RowKit

abbrev s6 : ByteArray := tx [49, 50, 51, 52, 53, 54]
abbrev s5 : ByteArray := tx [49, 50, 51, 52, 53]
def dz1 : FR := saveF (newF 10) (tx [97]) s6
def dz2 : FR := saveF dz1 (tx [97]) s5
def dz3 : FR := saveF dz2 (tx [126]) (tx [])
theorem dz_a : saveE (newF 10) (tx [97]) s6 = 0 := by decide +kernel
theorem dz_b : loadE dz1 (tx [97]) = 0 := by decide +kernel
theorem dz_s : loadS dz1 (tx [97]) = s6 := by decide +kernel
theorem dz_c : saveE dz1 (tx [97]) s5 = 50 := by decide +kernel
theorem dz_d : loadE dz2 (tx [97]) = 0 := by decide +kernel
theorem dz_t : loadS dz2 (tx [97]) = s6 := by decide +kernel
theorem dz_g : loadE dz2 (tx [98]) = 4 := by decide +kernel
theorem dz_h : saveE dz2 (tx [126]) (tx []) = 2 := by decide +kernel
theorem dz_n : dz3.files.map PF.name = [tx [97]] := by decide +kernel
theorem texts_lit (w : World) (a : ByteArray) (t : TypeId) : TextsAt (w.alloc (.cells #[.string a] t)) (.slice (some ⟨w.heap.size, 0, none⟩) 1 1) [a] :=
  ⟨_, 1, rfl, fun _ => ⟨_, 0, rfl, by rw [size_alloc]; omega, fun j hj => by
    have hj : j < 1 := hj
    obtain rfl : j = 0 := by omega
    exact new_one w (.string a) t⟩⟩
set_option maxRecDepth 100000 in
set_option maxHeartbeats 4000000 in
theorem sdoes_any (w : World) : Calls Try.prog 40 #[] w fun e w' => e = .returned (.bool true) ∧ Below w.heap.size w w' := by
  have S0 := Lib.hid (Sound.new 10 (by omega) (by omega))
  have S1 : Hid (Sound dz1) := Lib.hid (S0.out.saved _ _)
  have S2 : Hid (Sound dz2) := Lib.hid (S1.out.saved _ _)
  have S3 : Hid (Sound dz3) := Lib.hid (S2.out.saved _ _)
  have CN := Lib.hid (new_any 10 w (by omega) (by omega))
  go_enter Try.func40, Try.ntmps40
  go_wp2_with fail
  (with_reducible refine CN.out.mono ?_); rintro e w1 ⟨b, rfl, M1, hf1, hM1, hbel1⟩
  have HF1 := Lib.hid hf1
  have HM1 := Lib.hid hM1
  have C0 := write_any w1 hf1 S0.out (tx [97]) s6 (by decide)
  rw [dz_a] at C0
  have C1 : Hid (Calls Try.prog 38 #[.pointer (some ⟨b, 0, none⟩), .string (tx [97]), .string s6] w1 fun e w' => e = .returned (.int .i64 0) ∧ Turned M1 w1 w' b dz1) := Lib.hid C0
  clear hf1 hM1 CN C0
  go_wp2_with fail
  (with_reducible refine C1.out.mono ?_); rintro e w2 ⟨rfl, M2, hf2, hM2, ho2⟩
  have hbel2 : Below w.heap.size w w2 := hbel1.trans (ho2.below hbel1.size HM1.out)
  have HF2 := Lib.hid hf2
  have HM2 := Lib.hid (fun x (hx : M2 x) => (show w.heap.size ≤ x by rcases hM2 x hx with h | h; exact HM1.out x h; exact Nat.le_trans hbel1.size h))
  clear hf2 hM2 ho2 C1 HF1 hbel1 HM1
  have C0 := load_any w2 HF2.out S1.out (tx [97])
  rw [dz_b, dz_s] at C0
  have C1 := Lib.hid C0
  clear C0
  go_wp2_with fail
  (with_reducible refine C1.out.mono ?_); rintro e w3 ⟨rfl, M3, hf3, hM3, ho3⟩
  have hbel3 : Below w.heap.size w w3 := hbel2.trans (ho3.below hbel2.size HM2.out)
  have HF3 := Lib.hid hf3
  have HM3 := Lib.hid (fun x (hx : M3 x) => (show w.heap.size ≤ x by rcases hM3 x hx with h | h; exact HM2.out x h; exact Nat.le_trans hbel2.size h))
  clear hf3 hM3 ho3 C1 HF2 hbel2 HM2
  have C0 := write_any w3 HF3.out S1.out (tx [97]) s5 (by decide)
  rw [dz_c] at C0
  have C1 : Hid (Calls Try.prog 38 #[.pointer (some ⟨b, 0, none⟩), .string (tx [97]), .string s5] w3 fun e w' => e = .returned (.int .i64 50) ∧ Turned M3 w3 w' b dz2) := Lib.hid C0
  clear C0
  go_wp2_with fail
  (with_reducible refine C1.out.mono ?_); rintro e w4 ⟨rfl, M4, hf4, hM4, ho4⟩
  have hbel4 : Below w.heap.size w w4 := hbel3.trans (ho4.below hbel3.size HM3.out)
  have HF4 := Lib.hid hf4
  have HM4 := Lib.hid (fun x (hx : M4 x) => (show w.heap.size ≤ x by rcases hM4 x hx with h | h; exact HM3.out x h; exact Nat.le_trans hbel3.size h))
  clear hf4 hM4 ho4 C1 HF3 hbel3 HM3
  have C0 := load_any w4 HF4.out S2.out (tx [97])
  rw [dz_d, dz_t] at C0
  have C1 := Lib.hid C0
  clear C0
  go_wp2_with fail
  (with_reducible refine C1.out.mono ?_); rintro e w5 ⟨rfl, M5, hf5, hM5, ho5⟩
  have hbel5 : Below w.heap.size w w5 := hbel4.trans (ho5.below hbel4.size HM4.out)
  have HF5 := Lib.hid hf5
  have HM5 := Lib.hid (fun x (hx : M5 x) => (show w.heap.size ≤ x by rcases hM5 x hx with h | h; exact HM4.out x h; exact Nat.le_trans hbel4.size h))
  clear hf5 hM5 ho5 C1 HF4 hbel4 HM4
  have C0 := load_any w5 HF5.out S2.out (tx [98])
  rw [dz_g] at C0
  generalize loadS dz2 (tx [98]) = S at *
  have C1 := Lib.hid C0
  clear C0
  go_wp2_with fail
  (with_reducible refine C1.out.mono ?_); rintro e w6 ⟨rfl, M6, hf6, hM6, ho6⟩
  have hbel6 : Below w.heap.size w w6 := hbel5.trans (ho6.below hbel5.size HM5.out)
  have HF6 := Lib.hid hf6
  have HM6 := Lib.hid (fun x (hx : M6 x) => (show w.heap.size ≤ x by rcases hM6 x hx with h | h; exact HM5.out x h; exact Nat.le_trans hbel5.size h))
  clear hf6 hM6 ho6 C1 HF5 hbel5 HM5
  have C0 := write_any w6 HF6.out S2.out (tx [126]) (tx []) (by decide)
  rw [dz_h] at C0
  have C1 : Hid (Calls Try.prog 38 #[.pointer (some ⟨b, 0, none⟩), .string (tx [126]), .string (tx [])] w6 fun e w' => e = .returned (.int .i64 2) ∧ Turned M6 w6 w' b dz3) := Lib.hid C0
  clear C0
  go_wp2_with fail
  (with_reducible refine C1.out.mono ?_); rintro e w7 ⟨rfl, M7, hf7, hM7, ho7⟩
  have hbel7 : Below w.heap.size w w7 := hbel6.trans (ho7.below hbel6.size HM6.out)
  have HF7 := Lib.hid hf7
  have HM7 := Lib.hid (fun x (hx : M7 x) => (show w.heap.size ≤ x by rcases hM7 x hx with h | h; exact HM6.out x h; exact Nat.le_trans hbel6.size h))
  clear hf7 hM7 ho7 C1 HF6 hbel6 HM6
  have C1 := Lib.hid (names_any HF7.out S3.out)
  go_wp2_with fail
  (with_reducible refine C1.out.mono ?_); rintro e w8 ⟨⟨nv, rfl, ho⟩, hb8⟩
  have hn := names_in ho
  rw [dz_n] at hn
  obtain ⟨na, nc, rfl⟩ := hn.val
  have hbel8 := below_tr hbel7 hb8
  have hb9 : Below w8.heap.size w8 (w8.alloc (.cells #[.string (tx [97])] 9)) := (Below.refl _ _).alloc (Nat.le_refl _) _
  have CT := tsame_any _ _ _ _ _ ((hn.below hb9).at) (texts_lit w8 (tx [97]) 9) (by decide) (by decide)
  rw [decide_eq_true (show [tx [97]] = [tx [97]] from rfl)] at CT
  have CT1 : Hid (Calls Try.prog 19 #[.slice na 1 nc, .slice (some ⟨w8.heap.size, 0, none⟩) 1 1] (w8.alloc (.cells #[.string (tx [97])] 9)) fun e w' => e = .returned (.bool true) ∧ Below (w8.alloc (.cells #[.string (tx [97])] 9)).heap.size (w8.alloc (.cells #[.string (tx [97])] 9)) w') := Lib.hid CT
  clear CT hn ho hb8 C1 HF7 HM7
  go_wp2_with fail
  (with_reducible refine CT1.out.mono ?_); rintro e w9 ⟨rfl, hb10⟩
  go_wp2_with fail
  go_ret
  exact ⟨rfl, below_tr (below_tr hbel8 hb9) hb10⟩
end Go.Proofs.Ytmoaecicibjmnaa
