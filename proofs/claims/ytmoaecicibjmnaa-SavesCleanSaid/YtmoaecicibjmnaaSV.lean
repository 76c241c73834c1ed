/- SavesClean: the walk. -/
import Derived.Test.YtmoaecicibjmnaaSU
namespace Go.Proofs.Ytmoaecicibjmnaa
open Go.RowKit

theorem ints_two (w : World) (t : TypeId) (a b : Int) : IntsIn (fun k => w.heap.size ≤ k) (w.alloc (.cells #[.int .i64 a, .int .i64 b] t)) (.slice (some ⟨w.heap.size, 0, none⟩) 2 2) [a, b] :=
  ⟨_, 2, rfl, fun _ => ⟨_, 0, rfl, by rw [size_alloc]; exact Nat.lt_succ_self _, Nat.le_refl _, fun j hj => by
    have hj : j < 2 := hj
    rw [cell_at (by rw [heap_alloc, if_pos rfl])]
    rcases (show j = 0 ∨ j = 1 by omega) with rfl | rfl <;> rfl⟩⟩
theorem names_two (u : ByteArray) (s : Int) (keep : List Int) (P : ByteArray) : ((cl4 u s keep P).files.map PF.name).length = 2 := rfl
theorem names_one (u : ByteArray) (s k : Int) (keep : List Int) : (cl1 u s keep k).files.map PF.name = [aN] := rfl
set_option maxRecDepth 100000 in
set_option maxHeartbeats 8000000 in
theorem savesClean_walk (u v : ByteArray) (n : Int) (w : World) (hn : 0 ≤ n ∧ n < 256) (b0 : u.size ≤ 9223372036854775807) (b1 : v.size ≤ 9223372036854775807) :
    Calls Try.prog 11 #[.string u, .string v, .int .u8 n] w fun e w' => e = .returned (.bool true) ∧ Below w.heap.size w w' := by
  go_enter Try.func11, Try.ntmps11
  by_cases h1 : 1000 < u.size
  · go_wp2_with fail
    go_ret
    exact ⟨rfl, Below.refl _ _⟩
  by_cases h2 : 1000 < v.size
  · go_wp2_with fail
    go_ret
    exact ⟨rfl, Below.refl _ _⟩
  obtain ⟨e1, s, kp, hF1⟩ := cl_first u (by omega)
  obtain ⟨m, hm⟩ : ∃ m : Nat, m = n.toNat % 3 := ⟨_, rfl⟩
  have hwi : n % 3 = (m : Int) := by omega
  have hm3 : m < 3 := by omega
  have S0 := Sound.new 5000 (by omega) (by omega)
  have S1 := S0.saved aN u
  rw [hF1] at S1
  have S2 : Sound (cl1 u s [0, ((v.size : Nat) : Int)] m) := S1.with' ⟨11, tx [], tx [], tx [], m, [0, ((v.size : Nat) : Int)]⟩ (by show (m : Int) ≤ _; omega) (by show 2 ≤ 1000000; omega)
  obtain ⟨e2, o2, P, hF4⟩ := cl_write u v s [0, ((v.size : Nat) : Int)] m hm3 S2 (by omega) (by omega)
  have S3 := S2.saved (tx [98]) v
  have S4 := S3.start
  rw [hF4] at S4
  have HE1 := Lib.hid e1
  have HF1' := Lib.hid hF1
  have HS0 := Lib.hid S0
  have HS1 := Lib.hid S1
  have HS2 := Lib.hid S2
  have HS3 := Lib.hid S3
  have HS4 := Lib.hid S4
  have HE2 := Lib.hid e2
  have HO2 := Lib.hid o2
  have HF4' := Lib.hid hF4
  have CN := Lib.hid (new_any 5000 w (by omega) (by omega))
  clear e1 hF1 hm S0 S1 S2 S3 S4 e2 o2 hF4
  go_wp2_with fail
  (with_reducible refine CN.out.mono ?_); rintro e w1 ⟨b, rfl, M1, hf1, hM1, hbel1⟩
  have HF1 := Lib.hid hf1
  have HM1 := Lib.hid hM1
  have C0 := write_any w1 hf1 HS0.out aN u (by omega)
  rw [HE1.out, HF1'.out] at C0
  have C1 := Lib.hid C0
  clear hf1 hM1 CN C0
  go_wp2_with fail
  (with_reducible refine C1.out.mono ?_); rintro e w2 ⟨rfl, M2, hf2, hM2, ho2⟩
  have hbel2 : Below w.heap.size w w2 := hbel1.trans (ho2.below hbel1.size HM1.out)
  have HF2 := Lib.hid hf2
  have HM2 := Lib.hid (fun x (hx : M2 x) => (show w.heap.size ≤ x by rcases hM2 x hx with h | h; exact HM1.out x h; exact Nat.le_trans hbel1.size h))
  clear hf2 hM2 ho2 C1 HF1 hbel1 HM1
  have hb3 : Below w2.heap.size w2 (w2.alloc (.cells #[.int .i64 0, .int .i64 ((v.size : Nat) : Int)] 3)) := (Below.refl _ _).alloc (Nat.le_refl _) _
  have C1 : Hid (Calls Try.prog 22 #[.pointer (some ⟨b, 0, none⟩), .int .i64 m, .slice (some ⟨w2.heap.size, 0, none⟩) 2 2] (w2.alloc (.cells #[.int .i64 0, .int .i64 ((v.size : Nat) : Int)] 3)) fun e w' => e = .returned (.int .i64 0) ∧ Turned M2 (w2.alloc (.cells #[.int .i64 0, .int .i64 ((v.size : Nat) : Int)] 3)) w' b (cl1 u s [0, ((v.size : Nat) : Int)] m)) := by
    have C0 := fail_any _ (HF2.out.below hb3) HS1.out (m : Int) (ints_two w2 3 0 ((v.size : Nat) : Int)) (by show 2 ≤ 1000000; omega)
    have e0 : failE (cl1 u s kp (-1)) (m : Int) = 0 := by unfold failE; rw [if_neg (by simp [cl1]), if_neg (by omega)]
    have e1 : failF (cl1 u s kp (-1)) (m : Int) [0, ((v.size : Nat) : Int)] = cl1 u s [0, ((v.size : Nat) : Int)] m := by unfold failF; rw [if_neg (by simp [cl1])]; rfl
    rw [e0, e1] at C0
    exact Lib.hid C0
  have hbel2' := below_tr hbel2 hb3
  go_wp2_with fail
  (with_reducible refine C1.out.mono ?_); rintro e w3 ⟨rfl, M3, hf3, hM3, ho3⟩
  have hbel3 : Below w.heap.size w w3 := hbel2'.trans (ho3.below hbel2'.size HM2.out)
  have HF3 := Lib.hid hf3
  have HM3 := Lib.hid (fun x (hx : M3 x) => (show w.heap.size ≤ x by rcases hM3 x hx with h | h; exact HM2.out x h; exact Nat.le_trans hbel2'.size h))
  clear hf3 hM3 ho3 C1 HF2 hbel2 HM2 hbel2' hb3
  have C0 := write_any w3 HF3.out HS2.out (tx [98]) v (by omega)
  rw [HE2.out] at C0
  have C1 := Lib.hid C0
  clear C0
  go_wp2_with fail
  (with_reducible refine C1.out.mono ?_); rintro e w4 ⟨rfl, M4, hf4, hM4, ho4⟩
  have hbel4 : Below w.heap.size w w4 := hbel3.trans (ho4.below hbel3.size HM3.out)
  have HF4 := Lib.hid hf4
  have HM4 := Lib.hid (fun x (hx : M4 x) => (show w.heap.size ≤ x by rcases hM4 x hx with h | h; exact HM3.out x h; exact Nat.le_trans hbel3.size h))
  clear hf4 hM4 ho4 C1 HF3 hbel3 HM3
  have C1 : Hid (Calls Try.prog 27 #[.pointer (some ⟨b, 0, none⟩)] w4 fun e w' => e = .returned (.int .i64 0) ∧ Turned M4 w4 w' b (cl4 u s [0, ((v.size : Nat) : Int)] P)) := by
    have C0 := start_any w4 HF4.out HS3.out
    unfold startE at C0
    rw [if_pos HO2.out, HF4'.out] at C0
    exact Lib.hid C0
  go_wp2_with fail
  (with_reducible refine C1.out.mono ?_); rintro e w5 ⟨rfl, M5, hf5, hM5, ho5⟩
  have hbel5 : Below w.heap.size w w5 := hbel4.trans (ho5.below hbel4.size HM4.out)
  have HF5 := Lib.hid hf5
  have HM5 := Lib.hid (fun x (hx : M5 x) => (show w.heap.size ≤ x by rcases hM5 x hx with h | h; exact HM4.out x h; exact Nat.le_trans hbel4.size h))
  clear hf5 hM5 ho5 C1 HF4 hbel4 HM4
  have C1 := Lib.hid (names_any HF5.out HS4.out)
  go_wp2_with fail
  (with_reducible refine C1.out.mono ?_); rintro e w6 ⟨⟨nv, rfl, ho⟩, hb6⟩
  obtain ⟨na, nc, hnv⟩ := (names_in ho).val
  rw [names_two] at hnv
  subst hnv
  have hbel6 := below_tr hbel5 hb6
  have HF6 := Lib.hid (HF5.out.below hb6)
  have HM6 : Hid (∀ x, M5 x → w.heap.size ≤ x) := HM5
  have C0 := load_any w6 HF6.out HS4.out dN
  rw [load_bad (show (cl4 u s [0, ((v.size : Nat) : Int)] P).off = false from rfl) d_bad] at C0
  generalize loadS (cl4 u s [0, ((v.size : Nat) : Int)] P) dN = X at *
  have C2 := Lib.hid C0
  clear C0 C1 ho hb6 HF5 hbel5 HM5
  go_wp2_with fail
  (with_reducible refine C2.out.mono ?_); rintro e w7 ⟨rfl, M7, hf7, hM7, ho7⟩
  have hbel7 : Below w.heap.size w w7 := hbel6.trans (ho7.below hbel6.size HM6.out)
  have HF7 := Lib.hid hf7
  have HM7 := Lib.hid (fun x (hx : M7 x) => (show w.heap.size ≤ x by rcases hM7 x hx with h | h; exact HM6.out x h; exact Nat.le_trans hbel6.size h))
  clear hf7 hM7 ho7 C2 HF6 hbel6 HM6
  have C0 := clean_any w7 HF7.out HS4.out
  have HS5 := Lib.hid HS4.out.w3
  unfold wF3 at HS5
  rw [(cl_clean u s [0, ((v.size : Nat) : Int)] P).2] at HS5
  rw [(cl_clean u s [0, ((v.size : Nat) : Int)] P).1, (cl_clean u s [0, ((v.size : Nat) : Int)] P).2] at C0
  have C1 := Lib.hid C0
  clear C0
  go_wp2_with fail
  (with_reducible refine C1.out.mono ?_); rintro e w8 ⟨rfl, M8, hf8, hM8, ho8⟩
  have hbel8 : Below w.heap.size w w8 := hbel7.trans (ho8.below hbel7.size HM7.out)
  have HF8 := Lib.hid hf8
  have HM8 := Lib.hid (fun x (hx : M8 x) => (show w.heap.size ≤ x by rcases hM8 x hx with h | h; exact HM7.out x h; exact Nat.le_trans hbel7.size h))
  clear hf8 hM8 ho8 C1 HF7 hbel7 HM7
  have C1 := Lib.hid (names_any HF8.out HS5.out)
  go_wp2_with fail
  (with_reducible refine C1.out.mono ?_); rintro e w9 ⟨⟨nv2, rfl, ho⟩, hb9⟩
  have hn := names_in ho
  rw [names_one] at hn
  obtain ⟨na2, nc2, rfl⟩ := hn.val
  have hb10 : Below w9.heap.size w9 (w9.alloc (.cells #[.string aN] 9)) := (Below.refl _ _).alloc (Nat.le_refl _) _
  have CT := tsame_any _ _ _ _ _ ((hn.below hb10).at) (texts_lit w9 aN 9) (by decide) (by decide)
  rw [decide_eq_true (show [aN] = [aN] from rfl)] at CT
  have CT1 : Hid (Calls Try.prog 19 #[.slice na2 1 nc2, .slice (some ⟨w9.heap.size, 0, none⟩) 1 1] (w9.alloc (.cells #[.string aN] 9)) fun e w' => e = .returned (.bool true) ∧ Below (w9.alloc (.cells #[.string aN] 9)).heap.size (w9.alloc (.cells #[.string aN] 9)) w') := Lib.hid CT
  have hbel9 := below_tr (below_tr hbel8 hb9) hb10
  have HF9 := Lib.hid ((HF8.out.below hb9).below hb10)
  clear CT hn ho hb9 hb10 C1 HF8 hbel8
  go_wp2_with fail
  (with_reducible refine CT1.out.mono ?_); rintro e w10 ⟨rfl, hb11⟩
  have hbel10 := below_tr hbel9 hb11
  have HF10 := Lib.hid (HF9.out.below hb11)
  have HM10 : Hid (∀ x, M8 x → w.heap.size ≤ x) := HM8
  have C0 := clean_any w10 HF10.out HS5.out
  rw [(cl_clean2 u (wrap64 (s + 1)) [0, ((v.size : Nat) : Int)]).1, (cl_clean2 u (wrap64 (s + 1)) [0, ((v.size : Nat) : Int)]).2] at C0
  have C1 := Lib.hid C0
  clear C0 CT1 hb11 HF9 hbel9 HM8
  go_wp2_with fail
  (with_reducible refine C1.out.mono ?_); rintro e w11 ⟨rfl, M11, hf11, hM11, ho11⟩
  have hbel11 : Below w.heap.size w w11 := hbel10.trans (ho11.below hbel10.size HM10.out)
  have HF11 := Lib.hid hf11
  have HM11 := Lib.hid (fun x (hx : M11 x) => (show w.heap.size ≤ x by rcases hM11 x hx with h | h; exact HM10.out x h; exact Nat.le_trans hbel10.size h))
  clear hf11 hM11 ho11 C1 HF10 hbel10 HM10
  have C0 := load_any w11 HF11.out HS5.out aN
  rw [(cl_load u (wrap64 (s + 1)) [0, ((v.size : Nat) : Int)]).1, (cl_load u (wrap64 (s + 1)) [0, ((v.size : Nat) : Int)]).2] at C0
  have C1 := Lib.hid C0
  clear C0
  go_wp2_with fail
  (with_reducible refine C1.out.mono ?_); rintro e w12 ⟨rfl, M12, hf12, hM12, ho12⟩
  have hbel12 : Below w.heap.size w w12 := hbel11.trans (ho12.below hbel11.size HM11.out)
  have HF12 := Lib.hid hf12
  have HM12 := Lib.hid (fun x (hx : M12 x) => (show w.heap.size ≤ x by rcases hM12 x hx with h | h; exact HM11.out x h; exact Nat.le_trans hbel11.size h))
  clear hf12 hM12 ho12 C1 HF11 hbel11 HM11
  have CD := Lib.hid (sdoes_any w12)
  go_wp2_with fail
  (with_reducible refine CD.out.mono ?_); rintro e w13 ⟨rfl, hb13⟩
  go_wp2_with fail
  go_ret
  exact ⟨rfl, below_tr hbel12 hb13⟩
end Go.Proofs.Ytmoaecicibjmnaa
