/- The walk of SumsNoughts: true for every text and every byte. -/
import Derived.Test.YtmldoinenfpofaaI
import Derived.Deep.OwnRows
namespace Go.Proofs.Ytmldoinenfpofaa
open Go.RowKit

theorem sum_more (l c : List UInt8) : more (sum l) c = sum (l ++ c) := by
  unfold more
  rw [lo_sum, hi_sum]
  unfold sum
  rw [f1_append, f2_append]
  have e1 : ((f1 l + f1 c : Nat) : Int) = f1 l + f1 c := by simp
  have e2 : ((f2 l + f1 l * c.length + f2 c : Nat) : Int) = f2 l + f1 l * c.length + f2 c := by simp
  rw [e1, e2]
  generalize (f1 l : Int) = p
  generalize (f2 l : Int) = q
  generalize (f1 c : Int) = r
  generalize (f2 c : Int) = t
  generalize (c.length : Int) = v
  congr 1
  · congr 1
    have h1 : (p % 65535 * v) % 65535 = (p * v) % 65535 := by rw [Int.mul_emod, Int.emod_emod, ← Int.mul_emod]
    generalize p % 65535 * v = a at *
    generalize p * v = b at *
    omega
  · omega
theorem toList_append (a b : ByteArray) : (a ++ b).data.toList = a.data.toList ++ b.data.toList := by
  rw [ByteArray.data_append, Array.toList_append]
def zeros (m : Nat) : List UInt8 := List.replicate m 0
theorem f1_zeros (m : Nat) : f1 (zeros m) = 0 := by
  induction m with
  | zero => rfl
  | succ m ih => unfold zeros at *; rw [List.replicate_succ, f1, ih]; rfl
theorem w2_zeros (n m : Nat) : w2 n (zeros m) = 0 := by
  induction m generalizing n with
  | zero => rfl
  | succ m ih => unfold zeros at *; rw [List.replicate_succ, w2, ih]; simp
theorem sum_zeros (m : Nat) : sum (zeros m) = 0 := by unfold sum f2; rw [f1_zeros, w2_zeros]; rfl
theorem sum_zeros_ahead (m : Nat) (l : List UInt8) : sum (zeros m ++ l) = sum l := by
  rw [← sum_more, sum_zeros, more_zero]
theorem sum_zeros_behind (m : Nat) (l : List UInt8) : sum (l ++ zeros m) = join (sum l) 0 m := by
  rw [← sum_more, more_join, sum_zeros]; simp [zeros]

theorem Try.info5 : (Try.prog.info? 5).map (fun i => (i.zero, i.size, i.bytes)) = some (some (.int .u8 0), 1, 1) := by kernel_rfl

set_option maxRecDepth 100000 in
theorem noughts_law (s : ByteArray) (m : Int) (w : World) (hs : s.size ≤ 9223372036854775807) (h0 : 0 ≤ m) (h1 : m < 256) :
    Calls Try.prog 7 #[.string s, .int .u8 m] w fun e w' => e = .returned (.bool true) ∧ Below w.heap.size w w' := by
  obtain ⟨n, rfl⟩ := Int.eq_ofNat_of_zero_le h0
  by_cases h : s.size ≤ 20000
  · obtain ⟨z, hz⟩ : ∃ z : ByteArray, z = ⟨(zeros n).toArray⟩ := ⟨_, rfl⟩
    have hzl : z.data.toList = zeros n := by rw [hz]
    have hzs : z.size ≤ 255 := by rw [hz]; simp [zeros, ByteArray.size]; omega
    have hmk := run_make_row' (P := Try.prog) 33 5 (.int .u8 0) 1 Try.underlying33 Try.info5 rfl .i64 .i64 n (by omega) (by omega)
    have hcv : ∀ w : World, (convert 33 9 (.slice (some ⟨w.heap.size, 0, none⟩) n n)).run Try.prog (w.alloc (.cells (madeCells #[.int .u8 0] n) 5)) = .ok (.string z) (w.alloc (.cells (madeCells #[.int .u8 0] n) 5)) := fun w => by
      have h := run_convert_bytes_back (P := Try.prog) (w.alloc (.cells (madeCells #[.int .u8 0] n) 5)) 33 9 5 ⟨w.heap.size, 0, none⟩ n (zeros n) Try.underlying33 Try.underlying5 Try.underlying9 (fun j hj => by
        have hj' : j < n := by simpa [zeros] using hj
        rw [show (zeros n)[j] = 0 from by simp [zeros]]
        have e : (⟨w.heap.size, 0, none⟩ : Addr).add j = ⟨w.heap.size, j, none⟩ := by unfold Addr.add; split <;> simp_all
        rw [e]
        simp [go_sem, madeCells, hj', Nat.mod_one])
      rw [show (zeros n).length = n from by simp [zeros], ← hz] at h
      exact h
    have HZ := Lib.hid hzl
    clear hz hzl
    have c0 := fun w => sum_any s w (by omega)
    have c1 := fun w => sum_any (z ++ s) w (by rw [ByteArray.size_append]; omega)
    have c2 := fun w => sum_any (s ++ z) w (by rw [ByteArray.size_append]; omega)
    have c3 := fun w => sum_any z w (by omega)
    have hb := sum_bd s.data.toList
    have c4 := fun w => join_any (sum s.data.toList) 0 n w hb.1 hb.2 (by omega) (by omega) (by omega) (by omega)
    simp only [toList_append, HZ.out, sum_zeros_ahead, sum_zeros_behind, sum_zeros] at c1 c2 c3
    generalize sum s.data.toList = σ at *
    generalize join σ 0 n = τ at *
    have C0 := Lib.hid c0
    have C1 := Lib.hid c1
    have C2 := Lib.hid c2
    have C3 := Lib.hid c3
    have C4 := Lib.hid c4
    clear c0 c1 c2 c3 c4 hb
    have HCV := Lib.hid hcv
    clear hcv
    have hcv := HCV.out w
    go_enter Try.func7, Try.ntmps7
    go_wp2_with fail
    (with_reducible refine (C0.out _).mono ?_); rintro e w1 ⟨rfl, hb0⟩
    have hb : Below w.heap.size w w1 := ((Below.refl _ w).alloc (Nat.le_refl _) _).trans (hb0.mono (by simp))
    clear hb0
    go_wp2_with fail
    (with_reducible refine (C1.out _).mono ?_); rintro e w2 ⟨rfl, hb2⟩; have hb := below_tr hb hb2; clear hb2
    go_wp2_with fail
    (with_reducible refine (C2.out _).mono ?_); rintro e w2 ⟨rfl, hb2⟩; have hb := below_tr hb hb2; clear hb2
    go_wp2_with fail
    (with_reducible refine (C4.out _).mono ?_); rintro e w2 ⟨rfl, hb2⟩; have hb := below_tr hb hb2; clear hb2
    go_wp2_with fail
    (with_reducible refine (C3.out _).mono ?_); rintro e w2 ⟨rfl, hb2⟩; have hb := below_tr hb hb2; clear hb2
    go_wp2_with fail
    (with_reducible refine (told_any _).mono ?_); rintro e w5 ⟨rfl, hb2⟩; have hb := below_tr hb hb2; clear hb2
    go_wp2_with fail
    go_ret
    exact ⟨rfl, hb⟩
  · go_enter Try.func7, Try.ntmps7
    go_wp2_with fail
    (with_reducible refine (told_any _).mono ?_); rintro e w5 ⟨rfl, hb⟩
    go_wp2_with fail
    go_ret
    exact ⟨rfl, hb⟩
end Go.Proofs.Ytmldoinenfpofaa
