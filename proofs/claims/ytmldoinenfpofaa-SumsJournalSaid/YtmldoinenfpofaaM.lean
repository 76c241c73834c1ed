/- Plain arithmetic of Fletcher's sums over lists of bytes; no program in sight. -/
namespace Go.Proofs.Ytmldoinenfpofaa

/-- All bytes, added. -/
def f1 : List UInt8 → Nat
  | [] => 0
  | x :: r => x.toNat + f1 r
/-- Each byte times a number that falls by one from byte to byte. -/
def w2 : Nat → List UInt8 → Nat
  | _, [] => 0
  | n, x :: r => x.toNat * n + w2 (n - 1) r
def f2 (l : List UInt8) : Nat := w2 l.length l

theorem f1_append (a b : List UInt8) : f1 (a ++ b) = f1 a + f1 b := by
  induction a with
  | nil => simp [f1]
  | cons x r ih => simp only [List.cons_append, f1, ih]; omega
theorem w2_append (n : Nat) (a b : List UInt8) : w2 n (a ++ b) = w2 n a + w2 (n - a.length) b := by
  induction a generalizing n with
  | nil => simp [w2]
  | cons x r ih =>
    simp only [List.cons_append, w2, ih, List.length_cons]
    rw [show n - 1 - r.length = n - (r.length + 1) from by omega]; omega
theorem w2_more (a : List UInt8) (n m : Nat) (h : a.length ≤ n) : w2 (n + m) a = w2 n a + f1 a * m := by
  induction a generalizing n with
  | nil => simp [w2, f1]
  | cons x r ih =>
    simp only [List.length_cons] at h
    simp only [w2, f1]
    rw [show n + m - 1 = (n - 1) + m from by omega, ih (n - 1) (by omega), Nat.mul_add, Nat.add_mul]; omega
theorem f2_append (a b : List UInt8) : f2 (a ++ b) = f2 a + f1 a * b.length + f2 b := by
  unfold f2
  rw [w2_append, List.length_append, w2_more a a.length b.length (Nat.le_refl _), show a.length + b.length - a.length = b.length from by omega]
theorem f1_le (l : List UInt8) : f1 l ≤ 255 * l.length := by
  induction l with
  | nil => simp [f1]
  | cons x r ih => simp only [f1, List.length_cons]; have := x.toNat_lt; omega
theorem w2_le (n : Nat) (l : List UInt8) : w2 n l ≤ 255 * l.length * n := by
  induction l generalizing n with
  | nil => simp [w2]
  | cons x r ih =>
    simp only [w2, List.length_cons]
    have h1 := ih (n - 1)
    have h2 : 255 * r.length * (n - 1) ≤ 255 * r.length * n := Nat.mul_le_mul_left _ (by omega)
    have h3 : x.toNat * n ≤ 255 * n := Nat.mul_le_mul_right _ (by have := x.toNat_lt; omega)
    rw [show 255 * (r.length + 1) * n = 255 * r.length * n + 255 * n from by rw [Nat.mul_add, Nat.add_mul]]; omega
theorem take_snoc (l : List UInt8) (k : Nat) (h : k < l.length) : l.take (k + 1) = l.take k ++ [l[k]] := by
  rw [List.take_succ_eq_append_getElem h]
theorem f1_snoc (l : List UInt8) (k : Nat) (h : k < l.length) : f1 (l.take (k + 1)) = f1 (l.take k) + l[k].toNat := by
  rw [take_snoc l k h, f1_append]; simp [f1]
theorem w2_snoc (n : Nat) (l : List UInt8) (k : Nat) (h : k < l.length) : w2 n (l.take (k + 1)) = w2 n (l.take k) + l[k].toNat * (n - k) := by
  rw [take_snoc l k h, w2_append]; simp [w2, List.length_take, Nat.min_eq_left (Nat.le_of_lt h)]
end Go.Proofs.Ytmldoinenfpofaa
