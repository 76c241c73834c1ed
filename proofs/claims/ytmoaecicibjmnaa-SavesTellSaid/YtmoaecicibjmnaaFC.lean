/- Where a name stands in a list of files: strings.Compare, slices.BinarySearchFunc, (*FS).at. -/
import Derived.Test.YtmoaecicibjmnaaFB
import Derived.Lib.Bytealg
import Derived.Laws.Externs
namespace Go.Proofs.Ytmoaecicibjmnaa
open Go.RowKit

/-! ### The order of names -/
theorem u8_lt {a b : UInt8} : (a < b) ↔ a.toNat < b.toNat := Iff.rfl
theorem u8_eq {a b : UInt8} (h : a.toNat = b.toNat) : a = b := UInt8.toNat_inj.1 h
theorem less_nil (x : List UInt8) : Op.bytesLess x [] = false := by unfold Op.bytesLess; rfl
theorem less_cons (a b : UInt8) (x y : List UInt8) : Op.bytesLess (a :: x) (b :: y) = (decide (a < b) || (a == b && Op.bytesLess x y)) := by
  rw [Op.bytesLess]
theorem less_irr : ∀ x : List UInt8, Op.bytesLess x x = false
  | [] => less_nil _
  | a :: x => by rw [less_cons, less_irr x]; simp
theorem less_trans : ∀ {x y z : List UInt8}, Op.bytesLess x y = true → Op.bytesLess y z = true → Op.bytesLess x z = true
  | _, [], _, h, _ => by rw [less_nil] at h; cases h
  | _, _ :: _, [], _, h => by rw [less_nil] at h; cases h
  | [], _ :: _, _ :: _, _, _ => rfl
  | a :: x, b :: y, c :: z, h1, h2 => by
    rw [less_cons] at h1 h2 ⊢
    simp only [Bool.or_eq_true, decide_eq_true_eq, Bool.and_eq_true, beq_iff_eq, u8_lt] at h1 h2 ⊢
    rcases h1 with h1 | ⟨rfl, h1⟩
    · rcases h2 with h2 | ⟨rfl, h2⟩
      · left; omega
      · left; omega
    · rcases h2 with h2 | ⟨rfl, h2⟩
      · left; omega
      · right; exact ⟨rfl, less_trans h1 h2⟩
theorem less_tri : ∀ {x y : List UInt8}, Op.bytesLess x y = false → Op.bytesLess y x = false → x = y
  | [], [], _, _ => rfl
  | [], _ :: _, h, _ => by cases h
  | _ :: _, [], _, h => by cases h
  | a :: x, b :: y, h1, h2 => by
    rw [less_cons] at h1 h2
    simp only [Bool.or_eq_false_iff, decide_eq_false_iff_not, u8_lt, Bool.and_eq_false_iff, beq_eq_false_iff_ne] at h1 h2
    have e : a = b := u8_eq (by omega)
    subst e
    have h3 : Op.bytesLess x y = false := by rcases h1.2 with h | h; exact absurd rfl h; exact h
    have h4 : Op.bytesLess y x = false := by rcases h2.2 with h | h; exact absurd rfl h; exact h
    rw [less_tri h3 h4]
theorem cmp_less : ∀ (x y : List UInt8), decide (Lib.compareBytes x y < 0) = Op.bytesLess x y
  | [], [] => rfl
  | [], _ :: _ => rfl
  | _ :: _, [] => rfl
  | a :: x, b :: y => by
    unfold Lib.compareBytes
    rw [less_cons, ← cmp_less x y]
    by_cases h1 : a < b
    · simp [h1]
    · by_cases h2 : b < a
      · have h3 : (a == b) = false := by rw [beq_eq_false_iff_ne]; rintro rfl; exact h1 h2
        rw [if_neg h1, if_pos h2, h3, decide_eq_false h1]; rfl
      · have h3 : a = b := u8_eq (by rw [u8_lt] at h1 h2; omega)
        subst h3
        rw [if_neg h1, if_neg h2, decide_eq_false h1]; simp
theorem cmp_zero : ∀ (x y : List UInt8), (Lib.compareBytes x y == 0) = (x == y)
  | [], [] => rfl
  | [], _ :: _ => rfl
  | _ :: _, [] => rfl
  | a :: x, b :: y => by
    unfold Lib.compareBytes
    by_cases h1 : a < b
    · have h3 : a ≠ b := by rintro rfl; rw [u8_lt] at h1; omega
      rw [if_pos h1]; simp [h3]
    · by_cases h2 : b < a
      · have h3 : a ≠ b := by rintro rfl; exact h1 h2
        rw [if_neg h1, if_pos h2]; simp [h3]
      · have h3 : a = b := u8_eq (by rw [u8_lt] at h1 h2; omega)
        subst h3
        rw [if_neg h1, if_neg h2, cmp_zero x y]; simp
/-- A name stands ahead of another one. -/
def ltN (a b : ByteArray) : Bool := Op.bytesLess a.toList b.toList
theorem ltN_irr (a : ByteArray) : ltN a a = false := less_irr _
theorem ltN_trans {a b c : ByteArray} (h1 : ltN a b = true) (h2 : ltN b c = true) : ltN a c = true := less_trans h1 h2
theorem toList_inj {a b : ByteArray} (h : a.toList = b.toList) : a = b := by
  rw [ByteArray.toList_eq, ByteArray.toList_eq] at h
  cases a; cases b
  simp only at h
  rw [Array.toList_inj.1 h]
theorem ltN_tri {a b : ByteArray} (h1 : ltN a b = false) (h2 : ltN b a = false) : a = b := toList_inj (less_tri h1 h2)
def cmpN (a b : ByteArray) : Int := Lib.compareBytes a.data.toList b.data.toList
theorem cmpN_lt (a b : ByteArray) : decide (cmpN a b < 0) = ltN a b := by unfold cmpN ltN; rw [cmp_less, ByteArray.toList_eq, ByteArray.toList_eq]
theorem cmpN_eq (a b : ByteArray) : (cmpN a b == 0) = decide (a = b) := by
  unfold cmpN
  rw [cmp_zero]
  by_cases h : a = b
  · subst h; simp
  · have h2 : ¬ a.data.toList = b.data.toList := fun e => h (toList_inj (by rw [ByteArray.toList_eq, ByteArray.toList_eq]; exact e))
    rw [decide_eq_false h, beq_eq_false_iff_ne]; exact h2

/-- Rising by name. -/
def Rising (L : List PF) : Prop := L.Pairwise fun x y => ltN x.name y.name = true
/-- How many stand ahead of a name. -/
def place (L : List PF) (n : ByteArray) : Nat := (L.takeWhile fun x => ltN x.name n).length
def isAt (L : List PF) (n : ByteArray) : Bool := match L[place L n]? with
  | some x => decide (x.name = n)
  | none => false
theorem place_le : ∀ (L : List PF) (n : ByteArray), place L n ≤ L.length
  | [], _ => Nat.le_refl _
  | x :: L, n => by
    have := place_le L n
    unfold place at *
    rw [List.takeWhile_cons]
    split
    · simp only [List.length_cons]; omega
    · simp
/-- The bound of what stands ahead is the place. -/
theorem place_eq : ∀ (L : List PF) (n : ByteArray) (i : Nat), i ≤ L.length → (∀ t x, t < i → L[t]? = some x → ltN x.name n = true) → (∀ x, L[i]? = some x → ltN x.name n = false) → place L n = i
  | [], n, i, hi, _, _ => by simp at hi; subst hi; rfl
  | x :: L, n, 0, _, _, h2 => by
    have := h2 x rfl
    unfold place; rw [List.takeWhile_cons, this]; rfl
  | x :: L, n, i + 1, hi, h1, h2 => by
    have h0 := h1 0 x (by omega) rfl
    have := place_eq L n i (by simpa using hi) (fun t y ht hy => h1 (t + 1) y (by omega) (by simpa using hy)) (fun y hy => h2 y (by simpa using hy))
    unfold place at *
    rw [List.takeWhile_cons, h0]; simp [this]

/-! ### The walks -/
set_option maxHeartbeats 1000000 in
set_option maxRecDepth 100000 in
theorem compareString_any (a b : ByteArray) (w : World) : Calls Try.prog 103 #[.string a, .string b] w fun e w' => e = .returned (.int .i64 (cmpN a b)) ∧ w' = w := by
  go_enter Try.func103, Try.ntmps103
  go_wp2
  rw [run_callFunc_extern Try.func105 (by kernel_rfl) (by kernel_rfl) (by kernel_rfl) (e := Extern.BytealgCompare.compare) (by kernel_rfl), Lib.run_compareString]
  simp only [Result.andThen]
  rw [Oper.upon_value]
  go_wp2
  go_ret
  exact ⟨rfl, rfl⟩
set_option maxRecDepth 100000 in
theorem compare_any (a b : ByteArray) (w : World) : Calls Try.prog 94 #[.string a, .string b] w fun e w' => e = .returned (.int .i64 (cmpN a b)) ∧ w' = w := by
  go_enter Try.func94, Try.ntmps94
  go_wp2_with fail
  (with_reducible refine (compareString_any a b _).mono ?_); rintro e w1 ⟨rfl, rfl⟩
  go_wp2_with fail
  go_ret
  exact ⟨rfl, rfl⟩
set_option maxRecDepth 100000 in
theorem at1_any (x : PF) (n : ByteArray) (w : World) : Calls Try.prog 93 #[x.val, .string n] w fun e w' => e = .returned (.int .i64 (cmpN x.name n)) ∧ Below w.heap.size w w' := by
  obtain ⟨m, p, a⟩ := x
  go_enter Try.func93, Try.ntmps93
  go_wp2_with fail
  (with_reducible refine (compare_any m n _).mono ?_); rintro e w1 ⟨rfl, rfl⟩
  go_wp2_with fail
  go_ret
  exact ⟨rfl, by go_grown⟩
end Go.Proofs.Ytmoaecicibjmnaa
