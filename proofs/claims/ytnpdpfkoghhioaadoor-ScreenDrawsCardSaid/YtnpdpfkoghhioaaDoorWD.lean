/- FormatUint of a byte from 128 on, to the base 8. -/
import Derived.Test.YtnpdpfkoghhioaaDoorWC
import Derived.WalkLawsBesides
import Derived.Handy
import Derived.Laws.BitsAllLaws
import Derived.Laws.BytesArg
namespace Go.Proofs.YtnpdpfkoghhioaaDoor
open Go.RowKit

theorem block_of_cell {w : World} {a : Addr} {v : Value} (h : w.cell? a = some v) : a.block < w.heap.size := by
  unfold World.cell? at h
  split at h
  · rename_i c e f hc
    exact (Array.getElem?_eq_some_iff.1 hc).1
  · cases h
def TabOK (w : World) : Prop := w.cell? ⟨3, 7, none⟩ = some (.int .u8 3)
theorem TabOK.later {w w' : World} (h : TabOK w) (hb : Below w.heap.size w w') : TabOK w' := (hb.cell (p := ⟨3, 7, none⟩) (block_of_cell h)).trans h

theorem pow_any (w : World) : Calls Tryd.prog 79 #[.int .i64 8] w fun e w' => e = .returned (.bool true) ∧ w = w' := by
  have hb : bits .and .i64 8 7 = 0 := by decide
  go_enter Tryd.func79, Tryd.ntmps79
  go_wp2
  go_ret
  exact ⟨rfl, rfl⟩
set_option maxRecDepth 100000 in
theorem tz64_any (w : World) (h : TabOK w) : Calls Tryd.prog 82 #[.int .u64 8] w fun e w' => e = .returned (.int .i64 3) ∧ w = w' := by
  unfold TabOK at h
  have e1 : bits .and .u64 8 (IntKind.u64.wrap (-8)) = 8 := by decide
  have e2 : IntKind.u64.wrap (8 * 285870213051353865) / 288230376151711744 = 7 := by decide
  go_enter Tryd.func82, Tryd.ntmps82
  go_wp2
  go_ret
  exact ⟨rfl, rfl⟩
theorem tz_any (w : World) (h : TabOK w) : Calls Tryd.prog 80 #[.int .u64 8] w fun e w' => e = .returned (.int .i64 3) ∧ w = w' := by
  go_enter Tryd.func80, Tryd.ntmps80
  go_wp2_with fail
  (with_reducible refine (tz64_any _ h).mono ?_); rintro e w' ⟨rfl, rfl⟩
  go_wp2_with fail
  go_ret
  exact ⟨rfl, rfl⟩

theorem and7 (n : Nat) (h1 : n < 4294967296) : bits .and .u64 (n : Int) 7 = ((n % 8 : Nat) : Int) := by
  have := u64_and_nat n 7 (by omega) (by decide)
  rw [show ((7 : Nat) : Int) = 7 from rfl] at this
  rw [this, show (7 : Nat) = 2 ^ 3 - 1 from rfl, Nat.and_two_pow_sub_one_eq_mod]
theorem rowc {w : World} {g : Nat} {cur : List Value} {t : TypeId} {k : Nat} {v : Value} (h : w.heap[g]? = some (.cells cur.toArray t (0, 0))) (hk : cur[k]? = some v) : w.cell? ⟨g, k, none⟩ = some v := by
  simp [World.cell?, h, hk]
theorem row_set {w : World} {b : Nat} {cur : List Value} {t : TypeId} (h : w.heap[b]? = some (.cells cur.toArray t (0, 0))) (k : Nat) (v : Value) : (w.setCell ⟨b, k, none⟩ v).heap[b]? = some (.cells (cur.set k v).toArray t (0, 0)) := by
  show (w.heap.modify b _)[b]? = _
  rw [Array.getElem?_modify, if_pos rfl, h]
  simp
def digs : ByteArray := ⟨#[48, 49, 50, 51, 52, 53, 54, 55, 56, 57, 97, 98, 99, 100, 101, 102, 103, 104, 105, 106, 107, 108, 109, 110, 111, 112, 113, 114, 115, 116, 117, 118, 119, 120, 121, 122]⟩

theorem dig_at (d : Nat) (hd : d < 8) (h : d < digs.size) : ((digs[d]'h).toNat : Int) = ((48 + d : Nat) : Int) := by
  match d, hd with
  | 0, _ => rfl
  | 1, _ => rfl
  | 2, _ => rfl
  | 3, _ => rfl
  | 4, _ => rfl
  | 5, _ => rfl
  | 6, _ => rfl
  | 7, _ => rfl

set_option maxRecDepth 100000 in
set_option maxHeartbeats 4000000 in
theorem bits8_any (c : Nat) (w : World) (h : TabOK w) (h1 : 128 ≤ c) (h2 : c < 256) :
    Calls Tryd.prog 75 #[.slice none 0 0, .int .u64 (c : Int), .int .i64 8, .bool false, .bool false] w fun e w' =>
      e = .returned (.tuple #[.slice none 0 0, .string ⟨#[UInt8.ofNat (48 + c / 64), UInt8.ofNat (48 + c / 8 % 8), UInt8.ofNat (48 + c % 8)]⟩]) ∧ Below w.heap.size w w' := by
  have HT := Lib.hid h
  obtain ⟨S, hS⟩ : ∃ S : ByteArray, S = ⟨#[UInt8.ofNat (48 + c / 64), UInt8.ofNat (48 + c / 8 % 8), UInt8.ofNat (48 + c % 8)]⟩ := ⟨_, rfl⟩
  rw [← hS]
  have HS := Lib.hid hS
  clear h hS
  go_enter Tryd.func75, Tryd.ntmps75
  go_wp2_with fail
  (with_reducible refine (pow_any _).mono ?_); rintro e w' ⟨rfl, rfl⟩
  go_wp2_with fail
  (with_reducible refine (tz_any _ (HT.out.later ((Below.refl _ _).alloc (Nat.le_refl _) _))).mono ?_); rintro e w' ⟨rfl, rfl⟩
  go_wp2_with fail
  have hz : (w.alloc (Obj.cells Tryd.zeroCells118 118)).heap[w.heap.size]? = some (.cells (Tryd.zeroCells118.toList).toArray 118 (0, 0)) := by
    rw [Array.toArray_toList]; exact heap_alloc_new w _
  have hzl : (Tryd.zeroCells118).toList.length = 65 := by kernel_rfl
  have HZ := Lib.hid hz
  clear hz
  go_loopw [1, 13] (fun u i wr => ∃ cur : List Value, Hid (wr.heap[w.heap.size]? = some (.cells cur.toArray 118 (0, 0))) ∧ Hid (cur.length = 65) ∧ Below w.heap.size w wr ∧ ((u = .int .u64 (c : Int) ∧ i = .int .i64 65) ∨ (u = .int .u64 ((c / 8 : Nat) : Int) ∧ i = .int .i64 64 ∧ Hid (cur[64]? = some (.int .u8 ((48 + c % 8 : Nat) : Int)))) ∨
      (u = .int .u64 ((c / 64 : Nat) : Int) ∧ i = .int .i64 63 ∧ Hid (cur[64]? = some (.int .u8 ((48 + c % 8 : Nat) : Int))) ∧ Hid (cur[63]? = some (.int .u8 ((48 + c / 8 % 8 : Nat) : Int)))))) (fun _ i _ => (intOf i).toNat)
  case atStart => exact ⟨_, HZ, Lib.hid hzl, (Below.refl _ _).alloc (Nat.le_refl _) _, .inl ⟨rfl, rfl⟩⟩
  case round =>
    obtain ⟨cur, hh, hlen, hbel, hcase⟩ := hrel
    rcases hcase with ⟨rfl, rfl⟩ | ⟨rfl, rfl, g0⟩ | ⟨rfl, rfl, g0, g1⟩
    · obtain ⟨old, hold⟩ : ∃ old, cur[64]? = some old := ⟨cur[64]'(by rw [hlen.out]; omega), List.getElem?_eq_getElem _⟩
      have c1 := rowc hh.out hold
      have f1 : wr.frozen? ⟨w.heap.size, 64, none⟩ = false := by simp [World.frozen?, hh.out]
      have ea := and7 c (by omega)
      obtain ⟨q, hq⟩ : ∃ q, q = c := ⟨_, rfl⟩
      have hq1 : 8 ≤ q := by omega
      have hq2 : q < 256 := by omega
      have HQ := Lib.hid hq
      obtain ⟨d, hd⟩ : ∃ d, d = c % 8 := ⟨_, rfl⟩
      have hd8 : d < 8 := by omega
      have HD := Lib.hid hd
      rw [← hd] at ea
      rw [← hq] at ea ⊢
      clear hold hd hq
      go_wp2_with fail
      go_roundw
      case rel =>
        have hdig := dig_at d hd8 (by show d < 36; omega)
        refine ⟨_, Lib.hid (row_set hh.out 64 _), Lib.hid (by rw [List.length_set]; exact hlen.out), hbel.setCell (p := ⟨w.heap.size, 64, none⟩) (Nat.le_refl _) _, .inr (.inl ⟨by rw [HQ.out]; congr 1, by go_num, Lib.hid ?_⟩)⟩
        rw [List.getElem?_set_self (by rw [hlen.out]; omega)]
        rw [show q % 8 = d by rw [HD.out, HQ.out]]
        exact congrArg (fun z => some (Value.int .u8 z)) hdig
      case measure => simp [intOf]
    · obtain ⟨old, hold⟩ : ∃ old, cur[63]? = some old := ⟨cur[63]'(by rw [hlen.out]; omega), List.getElem?_eq_getElem _⟩
      have c1 := rowc hh.out hold
      have f1 : wr.frozen? ⟨w.heap.size, 63, none⟩ = false := by simp [World.frozen?, hh.out]
      have ea := and7 (c / 8) (by omega)
      obtain ⟨q, hq⟩ : ∃ q, q = c / 8 := ⟨_, rfl⟩
      have hq1 : 8 ≤ q := by omega
      have hq2 : q < 256 := by omega
      have HQ := Lib.hid hq
      obtain ⟨d, hd⟩ : ∃ d, d = c / 8 % 8 := ⟨_, rfl⟩
      have hd8 : d < 8 := by omega
      have HD := Lib.hid hd
      rw [← hd] at ea
      rw [← hq] at ea ⊢
      clear hold hd hq
      go_wp2_with fail
      go_roundw
      case rel =>
        have hdig := dig_at d hd8 (by show d < 36; omega)
        refine ⟨_, Lib.hid (row_set hh.out 63 _), Lib.hid (by rw [List.length_set]; exact hlen.out), hbel.setCell (p := ⟨w.heap.size, 63, none⟩) (Nat.le_refl _) _, .inr (.inr ⟨by rw [HQ.out]; congr 1; omega, by go_num, Lib.hid ?_, Lib.hid ?_⟩)⟩
        · rw [List.getElem?_set_ne (by omega)]; exact g0.out
        · rw [List.getElem?_set_self (by rw [hlen.out]; omega)]
          rw [show q % 8 = d by rw [HD.out, HQ.out]]
          exact congrArg (fun z => some (Value.int .u8 z)) hdig
      case measure => simp [intOf]
    · obtain ⟨old, hold⟩ : ∃ old, cur[62]? = some old := ⟨cur[62]'(by rw [hlen.out]; omega), List.getElem?_eq_getElem _⟩
      have c1 := rowc hh.out hold
      have f1 : wr.frozen? ⟨w.heap.size, 62, none⟩ = false := by simp [World.frozen?, hh.out]
      obtain ⟨q, hq⟩ : ∃ q, q = c / 64 := ⟨_, rfl⟩
      have hq8 : q < 8 := by omega
      have HQ := Lib.hid hq
      rw [← hq]
      have hq36 : q < digs.size := by show q < 36; omega
      have hdig : ((digs[q]'hq36).toNat : Int) = 48 + (q : Int) := by rw [dig_at q hq8 hq36]; omega
      unfold digs at hdig hq36
      obtain ⟨e1, he1⟩ : ∃ e : Nat, e = 48 + c / 8 % 8 := ⟨_, rfl⟩
      obtain ⟨e0, he0⟩ : ∃ e : Nat, e = 48 + c % 8 := ⟨_, rfl⟩
      have hconv : (convert 44 9 (.slice (some ⟨w.heap.size, 62, none⟩) 3 3)).run Tryd.prog (wr.setCell ⟨w.heap.size, 62, none⟩ (.int .u8 (48 + (q : Int)))) = .ok (.string S) (wr.setCell ⟨w.heap.size, 62, none⟩ (.int .u8 (48 + (q : Int)))) := by
        rw [HS.out, ← HQ.out, ← he1, ← he0]
        have hb := row_set hh.out 62 (.int .u8 (48 + (q : Int)))
        rw [run_convert_bytes_arg _ 44 5 rfl rfl w.heap.size 62 3 3 [48 + (q : Int), (e1 : Int), (e0 : Int)] rfl (fun i hi => ?_) 9 rfl]
        · congr 2
        · match i, hi with
          | 0, _ => exact rowc hb (by rw [List.getElem?_set_self (by rw [hlen.out]; omega)]; rfl)
          | 1, _ => exact rowc hb (by rw [List.getElem?_set_ne (by omega)]; rw [he1]; exact g1.out)
          | 2, _ => exact rowc hb (by rw [List.getElem?_set_ne (by omega)]; rw [he0]; exact g0.out)
      clear hold hq he1 he0
      go_wp2_with fail
      go_ret2
      refine ⟨?_, hbel.setCell (p := ⟨w.heap.size, 62, none⟩) (Nat.le_refl _) _⟩
      rfl

theorem format_any (c : Nat) (w : World) (h : TabOK w) (h1 : 128 ≤ c) (h2 : c < 256) :
    Calls Tryd.prog 61 #[.int .u64 (c : Int), .int .i64 8] w fun e w' => e = .returned (.string ⟨#[UInt8.ofNat (48 + c / 64), UInt8.ofNat (48 + c / 8 % 8), UInt8.ofNat (48 + c % 8)]⟩) ∧ Below w.heap.size w w' := by
  have HB := Lib.hid (bits8_any c w h h1 h2)
  clear h
  obtain ⟨S, hS⟩ : ∃ S : ByteArray, S = ⟨#[UInt8.ofNat (48 + c / 64), UInt8.ofNat (48 + c / 8 % 8), UInt8.ofNat (48 + c % 8)]⟩ := ⟨_, rfl⟩
  rw [← hS] at HB ⊢
  clear hS
  have HF : Hid (Calls Tryd.prog 67 #[.int .u64 (c : Int), .int .i64 8] w fun e w' => e = .returned (.string S) ∧ Below w.heap.size w w') := by
    refine Lib.hid ?_
    go_enter Tryd.func67, Tryd.ntmps67
    go_wp2_with fail
    (with_reducible refine HB.out.mono ?_); rintro e w' ⟨rfl, hb⟩
    go_wp2_with fail
    go_ret
    exact ⟨rfl, hb⟩
  go_enter Tryd.func61, Tryd.ntmps61
  go_wp2_with fail
  (with_reducible refine HF.out.mono ?_); rintro e w' ⟨rfl, hb⟩
  go_wp2_with fail
  go_ret
  exact ⟨rfl, hb⟩
end Go.Proofs.YtnpdpfkoghhioaaDoor
