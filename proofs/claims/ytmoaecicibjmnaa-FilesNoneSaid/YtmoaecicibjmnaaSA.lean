/- saves: row, on, named, Clean. -/
import Derived.Test.YtmoaecicibjmnaaKQ
namespace Go.Proofs.Ytmoaecicibjmnaa
open Go.RowKit

set_option maxRecDepth 100000 in
set_option maxHeartbeats 4000000 in
/-- What is done one behind the other, up to an error: by an invariant of the steps. -/
theorem row_any {n b0 c : Nat} (hn : n ≤ 100) (g : Nat → Nat) (cap : Nat → Array Value) (I : Nat → World → Prop) (R : Int → World → Prop)
    (eg : ∀ j, j < n → ∀ args w, (callFunc (g j) args).run Try.prog w = .ok (.enter (g j) args) w)
    (hcell : ∀ j w, j < n → I j w → w.cell? ⟨b0, j, none⟩ = some (.func (.func (g j)) #[] (cap j)))
    (hstep : ∀ j w, j < n → I j w → Calls Try.prog (g j) (cap j) w fun e w' => ∃ r : Int, e = .returned (.int .i64 r) ∧ (r = 0 → I (j + 1) w') ∧ (r ≠ 0 → R r w'))
    (w : World) (h0 : I 0 w) : Calls Try.prog 76 #[.slice (some ⟨b0, 0, none⟩) n c] w fun e w' => ∃ r : Int, e = .returned (.int .i64 r) ∧ (r = 0 ∧ I n w' ∨ r ≠ 0 ∧ R r w') := by
  have HE := Lib.hid eg
  have HC := Lib.hid hcell
  have HS := Lib.hid hstep
  have H0 := Lib.hid h0
  clear eg hcell hstep h0
  obtain ⟨K, hK⟩ : ∃ K : Ending → World → Prop, K = fun e w' => ∃ r : Int, e = .returned (.int .i64 r) ∧ (r = 0 ∧ I n w' ∨ r ≠ 0 ∧ R r w') := ⟨_, rfl⟩
  have HK := Lib.hid hK
  rw [← hK]
  clear hK
  go_enter Try.func76, Try.ntmps76
  go_wp2_with fail
  go_loopw [8] (fun i wr => ∃ j : Nat, j ≤ n ∧ i = .int .i64 (j : Nat) ∧ Hid (I j wr)) (fun i _ => n - (intOf i).toNat)
  case atStart => exact ⟨0, Nat.zero_le _, rfl, H0⟩
  case round =>
    obtain ⟨j, hj, rfl, HI⟩ := hrel
    by_cases hlt : j < n
    · have q1 := HC.out j wr hlt HI.out
      have e1 := HE.out j hlt
      have C1 := Lib.hid (HS.out j wr hlt HI.out)
      generalize cap j = cj at *
      generalize g j = gj at *
      go_wp2_with fail
      (with_reducible refine C1.out.mono ?_); rintro e w2 ⟨r, rfl, h1, h2⟩
      by_cases hr : r = 0
      · have HI2 := Lib.hid (h1 hr)
        subst hr
        clear h1 h2 C1
        go_wp2_with fail
        case roundEnd => exact ⟨⟨j + 1, by omega, by go_num, HI2⟩, by simp [intOf]; omega⟩
      · have HR2 := Lib.hid (h2 hr)
        clear h1 h2 C1
        go_wp2_with fail
        rw [HK.out]
        exact ⟨_, rfl, .inr ⟨hr, HR2.out⟩⟩
    · obtain rfl : j = n := by omega
      go_wp2_with fail
      rw [HK.out]
      exact ⟨_, rfl, .inl ⟨rfl, HI.out⟩⟩
set_option maxRecDepth 100000 in
set_option maxHeartbeats 4000000 in
theorem son_any {M : Nat → Prop} {b : Nat} {F : FR} (w : World) (h : FSAt M w b F) (hG : Sound F) :
    Calls Try.prog 78 #[.pointer (some ⟨b, 0, none⟩)] w fun e w' => e = .returned (.int .i64 (onE F)) ∧ Turned M w w' b F := by
  have CF := fail_any w h hG (-1) (v := .slice none 0 0) (l := []) (P := fun _ => True) ⟨none, 0, rfl, fun h => absurd rfl h⟩ (Nat.zero_le _)
  have e1 : failF F (-1) [] = F := by unfold failF; rw [if_pos (.inr (by omega))]
  rw [e1] at CF
  unfold failE at CF
  unfold onE
  clear h hG e1
  by_cases ho : F.off = true
  · rw [if_pos ho] at CF ⊢
    have C1 := Lib.hid CF
    clear CF ho
    go_enter Try.func78, Try.ntmps78
    go_wp2_with fail
    (with_reducible refine C1.out.mono ?_); rintro e w2 ⟨rfl, ht⟩
    have HT := Lib.hid ht
    clear ht
    go_wp2_with fail
    go_ret
    exact ⟨rfl, HT.out⟩
  · rw [if_neg ho] at CF ⊢
    rw [if_pos (by omega)] at CF
    have C1 := Lib.hid CF
    clear CF ho
    go_enter Try.func78, Try.ntmps78
    go_wp2_with fail
    (with_reducible refine C1.out.mono ?_); rintro e w2 ⟨rfl, ht⟩
    have HT := Lib.hid ht
    clear ht
    go_wp2_with fail
    go_ret
    exact ⟨rfl, HT.out⟩
/-- The draft's name. -/
abbrev dN : ByteArray := tx [126]
def badN (n : ByteArray) : Prop := n.size = 0 ∨ 16 < n.size ∨ n = dN
instance (n : ByteArray) : Decidable (badN n) := by unfold badN; exact inferInstance
def nameE (n : ByteArray) : Int := if badN n then 2 else 0
theorem toList_beq (a b : ByteArray) : (a.toList == b.toList) = decide (a = b) := by
  by_cases h : a = b
  · subst h; simp
  · rw [decide_eq_false h]
    cases e : (a.toList == b.toList) with
    | false => rfl
    | true => exact absurd (toList_inj (by simpa using e)) h
theorem empty_iff (a : ByteArray) : a = ⟨#[]⟩ ↔ a.size = 0 := by
  constructor
  · rintro rfl; rfl
  · intro h; exact ByteArray.ext (Array.eq_empty_of_size_eq_zero h)
set_option maxRecDepth 100000 in
set_option maxHeartbeats 4000000 in
theorem snamed_any (w : World) (n : ByteArray) : Calls Try.prog 80 #[.string n] w fun e w' => e = .returned (.int .i64 (nameE n)) ∧ w' = w := by
  have t1 : n.toList.isEmpty = decide (n.size = 0) := by
    rw [ByteArray.toList_eq]
    show n.data.toList.isEmpty = decide (n.data.size = 0)
    rw [← Array.length_toList]
    cases n.data.toList <;> simp
  have t2 : (n.toList == [126]) = decide (n = ⟨#[126]⟩) := by
    have h : (⟨#[126]⟩ : ByteArray).toList = [126] := by rw [ByteArray.toList_eq]
    have h2 := toList_beq n ⟨#[126]⟩
    rw [h] at h2
    exact h2
  have t3 : n.toList = [] ↔ n.size = 0 := by
    rw [← List.isEmpty_iff, t1]; simp
  unfold nameE
  by_cases h1 : n.size = 0
  · rw [if_pos (show badN n from .inl h1)]
    rw [decide_eq_true h1] at t1
    have t4 := t3.2 h1
    rw [t4] at t2
    rw [show ([] == [(126 : UInt8)]) = false from rfl] at t2
    clear t2 t3
    go_enter Try.func80, Try.ntmps80
    go_wp2_with fail
    go_ret
    exact ⟨rfl, rfl⟩
  · rw [decide_eq_false h1] at t1
    have t4 : ¬ n.toList = [] := fun e => h1 (t3.1 e)
    clear t3
    by_cases h2 : 16 < n.size
    · rw [if_pos (show badN n from .inr (.inl h2))]
      clear t2
      go_enter Try.func80, Try.ntmps80
      go_wp2_with fail
      go_ret
      exact ⟨rfl, rfl⟩
    · by_cases h3 : n = ⟨#[126]⟩
      · rw [if_pos (show badN n from .inr (.inr h3))]
        rw [decide_eq_true h3] at t2
        clear h3
        go_enter Try.func80, Try.ntmps80
        go_wp2_with fail
        go_ret
        exact ⟨rfl, rfl⟩
      · rw [if_neg (show ¬ badN n from fun h => by rcases h with h | h | h; exact h1 h; exact h2 h; exact h3 h)]
        rw [decide_eq_false h3] at t2
        clear h3
        go_enter Try.func80, Try.ntmps80
        go_wp2_with fail
        go_ret
        exact ⟨rfl, rfl⟩
def cleanE (F : FR) : Int := if strokeE F dN = 4 then 0 else strokeE F dN
set_option maxRecDepth 100000 in
set_option maxHeartbeats 4000000 in
theorem clean_any {M : Nat → Prop} {b : Nat} {F : FR} (w : World) (h : FSAt M w b F) (hG : Sound F) :
    Calls Try.prog 39 #[.pointer (some ⟨b, 0, none⟩)] w fun e w' => e = .returned (.int .i64 (cleanE F)) ∧ Turned M w w' b (removeF F dN) := by
  have C1 := Lib.hid (remove_any w h hG dN)
  unfold cleanE
  generalize removeF F dN = R at *
  generalize strokeE F dN = E at *
  clear h hG
  by_cases h4 : E = 4
  · subst h4
    rw [if_pos rfl]
    go_enter Try.func39, Try.ntmps39
    go_wp2_with fail
    (with_reducible refine C1.out.mono ?_); rintro e w2 ⟨rfl, ht⟩
    have HT := Lib.hid ht
    clear ht
    go_wp2_with fail
    go_ret
    exact ⟨rfl, HT.out⟩
  · rw [if_neg h4]
    go_enter Try.func39, Try.ntmps39
    go_wp2_with fail
    (with_reducible refine C1.out.mono ?_); rintro e w2 ⟨rfl, ht⟩
    have HT := Lib.hid ht
    clear ht
    go_wp2_with fail
    go_ret
    exact ⟨rfl, HT.out⟩
end Go.Proofs.Ytmoaecicibjmnaa
