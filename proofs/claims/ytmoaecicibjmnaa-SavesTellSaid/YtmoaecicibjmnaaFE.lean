/- (*FS).has, (*FS).Read. -/
import Derived.Test.YtmoaecicibjmnaaFD
namespace Go.Proofs.Ytmoaecicibjmnaa
open Go.RowKit

def hasE (F : FR) (n : ByteArray) : Int := if F.off = true then 51 else if isAt F.files n = true then 0 else 4
theorem hasE_ok {F : FR} {n : ByteArray} (h : hasE F n = 0) : F.off = false ∧ isAt F.files n = true := by
  unfold hasE at h
  split at h
  · cases h
  · rename_i h1
    split at h
    · rename_i h2; exact ⟨by cases e : F.off; rfl; exact absurd e h1, h2⟩
    · cases h
theorem isAt_get {L : List PF} {n : ByteArray} (h : isAt L n = true) : ∃ x, L[place L n]? = some x ∧ x.name = n := by
  unfold isAt at h
  split at h
  · rename_i x hx
    exact ⟨x, hx, of_decide_eq_true h⟩
  · cases h
theorem isAt_lt {L : List PF} {n : ByteArray} (h : isAt L n = true) : place L n < L.length := by
  obtain ⟨x, hx, _⟩ := isAt_get h
  exact (List.getElem?_eq_some_iff.1 hx).1
set_option maxRecDepth 100000 in
theorem has_bad {M : Nat → Prop} {w : World} {b : Nat} {F : FR} (h : FSAt M w b F) (hG : Sound F) (n : ByteArray) (hz : hasE F n ≠ 0) :
    Calls Try.prog 59 #[.pointer (some ⟨b, 0, none⟩), .string n] w fun e w' =>
      e = .returned (.tuple #[.pointer none, .int .i64 (hasE F n)]) ∧ Below w.heap.size w w' := by
  have C1 := Lib.hid (on_any h hG.lim)
  have C2 := Lib.hid (at_any h hG n)
  unfold hasE at hz ⊢
  unfold onE at C1
  clear h hG
  by_cases ho : F.off = true
  · rw [if_pos ho] at hz C1 ⊢
    clear hz C2
    go_enter Try.func59, Try.ntmps59
    go_wp2_with fail
    (with_reducible refine C1.out.mono ?_); rintro e w2 ⟨rfl, rfl⟩
    go_wp2_with fail
    go_ret2
    exact ⟨rfl, Below.refl _ _⟩
  · rw [if_neg ho] at hz C1 ⊢
    by_cases hi : isAt F.files n = true
    · rw [if_pos hi] at hz
      exact absurd rfl hz
    · rw [if_neg hi] at hz ⊢
      have hi' : isAt F.files n = false := by cases e : isAt F.files n; rfl; exact absurd e hi
      rw [hi'] at C2
      clear hz hi hi' ho
      go_enter Try.func59, Try.ntmps59
      go_wp2_with fail
      (with_reducible refine C1.out.mono ?_); rintro e w2 ⟨rfl, rfl⟩
      go_wp2_with fail
      (with_reducible refine C2.out.mono ?_); rintro e w3 ⟨rfl, hb3⟩
      go_wp2_with fail
      go_ret2
      exact ⟨rfl, hb3⟩
set_option maxRecDepth 100000 in
theorem has_ok {M : Nat → Prop} {w : World} {b : Nat} {F : FR} {fv kv : Value} (h : FSIn M w b F fv kv) (hG : Sound F) (n : ByteArray) (hz : hasE F n = 0) :
    Calls Try.prog 59 #[.pointer (some ⟨b, 0, none⟩), .string n] w fun e w' =>
      (∃ g cap, fv = .slice (some ⟨g, 0, none⟩) F.files.length cap ∧ e = .returned (.tuple #[.pointer (some ⟨g, place F.files n * 3, none⟩), .int .i64 0])) ∧ Below w.heap.size w w' := by
  obtain ⟨ho, hi⟩ := hasE_ok hz
  have C1 := Lib.hid (on_any ⟨fv, kv, h⟩ hG.lim)
  have C2 := Lib.hid (at_any ⟨fv, kv, h⟩ hG n)
  unfold onE at C1
  rw [if_neg (by rw [ho]; decide)] at C1
  rw [hi] at C2
  have hlt := isAt_lt hi
  obtain ⟨g, cap, rfl, h1, h2, _⟩ := own_files h.own (by intro e; rw [e] at hlt; simp at hlt)
  have hbl := h.box.lt
  have c3 := h.box.c3
  have hcnt := hG.cnt
  unfold maxLen at h2
  clear h hG hi ho hz
  obtain ⟨q, hq⟩ : ∃ q, q = F.files.length := ⟨_, rfl⟩
  rw [← hq] at c3 hlt hcnt h1 ⊢
  clear hq
  generalize place F.files n = p at C2 hlt ⊢
  go_enter Try.func59, Try.ntmps59
  go_wp2_with fail
  (with_reducible refine C1.out.mono ?_); rintro e w2 ⟨rfl, rfl⟩
  go_wp2_with fail
  (with_reducible refine C2.out.mono ?_); rintro e w3 ⟨rfl, hb3⟩
  rw [← hb3.cell (p := ⟨b, 3, none⟩) hbl] at c3
  go_wp2_with fail
  go_ret2
  exact ⟨⟨g, cap, rfl, rfl⟩, hb3⟩
/-- What Read tells. -/
def readS (F : FR) (n : ByteArray) : ByteArray := if hasE F n = 0 then (match F.files[place F.files n]? with | some x => x.bytes | none => ByteArray.empty) else ByteArray.empty
set_option maxRecDepth 100000 in
theorem read_any {M : Nat → Prop} {w : World} {b : Nat} {F : FR} (h : FSAt M w b F) (hG : Sound F) (n : ByteArray) :
    Calls Try.prog 28 #[.pointer (some ⟨b, 0, none⟩), .string n] w fun e w' =>
      e = .returned (.tuple #[.string (readS F n), .int .i64 (hasE F n)]) ∧ Below w.heap.size w w' := by
  by_cases hz : hasE F n = 0
  · obtain ⟨fv, kv, h⟩ := h
    have C1 := Lib.hid (has_ok h hG n hz)
    obtain ⟨x, hx, hxn⟩ := isAt_get (hasE_ok hz).2
    clear hxn
    have hr : readS F n = x.bytes := by unfold readS; rw [if_pos hz, hx]
    have hown := Lib.hid h.own
    have C2 := fun w1 => Lib.hid (bytes_any x (hG.size (List.mem_of_getElem? hx)) w1)
    have HX := Lib.hid hx
    obtain ⟨S, hS⟩ : ∃ S, S = x.bytes := ⟨_, rfl⟩
    rw [hr, hz, ← hS]
    simp only [← hS] at C2
    clear hr hz hx h hG hS
    go_enter Try.func28, Try.ntmps28
    go_wp2_with fail
    (with_reducible refine C1.out.mono ?_); rintro e w2 ⟨⟨g, cap, rfl, rfl⟩, hb2⟩
    obtain ⟨g', cap', he, _, _, hg, hc, _⟩ := own_files hown.out (by intro e; have := HX.out; rw [e] at this; simp at this)
    cases he
    obtain ⟨d0, d1, d2⟩ := hc _ x HX.out
    rw [← hb2.cell (p := ⟨g, place F.files n * 3, none⟩) hg] at d0
    rw [← hb2.cell (p := ⟨g, place F.files n * 3 + 1, none⟩) hg] at d1
    rw [← hb2.cell (p := ⟨g, place F.files n * 3 + 2, none⟩) hg] at d2
    clear hc
    go_wp2_with fail
    (with_reducible refine (C2 _).out.mono ?_); rintro e w3 ⟨rfl, hb3⟩
    go_wp2_with fail
    go_ret2
    exact ⟨rfl, below_tr hb2 hb3⟩
  · have C1 := Lib.hid (has_bad h hG n hz)
    have hr : readS F n = ⟨#[]⟩ := by unfold readS; rw [if_neg hz]; rfl
    rw [hr]
    have hz' : (hasE F n != 0) = true := by simpa using hz
    generalize hasE F n = z at *
    clear hz h hG hr
    go_enter Try.func28, Try.ntmps28
    go_wp2_with fail
    (with_reducible refine C1.out.mono ?_); rintro e w2 ⟨rfl, hb2⟩
    go_wp2_with fail
    go_ret2
    exact ⟨rfl, hb2⟩
end Go.Proofs.Ytmoaecicibjmnaa
