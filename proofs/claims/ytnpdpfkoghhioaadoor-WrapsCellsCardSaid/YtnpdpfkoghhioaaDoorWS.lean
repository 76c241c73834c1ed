/- The law WrapsCells: its walk. -/
import Derived.Test.YtnpdpfkoghhioaaDoorWR
namespace Go.Proofs.YtnpdpfkoghhioaaDoor
open Go.RowKit

set_option maxRecDepth 100000 in
set_option maxHeartbeats 2000000 in
theorem wrapsCells_walk (s : ByteArray) (w : World) (h : TabOK w) :
    Calls Tryd.prog 5 #[.string s] w fun e w' => e = .returned (.bool true) ∧ Below w.heap.size w w' := by
  have HT := Lib.hid h
  clear h
  by_cases hs : s.size ≤ 3000
  · have C1 := Lib.hid (cells_any s w HT.out (by omega))
    have C2 : Hid (∀ w2, _) := Lib.hid (fun w2 => rcells_any s w2 (by omega))
    have hlen := places_len s.data.toList
    have hn : s.data.toList.length = s.size := rfl
    rw [hn] at hlen
    obtain ⟨S, hS⟩ : ∃ S : ByteArray, S = ⟨(cellsTo s.data.toList s.size).toArray⟩ := ⟨_, rfl⟩
    rw [← hS] at C1 C2
    clear hS hn
    obtain ⟨P, hP⟩ : ∃ P, P = placesL s.data.toList := ⟨_, rfl⟩
    rw [← hP] at C1 C2 hlen
    have HL : Hid (P.length ≤ 1000000) := Lib.hid (by omega)
    clear hP hlen
    go_enter Tryd.func5, Tryd.ntmps5
    go_wp2_with fail
    (with_reducible refine C1.out.mono ?_); rintro e w1 ⟨⟨v1, rfl, ho1⟩, hb1⟩
    have Ho1 := Lib.hid ho1
    clear ho1 C1
    go_wp2_with fail
    (with_reducible refine (C2.out w1).mono ?_); rintro e w2 ⟨⟨v2, rfl, ho2⟩, hb2⟩
    have S1 := Lib.hid (same4 v1 v2 P w2 (Ho1.out.later hb2) ho2 HL.out)
    have B2 := Lib.hid (tr_below hb1 hb2)
    clear ho2 Ho1 C2 hb1 hb2
    go_wp2_with fail
    (with_reducible refine S1.out.mono ?_); rintro e w3 ⟨rfl, hb3⟩
    have B3 := Lib.hid (tr_below B2.out hb3)
    clear S1 hb3
    go_wp2_with fail
    (with_reducible refine (does_any w3 (TabOK.later HT.out B3.out)).mono ?_); rintro e w4 ⟨rfl, hb4⟩
    have B4 := Lib.hid (tr_below B3.out hb4)
    clear hb4
    go_wp2_with fail
    go_ret
    exact ⟨rfl, B4.out⟩
  · go_enter Tryd.func5, Tryd.ntmps5
    have hd : decide ((3000 : Int) < (s.size : Int)) = true := by simp; omega
    go_wp2_with fail
    go_ret
    exact ⟨rfl, Below.refl _ _⟩
end Go.Proofs.YtnpdpfkoghhioaaDoor
