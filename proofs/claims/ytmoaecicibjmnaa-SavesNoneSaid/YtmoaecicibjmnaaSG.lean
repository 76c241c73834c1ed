/- SavesNone: the walk. -/
import Derived.Test.YtmoaecicibjmnaaSF
namespace Go.Proofs.Ytmoaecicibjmnaa
open Go.RowKit

set_option maxRecDepth 100000 in
set_option maxHeartbeats 8000000 in
theorem savesNone_walk (n t : ByteArray) (w : World) (hn : n.size ≤ 9223372036854775807) (ht : t.size ≤ 9223372036854775807) :
    Calls Try.prog 9 #[.string n, .string t] w fun e w' => e = .returned (.bool true) ∧ Below w.heap.size w w' := by
  go_enter Try.func9, Try.ntmps9
  by_cases h1 : 1000 < n.size
  · go_wp2_with fail
    go_ret
    exact ⟨rfl, Below.refl _ _⟩
  by_cases h2 : 1000 < t.size
  · go_wp2_with fail
    go_ret
    exact ⟨rfl, Below.refl _ _⟩
  go_wp2_with fail
  go_loopw [5] (fun i wr => ∃ k : Nat, k ≤ 3 ∧ i = .int .i64 (k : Nat) ∧ Below w.heap.size w wr) (fun i _ => 3 - (intOf i).toNat)
  case atStart => exact ⟨0, by omega, rfl, Below.refl _ _⟩
  case round =>
    obtain ⟨k, hk, rfl, hbel⟩ := hrel
    rcases (show k = 0 ∨ k = 1 ∨ k = 2 ∨ k = 3 by omega) with rfl | rfl | rfl | rfl
    · have HG : Hid (Gone wr none) := Lib.hid (.inl rfl)
      have CL := Lib.hid (load_gone wr HG.out n)
      go_wp2_with fail
      (with_reducible refine CL.out.mono ?_); rintro e w3 ⟨rfl, hb3⟩
      have CW := Lib.hid (write_gone w3 (HG.out.below hb3) n t)
      go_wp2_with fail
      (with_reducible refine CW.out.mono ?_); rintro e w4 ⟨rfl, hb4⟩
      have CC := Lib.hid (clean_gone w4 ((HG.out.below hb3).below hb4))
      go_wp2_with fail
      (with_reducible refine CC.out.mono ?_); rintro e w5 ⟨rfl, hb5⟩
      go_wp2_with fail
      exact ⟨⟨1, by omega, by go_num, below_tr (below_tr (below_tr hbel hb3) hb4) hb5⟩, by simp [intOf]⟩
    · go_wp2_with fail
      generalize hW : World.alloc wr _ = W
      have hbW : Below wr.heap.size wr W := by rw [← hW]; exact (Below.refl _ _).alloc (Nat.le_refl _) _
      have hc0 : W.cell? ⟨wr.heap.size, 0, none⟩ = some (.int .i64 0) := by
        rw [← hW, cell_at (by rw [heap_alloc, if_pos rfl])]; rfl
      have HG : Hid (Gone W (some ⟨wr.heap.size, 0, none⟩)) := Lib.hid (.inr ⟨_, rfl, hc0⟩)
      clear hW hc0
      have CL := Lib.hid (load_gone W HG.out n)
      (with_reducible refine CL.out.mono ?_); rintro e w3 ⟨rfl, hb3⟩
      have CW := Lib.hid (write_gone w3 (HG.out.below hb3) n t)
      go_wp2_with fail
      (with_reducible refine CW.out.mono ?_); rintro e w4 ⟨rfl, hb4⟩
      have CC := Lib.hid (clean_gone w4 ((HG.out.below hb3).below hb4))
      go_wp2_with fail
      (with_reducible refine CC.out.mono ?_); rintro e w5 ⟨rfl, hb5⟩
      go_wp2_with fail
      exact ⟨⟨2, by omega, by go_num, below_tr (below_tr (below_tr (below_tr hbel hbW) hb3) hb4) hb5⟩, by simp [intOf]⟩
    · have CN := Lib.hid (new_any 100 wr (by omega) (by omega))
      go_wp2_with fail
      (with_reducible refine CN.out.mono ?_); rintro e w1 ⟨b, rfl, M, hf, hM, hb1⟩
      have hS := Sound.new 100 (by omega) (by omega)
      have CC : Hid (Calls Try.prog 36 #[.pointer (some ⟨b, 0, none⟩), .slice none 0 0] w1 fun e w' => e = .returned (.int .i64 0) ∧ Turned M w1 w' b (crashF (newF 100) [])) := Lib.hid (crash_any w1 hf hS (v := .slice none 0 0) (l := []) ⟨none, 0, rfl, fun h => absurd rfl h⟩ (Nat.zero_le _))
      have hbel1 := below_tr hbel hb1
      have HM := Lib.hid (fun x (hx : M x) => Nat.le_trans hbel.size (hM x hx))
      have hS2 := Lib.hid (hS.crash [])
      have hoff : (crashF (newF 100) []).off = true := rfl
      obtain ⟨o1, o2, o3, o4, o5, o6⟩ := off_saves hoff n t
      generalize crashF (newF 100) [] = F at *
      clear hf hM hS CN hoff
      have O := Lib.hid (And.intro o1 (And.intro o2 (And.intro o3 (And.intro o4 (And.intro o5 o6)))))
      clear o1 o2 o3 o4 o5 o6
      go_wp2_with fail
      (with_reducible refine CC.out.mono ?_); rintro e w2 ⟨rfl, M2, hf2, hM2, ho2⟩
      have hbel2 : Below w.heap.size w w2 := hbel1.trans (ho2.below hbel1.size HM.out)
      have HF2 := Lib.hid hf2
      have HM2 := Lib.hid (fun x (hx : M2 x) => (show w.heap.size ≤ x by rcases hM2 x hx with h | h; exact HM.out x h; exact Nat.le_trans hbel1.size h))
      have C0 := load_any w2 hf2 hS2.out n
      rw [O.out.1, O.out.2.1] at C0
      have CL := Lib.hid C0
      clear C0 hf2 hM2 ho2 CC HM hbel1
      go_wp2_with fail
      (with_reducible refine CL.out.mono ?_); rintro e w3 ⟨rfl, M3, hf3, hM3, ho3⟩
      have hbel3 : Below w.heap.size w w3 := hbel2.trans (ho3.below hbel2.size HM2.out)
      have HM3 := Lib.hid (fun x (hx : M3 x) => (show w.heap.size ≤ x by rcases hM3 x hx with h | h; exact HM2.out x h; exact Nat.le_trans hbel2.size h))
      have C0 := write_any w3 hf3 hS2.out n t ht
      rw [O.out.2.2.1, O.out.2.2.2.1] at C0
      have CW := Lib.hid C0
      clear C0 hf3 hM3 ho3 CL HM2 HF2 hbel2
      go_wp2_with fail
      (with_reducible refine CW.out.mono ?_); rintro e w4 ⟨rfl, M4, hf4, hM4, ho4⟩
      have hbel4 : Below w.heap.size w w4 := hbel3.trans (ho4.below hbel3.size HM3.out)
      have HM4 := Lib.hid (fun x (hx : M4 x) => (show w.heap.size ≤ x by rcases hM4 x hx with h | h; exact HM3.out x h; exact Nat.le_trans hbel3.size h))
      have C0 := clean_any w4 hf4 hS2.out
      rw [O.out.2.2.2.2.1, O.out.2.2.2.2.2] at C0
      have CK := Lib.hid C0
      clear C0 hf4 hM4 ho4 CW HM3 hbel3
      go_wp2_with fail
      (with_reducible refine CK.out.mono ?_); rintro e w5 ⟨rfl, M5, hf5, hM5, ho5⟩
      have hbel5 : Below w.heap.size w w5 := hbel4.trans (ho5.below hbel4.size HM4.out)
      go_wp2_with fail
      exact ⟨⟨3, by omega, by go_num, hbel5⟩, by simp [intOf]⟩
    · have CD := Lib.hid (sdoes_any wr)
      go_wp2_with fail
      (with_reducible refine CD.out.mono ?_); rintro e w3 ⟨rfl, hb3⟩
      go_wp2_with fail
      go_ret
      exact ⟨rfl, below_tr hbel hb3⟩
end Go.Proofs.Ytmoaecicibjmnaa
