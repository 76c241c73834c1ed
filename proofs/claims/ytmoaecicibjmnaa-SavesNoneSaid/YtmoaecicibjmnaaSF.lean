/- saves, of a file system that is none. -/
import Derived.Test.YtmoaecicibjmnaaSE
namespace Go.Proofs.Ytmoaecicibjmnaa
open Go.RowKit

set_option maxRecDepth 100000 in
theorem load1_gone {p : Option Addr} {q : Nat} (w : World) (hg : Gone w p) (hp : w.cell? ⟨q, 0, none⟩ = some (.pointer p)) :
    Calls Try.prog 77 #[.pointer (some ⟨q, 0, none⟩)] w fun e w' => e = .returned (.int .i64 1) ∧ Below w.heap.size w w' := by
  have C1 := Lib.hid (son_gone w hg)
  clear hg
  go_enter Try.func77, Try.ntmps77
  go_wp2_with fail
  (with_reducible refine C1.out.mono ?_); rintro e w2 ⟨rfl, hb⟩
  go_wp2_with fail
  go_ret
  exact ⟨rfl, hb⟩
set_option maxRecDepth 100000 in
theorem write1_gone {p : Option Addr} {q : Nat} (w : World) (hg : Gone w p) (hp : w.cell? ⟨q, 0, none⟩ = some (.pointer p)) :
    Calls Try.prog 81 #[.pointer (some ⟨q, 0, none⟩)] w fun e w' => e = .returned (.int .i64 1) ∧ Below w.heap.size w w' := by
  have C1 := Lib.hid (son_gone w hg)
  clear hg
  go_enter Try.func81, Try.ntmps81
  go_wp2_with fail
  (with_reducible refine C1.out.mono ?_); rintro e w2 ⟨rfl, hb⟩
  go_wp2_with fail
  go_ret
  exact ⟨rfl, hb⟩
/-- A row whose first step tells that it is none. -/
theorem row_gone {n b0 c g : Nat} {cp : Array Value} (hn : n ≤ 100) (h0 : 0 < n) {p : Option Addr} (W : World) (hg : Gone W p) {q : Nat}
    (eg : ∀ args w, (callFunc g args).run Try.prog w = .ok (.enter g args) w) (hc : W.cell? ⟨b0, 0, none⟩ = some (.func (.func g) #[] cp)) (hq : W.cell? ⟨q, 0, none⟩ = some (.pointer p))
    (hs : ∀ w, Gone w p → w.cell? ⟨q, 0, none⟩ = some (.pointer p) → Calls Try.prog g cp w fun e w' => e = .returned (.int .i64 1) ∧ Below w.heap.size w w') :
    Calls Try.prog 76 #[.slice (some ⟨b0, 0, none⟩) n c] W fun e w' => e = .returned (.int .i64 1) ∧ Below W.heap.size W w' := by
  refine (row_any (n := n) (b0 := b0) (c := c) hn (fun _ => g) (fun _ => cp) (fun j w' => j = 0 ∧ Below W.heap.size W w') (fun r w' => r = 1 ∧ Below W.heap.size W w') (fun _ _ => eg)
    (fun j w' _ hI => by
      obtain ⟨rfl, hb⟩ := hI
      exact (hb.cell (p := ⟨b0, 0, none⟩) (lt_of_cell hc)).trans hc)
    (fun j w' _ hI => by
      obtain ⟨rfl, hb⟩ := hI
      refine (hs w' (hg.below hb) ((hb.cell (p := ⟨q, 0, none⟩) (lt_of_cell hq)).trans hq)).mono ?_
      rintro e w2 ⟨rfl, hb2⟩
      exact ⟨1, rfl, fun h => by omega, fun _ => ⟨rfl, below_tr hb hb2⟩⟩)
    W ⟨rfl, Below.refl _ _⟩).mono ?_
  rintro e w' ⟨r, rfl, h⟩
  rcases h with ⟨rfl, h, _⟩ | ⟨_, rfl, h⟩
  · omega
  · exact ⟨rfl, h⟩
set_option maxRecDepth 100000 in
set_option maxHeartbeats 4000000 in
theorem load_gone {p : Option Addr} (w : World) (hg : Gone w p) (n : ByteArray) :
    Calls Try.prog 37 #[.pointer p, .string n] w fun e w' => e = .returned (.tuple #[.string ⟨#[]⟩, .int .i64 1]) ∧ Below w.heap.size w w' := by
  have HG := Lib.hid hg
  clear hg
  go_enter Try.func37, Try.ntmps37
  have hmf : ∀ (fn : Fn) (first cap : Array Value) (w : World), (Instr.makeFunc fn first cap).run Try.prog w = .ok (.func fn first cap) w := fun _ _ _ _ => rfl
  go_wp2_with fail
  obtain ⟨W, hW, hbW, hsW, x0, x1, x2⟩ := three w (.cells #[.pointer p] 25) (.cells #[.string n] 9) (.cells #[.func (.func 77) #[] #[.pointer (some ⟨w.heap.size, 0, none⟩)], .func (.func 79) #[] #[.pointer (some ⟨w.heap.size + 1, 0, none⟩)]] 44)
  rw [hW]
  have C1 := Lib.hid (row_gone (n := 2) (c := 2) (by omega) (by omega) W (HG.out.below hbW) (enters_of Try.func77 (by kernel_rfl) rfl) (cell_at x2 0) (cell_at x0 0) (fun w hg hp => load1_gone w hg hp))
  clear hW x0 x1 x2
  (with_reducible refine C1.out.mono ?_); rintro e w3 ⟨rfl, hb3⟩
  clear C1
  go_wp2_with fail
  go_ret2
  exact ⟨rfl, below_tr hbW hb3⟩
set_option maxRecDepth 100000 in
set_option maxHeartbeats 4000000 in
theorem write_gone {p : Option Addr} (w : World) (hg : Gone w p) (n t : ByteArray) :
    Calls Try.prog 38 #[.pointer p, .string n, .string t] w fun e w' => e = .returned (.int .i64 1) ∧ Below w.heap.size w w' := by
  have HG := Lib.hid hg
  clear hg
  go_enter Try.func38, Try.ntmps38
  have hmf : ∀ (fn : Fn) (first cap : Array Value) (w : World), (Instr.makeFunc fn first cap).run Try.prog w = .ok (.func fn first cap) w := fun _ _ _ _ => rfl
  go_wp2_with fail
  obtain ⟨W, hW, hbW, hsW, x0, x1, x2, x3⟩ := four w (.cells #[.pointer p] 25) (.cells #[.string n] 9) (.cells #[.string t] 9) (.cells #[.func (.func 81) #[] #[.pointer (some ⟨w.heap.size, 0, none⟩)], .func (.func 82) #[] #[.pointer (some ⟨w.heap.size + 1, 0, none⟩)], .func (.func 83) #[] #[.pointer (some ⟨w.heap.size, 0, none⟩)], .func (.func 84) #[] #[.pointer (some ⟨w.heap.size, 0, none⟩), .pointer (some ⟨w.heap.size + 1 + 1, 0, none⟩)], .func (.func 85) #[] #[.pointer (some ⟨w.heap.size, 0, none⟩)], .func (.func 86) #[] #[.pointer (some ⟨w.heap.size, 0, none⟩), .pointer (some ⟨w.heap.size + 1, 0, none⟩)]] 44)
  rw [hW]
  have C1 := Lib.hid (row_gone (n := 6) (c := 6) (by omega) (by omega) W (HG.out.below hbW) (enters_of Try.func81 (by kernel_rfl) rfl) (cell_at x3 0) (cell_at x0 0) (fun w hg hp => write1_gone w hg hp))
  clear hW x0 x1 x2 x3
  (with_reducible refine C1.out.mono ?_); rintro e w3 ⟨rfl, hb3⟩
  clear C1
  go_wp2_with fail
  go_ret
  exact ⟨rfl, below_tr hbW hb3⟩

/-- One that is off: nothing is loaded, written, cleaned. -/
theorem off_saves {F : FR} (h : F.off = true) (n t : ByteArray) : loadE F n = 51 ∧ loadS F n = ⟨#[]⟩ ∧ saveE F n t = 51 ∧ saveF F n t = F ∧ cleanE F = 51 ∧ removeF F dN = F := by
  have hh : ∀ m, hasE F m = 51 := fun m => by unfold hasE; rw [if_pos h]
  have hl : loadE F n = 51 := by unfold loadE; rw [if_pos h]
  have h0 : wE F n t 0 = 51 := by show onE F = 51; unfold onE; rw [if_pos h]
  have hs : strokeE F dN = 51 := by unfold strokeE; rw [hh, if_neg (by omega)]
  refine ⟨hl, ?_, ?_, ?_, ?_, ?_⟩
  · unfold loadS; rw [hl, if_neg (by omega)]
  · unfold saveE; rw [h0, if_pos (by omega)]
  · unfold saveF; rw [h0, if_pos (by omega)]
  · unfold cleanE; rw [hs, if_neg (by omega)]
  · unfold removeF; rw [hh, if_neg (by omega)]
end Go.Proofs.Ytmoaecicibjmnaa
