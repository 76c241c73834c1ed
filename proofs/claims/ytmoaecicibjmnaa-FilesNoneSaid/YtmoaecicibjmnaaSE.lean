/- Of a file system that is none. -/
import Derived.Test.YtmoaecicibjmnaaSD
namespace Go.Proofs.Ytmoaecicibjmnaa
open Go.RowKit

/-- A pointer to none, or to one without a limit. -/
def Gone (w : World) (p : Option Addr) : Prop := p = none ∨ ∃ b, p = some ⟨b, 0, none⟩ ∧ w.cell? ⟨b, 0, none⟩ = some (.int .i64 0)
theorem Gone.below {w w' : World} {p : Option Addr} (h : Gone w p) (hb : Below w.heap.size w w') : Gone w' p := by
  rcases h with h | ⟨b, h, hc⟩
  · exact .inl h
  · exact .inr ⟨b, h, (hb.cell (p := ⟨b, 0, none⟩) (lt_of_cell hc)).trans hc⟩
set_option maxRecDepth 100000 in
theorem on_gone {p : Option Addr} (w : World) (hg : Gone w p) : Calls Try.prog 52 #[.pointer p] w fun e w' => e = .returned (.int .i64 1) ∧ Below w.heap.size w w' := by
  rcases hg with rfl | ⟨b, rfl, hc⟩
  · refine (on_nil w).mono ?_
    rintro e w' ⟨rfl, rfl⟩
    exact ⟨rfl, Below.refl _ _⟩
  · go_enter Try.func52, Try.ntmps52
    go_wp2
    go_ret
    exact ⟨rfl, Below.refl _ _⟩
set_option maxRecDepth 100000 in
theorem has_gone {p : Option Addr} (w : World) (hg : Gone w p) (n : ByteArray) : Calls Try.prog 59 #[.pointer p, .string n] w fun e w' => e = .returned (.tuple #[.pointer none, .int .i64 1]) ∧ Below w.heap.size w w' := by
  have CG := fun (wx : World) (hb : Below w.heap.size w wx) => Lib.hid (on_gone wx (hg.below hb))
  clear hg
  go_enter Try.func59, Try.ntmps59
  go_wp2_with fail
  (with_reducible refine (CG _ (by go_grown)).out.mono ?_); rintro e w2 ⟨rfl, hb2⟩
  have hb3 : Below w.heap.size w w2 := below_tr (by go_grown) hb2
  go_wp2_with fail
  go_ret2
  exact ⟨rfl, by first | exact hb3 | exact hb3.alloc hb3.size _⟩
set_option maxRecDepth 100000 in
theorem fail_gone {p : Option Addr} (w : World) (hg : Gone w p) (n : Int) (ka : Option Addr) (kl kc : Nat) : Calls Try.prog 22 #[.pointer p, .int .i64 n, .slice ka kl kc] w fun e w' => e = .returned (.int .i64 1) ∧ Below w.heap.size w w' := by
  have CG := fun (wx : World) (hb : Below w.heap.size w wx) => Lib.hid (on_gone wx (hg.below hb))
  clear hg
  go_enter Try.func22, Try.ntmps22
  go_wp2_with fail
  (with_reducible refine (CG _ (by go_grown)).out.mono ?_); rintro e w2 ⟨rfl, hb2⟩
  have hb3 : Below w.heap.size w w2 := below_tr (by go_grown) hb2
  go_wp2_with fail
  go_ret
  exact ⟨rfl, by first | exact hb3 | exact hb3.alloc hb3.size _⟩
set_option maxRecDepth 100000 in
theorem crash_gone {p : Option Addr} (w : World) (hg : Gone w p) (ka : Option Addr) (kl kc : Nat) : Calls Try.prog 36 #[.pointer p, .slice ka kl kc] w fun e w' => e = .returned (.int .i64 1) ∧ Below w.heap.size w w' := by
  have CG := fun (wx : World) (hb : Below w.heap.size w wx) => Lib.hid (on_gone wx (hg.below hb))
  clear hg
  go_enter Try.func36, Try.ntmps36
  go_wp2_with fail
  (with_reducible refine (CG _ (by go_grown)).out.mono ?_); rintro e w2 ⟨rfl, hb2⟩
  have hb3 : Below w.heap.size w w2 := below_tr (by go_grown) hb2
  go_wp2_with fail
  go_ret
  exact ⟨rfl, by first | exact hb3 | exact hb3.alloc hb3.size _⟩
set_option maxRecDepth 100000 in
theorem start_gone {p : Option Addr} (w : World) (hg : Gone w p) : Calls Try.prog 27 #[.pointer p] w fun e w' => e = .returned (.int .i64 1) ∧ Below w.heap.size w w' := by
  have CG := fun (wx : World) (hb : Below w.heap.size w wx) => Lib.hid (on_gone wx (hg.below hb))
  clear hg
  go_enter Try.func27, Try.ntmps27
  go_wp2_with fail
  (with_reducible refine (CG _ (by go_grown)).out.mono ?_); rintro e w2 ⟨rfl, hb2⟩
  have hb3 : Below w.heap.size w w2 := below_tr (by go_grown) hb2
  go_wp2_with fail
  go_ret
  exact ⟨rfl, by first | exact hb3 | exact hb3.alloc hb3.size _⟩
set_option maxRecDepth 100000 in
theorem append_gone {p : Option Addr} (w : World) (hg : Gone w p) (n s : ByteArray) : Calls Try.prog 23 #[.pointer p, .string n, .string s] w fun e w' => e = .returned (.int .i64 1) ∧ Below w.heap.size w w' := by
  have CG := fun (wx : World) (hb : Below w.heap.size w wx) => Lib.hid (on_gone wx (hg.below hb))
  clear hg
  go_enter Try.func23, Try.ntmps23
  go_wp2_with fail
  (with_reducible refine (CG _ (by go_grown)).out.mono ?_); rintro e w2 ⟨rfl, hb2⟩
  have hb3 : Below w.heap.size w w2 := below_tr (by go_grown) hb2
  go_wp2_with fail
  go_ret
  exact ⟨rfl, by first | exact hb3 | exact hb3.alloc hb3.size _⟩
set_option maxRecDepth 100000 in
theorem up_gone {p : Option Addr} (w : World) (hg : Gone w p) : Calls Try.prog 26 #[.pointer p] w fun e w' => e = .returned (.bool false) ∧ Below w.heap.size w w' := by
  have CG := fun (wx : World) (hb : Below w.heap.size w wx) => Lib.hid (on_gone wx (hg.below hb))
  clear hg
  go_enter Try.func26, Try.ntmps26
  go_wp2_with fail
  (with_reducible refine (CG _ (by go_grown)).out.mono ?_); rintro e w2 ⟨rfl, hb2⟩
  have hb3 : Below w.heap.size w w2 := below_tr (by go_grown) hb2
  go_wp2_with fail
  go_ret
  exact ⟨rfl, by first | exact hb3 | exact hb3.alloc hb3.size _⟩
set_option maxRecDepth 100000 in
theorem remove_gone {p : Option Addr} (w : World) (hg : Gone w p) (n : ByteArray) : Calls Try.prog 51 #[.pointer p, .string n] w fun e w' => e = .returned (.int .i64 1) ∧ Below w.heap.size w w' := by
  have CG := fun (wx : World) (hb : Below w.heap.size w wx) => Lib.hid (has_gone wx (hg.below hb) n)
  clear hg
  go_enter Try.func51, Try.ntmps51
  go_wp2_with fail
  (with_reducible refine (CG _ (by go_grown)).out.mono ?_); rintro e w2 ⟨rfl, hb2⟩
  have hb3 : Below w.heap.size w w2 := below_tr (by go_grown) hb2
  go_wp2_with fail
  go_ret
  exact ⟨rfl, by first | exact hb3 | exact hb3.alloc hb3.size _⟩
set_option maxRecDepth 100000 in
theorem sync_gone {p : Option Addr} (w : World) (hg : Gone w p) (n : ByteArray) : Calls Try.prog 24 #[.pointer p, .string n] w fun e w' => e = .returned (.int .i64 1) ∧ Below w.heap.size w w' := by
  have CG := fun (wx : World) (hb : Below w.heap.size w wx) => Lib.hid (has_gone wx (hg.below hb) n)
  clear hg
  go_enter Try.func24, Try.ntmps24
  go_wp2_with fail
  (with_reducible refine (CG _ (by go_grown)).out.mono ?_); rintro e w2 ⟨rfl, hb2⟩
  have hb3 : Below w.heap.size w w2 := below_tr (by go_grown) hb2
  go_wp2_with fail
  go_ret
  exact ⟨rfl, by first | exact hb3 | exact hb3.alloc hb3.size _⟩
set_option maxRecDepth 100000 in
theorem truncate_gone {p : Option Addr} (w : World) (hg : Gone w p) (n : ByteArray) (k : Int) : Calls Try.prog 50 #[.pointer p, .string n, .int .i64 k] w fun e w' => e = .returned (.int .i64 1) ∧ Below w.heap.size w w' := by
  have CG := fun (wx : World) (hb : Below w.heap.size w wx) => Lib.hid (has_gone wx (hg.below hb) n)
  clear hg
  go_enter Try.func50, Try.ntmps50
  go_wp2_with fail
  (with_reducible refine (CG _ (by go_grown)).out.mono ?_); rintro e w2 ⟨rfl, hb2⟩
  have hb3 : Below w.heap.size w w2 := below_tr (by go_grown) hb2
  go_wp2_with fail
  go_ret
  exact ⟨rfl, by first | exact hb3 | exact hb3.alloc hb3.size _⟩
set_option maxRecDepth 100000 in
theorem rename_gone {p : Option Addr} (w : World) (hg : Gone w p) (n c : ByteArray) : Calls Try.prog 25 #[.pointer p, .string n, .string c] w fun e w' => e = .returned (.int .i64 1) ∧ Below w.heap.size w w' := by
  have CG := fun (wx : World) (hb : Below w.heap.size w wx) => Lib.hid (has_gone wx (hg.below hb) n)
  clear hg
  go_enter Try.func25, Try.ntmps25
  go_wp2_with fail
  (with_reducible refine (CG _ (by go_grown)).out.mono ?_); rintro e w2 ⟨rfl, hb2⟩
  have hb3 : Below w.heap.size w w2 := below_tr (by go_grown) hb2
  go_wp2_with fail
  go_ret
  exact ⟨rfl, by first | exact hb3 | exact hb3.alloc hb3.size _⟩
set_option maxRecDepth 100000 in
theorem read_gone {p : Option Addr} (w : World) (hg : Gone w p) (n : ByteArray) : Calls Try.prog 28 #[.pointer p, .string n] w fun e w' => e = .returned (.tuple #[.string ⟨#[]⟩, .int .i64 1]) ∧ Below w.heap.size w w' := by
  have CG := fun (wx : World) (hb : Below w.heap.size w wx) => Lib.hid (has_gone wx (hg.below hb) n)
  clear hg
  go_enter Try.func28, Try.ntmps28
  go_wp2_with fail
  (with_reducible refine (CG _ (by go_grown)).out.mono ?_); rintro e w2 ⟨rfl, hb2⟩
  have hb3 : Below w.heap.size w w2 := below_tr (by go_grown) hb2
  go_wp2_with fail
  go_ret2
  exact ⟨rfl, by first | exact hb3 | exact hb3.alloc hb3.size _⟩
set_option maxRecDepth 100000 in
theorem son_gone {p : Option Addr} (w : World) (hg : Gone w p) : Calls Try.prog 78 #[.pointer p] w fun e w' => e = .returned (.int .i64 1) ∧ Below w.heap.size w w' := by
  have CG := fun (wx : World) (hb : Below w.heap.size w wx) => Lib.hid (fail_gone wx (hg.below hb) (-1) none 0 0)
  clear hg
  go_enter Try.func78, Try.ntmps78
  go_wp2_with fail
  (with_reducible refine (CG _ (by go_grown)).out.mono ?_); rintro e w2 ⟨rfl, hb2⟩
  have hb3 : Below w.heap.size w w2 := below_tr (by go_grown) hb2
  go_wp2_with fail
  go_ret
  exact ⟨rfl, by first | exact hb3 | exact hb3.alloc hb3.size _⟩
set_option maxRecDepth 100000 in
theorem clean_gone {p : Option Addr} (w : World) (hg : Gone w p) : Calls Try.prog 39 #[.pointer p] w fun e w' => e = .returned (.int .i64 1) ∧ Below w.heap.size w w' := by
  have CG := fun (wx : World) (hb : Below w.heap.size w wx) => Lib.hid (remove_gone wx (hg.below hb) dN)
  clear hg
  go_enter Try.func39, Try.ntmps39
  go_wp2_with fail
  (with_reducible refine (CG _ (by go_grown)).out.mono ?_); rintro e w2 ⟨rfl, hb2⟩
  have hb3 : Below w.heap.size w w2 := below_tr (by go_grown) hb2
  go_wp2_with fail
  go_ret
  exact ⟨rfl, by first | exact hb3 | exact hb3.alloc hb3.size _⟩
end Go.Proofs.Ytmoaecicibjmnaa
