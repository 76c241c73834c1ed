/- With: what is done to a file system. -/
import Derived.Test.YtmoaecicibjmnaaKB
namespace Go.Proofs.Ytmoaecicibjmnaa
open Go.RowKit

def crashE (F : FR) : Int := if F.off = true then 51 else 0
def crashG (F : FR) (l : List Int) : FR := if F.off = true then F else crashF F l
theorem crash_any {M : Nat → Prop} {b : Nat} {F : FR} (w : World) (h : FSAt M w b F) (hG : Sound F) {v : Value} {l : List Int} (hv : IntsIn (fun k => ¬ M k) w v l) (hl : l.length ≤ 1000000) :
    Calls Try.prog 36 #[.pointer (some ⟨b, 0, none⟩), v] w fun e w' => e = .returned (.int .i64 (crashE F)) ∧ Turned M w w' b (crashG F l) := by
  by_cases ho : F.off = true
  · rw [crashE, if_pos ho, crashG, if_pos ho]
    refine (crash_off h hG ho v).mono ?_
    rintro e w' ⟨he, rfl⟩
    exact ⟨he, Turned.below h (Below.refl _ _)⟩
  · have ho' : F.off = false := by cases e : F.off; rfl; exact absurd e ho
    rw [crashE, if_neg ho, crashG, if_neg ho]
    obtain ⟨fv, kv, h⟩ := h
    refine (crash_in h hG ho' (hv.eq (Nat.le_refl _) fun k _ hm => ⟨rfl, fun e => hm (by rw [e]; exact h.mb), fun e => hm (h.mf k e).1⟩) (by omega)).mono ?_
    rintro e w' ⟨he, hf, hout⟩
    exact ⟨he, M, ⟨fv, kv, hf⟩, fun k hk => .inl hk, hout⟩

/-- What is done to a file system. -/
structure DoR where
  what : Nat
  A : ByteArray
  B : ByteArray
  S : ByteArray
  N : Int
  K : List Int
def withE (F : FR) (d : DoR) : Int :=
  match d.what % 12 with
  | 3 => strokeE F d.A
  | 4 => strokeE F d.A
  | 5 => cutE F d.A d.N
  | 6 => renE F d.A d.B
  | 7 => strokeE F d.A
  | 8 => crashE F
  | 9 => startE F
  | 10 => startE F
  | 11 => failE F d.N
  | _ => appE F d.A d.S
def withF (F : FR) (d : DoR) : FR :=
  match d.what % 12 with
  | 3 => syncF F d.A
  | 4 => syncF F d.A
  | 5 => cutF F d.A d.N
  | 6 => renameF F d.A d.B
  | 7 => removeF F d.A
  | 8 => crashG F d.K
  | 9 => startF F
  | 10 => startF F
  | 11 => failF F d.N d.K
  | _ => appF F d.A d.S
/-- A value of that kind. -/
def DoAt (P : Nat → Prop) (w : World) (v : Value) (d : DoR) : Prop :=
  ∃ kv, v = .agg #[.int .u8 (d.what : Int), .string d.A, .string d.B, .string d.S, .int .i64 d.N, kv] ∧ IntsIn P w kv d.K
theorem six_new (w : World) (v0 v1 v2 v3 v4 v5 : Value) (t : TypeId) : ∃ W, w.alloc (.cells #[v0, v1, v2, v3, v4, v5] t) = W ∧ Below w.heap.size w W ∧ W.cell? ⟨w.heap.size, 0, none⟩ = some v0 ∧ W.cell? ⟨w.heap.size, 1, none⟩ = some v1 ∧ W.cell? ⟨w.heap.size, 2, none⟩ = some v2 ∧ W.cell? ⟨w.heap.size, 3, none⟩ = some v3 ∧ W.cell? ⟨w.heap.size, 4, none⟩ = some v4 ∧ W.cell? ⟨w.heap.size, 5, none⟩ = some v5 := by
  have h : (w.alloc (.cells #[v0, v1, v2, v3, v4, v5] t)).heap[w.heap.size]? = some (.cells #[v0, v1, v2, v3, v4, v5] t (0, 0)) := by rw [heap_alloc, if_pos rfl]
  exact ⟨_, rfl, (Below.refl _ _).alloc (Nat.le_refl _) _, cell_at h 0, cell_at h 1, cell_at h 2, cell_at h 3, cell_at h 4, cell_at h 5⟩
set_option maxHeartbeats 8000000 in
set_option maxRecDepth 100000 in
theorem with_any {M : Nat → Prop} {b : Nat} {F : FR} (w : World) (h : FSAt M w b F) (hG : Sound F) {v : Value} {d : DoR} (hd : DoAt (fun k => ¬ M k) w v d) (hw : d.what < 256) (hS : d.S.size ≤ 9223372036854775807) (hKl : d.K.length ≤ 1000000) :
    Calls Try.prog 18 #[.pointer (some ⟨b, 0, none⟩), v] w fun e w' => e = .returned (.int .i64 (withE F d)) ∧ Turned M w w' b (withF F d) := by
  obtain ⟨kv, rfl, hk⟩ := hd
  obtain ⟨ka, kc, rfl⟩ := hk.val
  have H := Lib.hid h
  have HG := Lib.hid hG
  have HK := Lib.hid hk
  obtain ⟨R, hR⟩ : ∃ R, R = withF F d := ⟨_, rfl⟩
  obtain ⟨E, hE⟩ : ∃ E, E = withE F d := ⟨_, rfl⟩
  have HR := Lib.hid hR
  have HE := Lib.hid hE
  rw [← hR, ← hE]
  clear h hG hk hR hE
  go_enter Try.func18, Try.ntmps18
  go_upto_region 1 with fail
  obtain ⟨W, hW, hbW, c0, c1, c2, c3, c4, c5⟩ := six_new w (.int .u8 (d.what : Int)) (.string d.A) (.string d.B) (.string d.S) (.int .i64 d.N) (.slice ka d.K.length kc) 35
  rw [hW]
  clear hW
  have hkW : IntsIn (fun k => ¬ M k) W (.slice ka d.K.length kc) d.K := HK.out.eq hbW.size fun k hk hm => ⟨hbW.block k hk, hm⟩
  have hwi : (d.what : Int) % 12 = ((d.what % 12 : Nat) : Int) := by omega
  have h12 : d.what % 12 < 12 := Nat.mod_lt _ (by omega)
  obtain ⟨r, hr⟩ : ∃ r, r = d.what % 12 := ⟨_, rfl⟩
  rw [← hr] at hwi h12
  have HRR := Lib.hid hr
  clear hr
  have HKW := Lib.hid hkW
  clear hkW
  have hcase : r = 0 ∨ r = 1 ∨ r = 2 ∨ r = 3 ∨ r = 4 ∨ r = 5 ∨ r = 6 ∨ r = 7 ∨ r = 8 ∨ r = 9 ∨ r = 10 ∨ r = 11 := by omega
  rcases hcase with rfl | rfl | rfl | rfl | rfl | rfl | rfl | rfl | rfl | rfl | rfl | rfl
  · have C1 := append_any W (H.out.below hbW) HG.out d.A d.S hS
    have e1 : E = appE F d.A d.S := by (rw [HE.out, withE, ← HRR.out]) <;> rfl
    have e2 : R = appF F d.A d.S := by (rw [HR.out, withF, ← HRR.out]) <;> rfl
    rw [← e1, ← e2] at C1
    have C2 := Lib.hid C1
    clear C1 e1 e2
    go_wp2_with fail
    (with_reducible refine C2.out.mono ?_); rintro e w3 ⟨rfl, ht3⟩
    have HT := Lib.hid ht3
    clear ht3
    go_wp2_with fail
    go_ret
    exact ⟨rfl, Turned.trans (fun k hk => .inl hk) (Out.of_below hbW) HT.out⟩
  · have C1 := append_any W (H.out.below hbW) HG.out d.A d.S hS
    have e1 : E = appE F d.A d.S := by (rw [HE.out, withE, ← HRR.out]) <;> rfl
    have e2 : R = appF F d.A d.S := by (rw [HR.out, withF, ← HRR.out]) <;> rfl
    rw [← e1, ← e2] at C1
    have C2 := Lib.hid C1
    clear C1 e1 e2
    go_wp2_with fail
    (with_reducible refine C2.out.mono ?_); rintro e w3 ⟨rfl, ht3⟩
    have HT := Lib.hid ht3
    clear ht3
    go_wp2_with fail
    go_ret
    exact ⟨rfl, Turned.trans (fun k hk => .inl hk) (Out.of_below hbW) HT.out⟩
  · have C1 := append_any W (H.out.below hbW) HG.out d.A d.S hS
    have e1 : E = appE F d.A d.S := by (rw [HE.out, withE, ← HRR.out]) <;> rfl
    have e2 : R = appF F d.A d.S := by (rw [HR.out, withF, ← HRR.out]) <;> rfl
    rw [← e1, ← e2] at C1
    have C2 := Lib.hid C1
    clear C1 e1 e2
    go_wp2_with fail
    (with_reducible refine C2.out.mono ?_); rintro e w3 ⟨rfl, ht3⟩
    have HT := Lib.hid ht3
    clear ht3
    go_wp2_with fail
    go_ret
    exact ⟨rfl, Turned.trans (fun k hk => .inl hk) (Out.of_below hbW) HT.out⟩
  · have C1 := sync_any W (H.out.below hbW) HG.out d.A
    have e1 : E = strokeE F d.A := by (rw [HE.out, withE, ← HRR.out]) <;> rfl
    have e2 : R = syncF F d.A := by (rw [HR.out, withF, ← HRR.out]) <;> rfl
    rw [← e1, ← e2] at C1
    have C2 := Lib.hid C1
    clear C1 e1 e2
    go_wp2_with fail
    (with_reducible refine C2.out.mono ?_); rintro e w3 ⟨rfl, ht3⟩
    have HT := Lib.hid ht3
    clear ht3
    go_wp2_with fail
    go_ret
    exact ⟨rfl, Turned.trans (fun k hk => .inl hk) (Out.of_below hbW) HT.out⟩
  · have C1 := sync_any W (H.out.below hbW) HG.out d.A
    have e1 : E = strokeE F d.A := by (rw [HE.out, withE, ← HRR.out]) <;> rfl
    have e2 : R = syncF F d.A := by (rw [HR.out, withF, ← HRR.out]) <;> rfl
    rw [← e1, ← e2] at C1
    have C2 := Lib.hid C1
    clear C1 e1 e2
    go_wp2_with fail
    (with_reducible refine C2.out.mono ?_); rintro e w3 ⟨rfl, ht3⟩
    have HT := Lib.hid ht3
    clear ht3
    go_wp2_with fail
    go_ret
    exact ⟨rfl, Turned.trans (fun k hk => .inl hk) (Out.of_below hbW) HT.out⟩
  · have C1 := truncate_any W (H.out.below hbW) HG.out d.A d.N
    have e1 : E = cutE F d.A d.N := by (rw [HE.out, withE, ← HRR.out]) <;> rfl
    have e2 : R = cutF F d.A d.N := by (rw [HR.out, withF, ← HRR.out]) <;> rfl
    rw [← e1, ← e2] at C1
    have C2 := Lib.hid C1
    clear C1 e1 e2
    go_wp2_with fail
    (with_reducible refine C2.out.mono ?_); rintro e w3 ⟨rfl, ht3⟩
    have HT := Lib.hid ht3
    clear ht3
    go_wp2_with fail
    go_ret
    exact ⟨rfl, Turned.trans (fun k hk => .inl hk) (Out.of_below hbW) HT.out⟩
  · have C1 := rename_any W (H.out.below hbW) HG.out d.A d.B
    have e1 : E = renE F d.A d.B := by (rw [HE.out, withE, ← HRR.out]) <;> rfl
    have e2 : R = renameF F d.A d.B := by (rw [HR.out, withF, ← HRR.out]) <;> rfl
    rw [← e1, ← e2] at C1
    have C2 := Lib.hid C1
    clear C1 e1 e2
    go_wp2_with fail
    (with_reducible refine C2.out.mono ?_); rintro e w3 ⟨rfl, ht3⟩
    have HT := Lib.hid ht3
    clear ht3
    go_wp2_with fail
    go_ret
    exact ⟨rfl, Turned.trans (fun k hk => .inl hk) (Out.of_below hbW) HT.out⟩
  · have C1 := remove_any W (H.out.below hbW) HG.out d.A
    have e1 : E = strokeE F d.A := by (rw [HE.out, withE, ← HRR.out]) <;> rfl
    have e2 : R = removeF F d.A := by (rw [HR.out, withF, ← HRR.out]) <;> rfl
    rw [← e1, ← e2] at C1
    have C2 := Lib.hid C1
    clear C1 e1 e2
    go_wp2_with fail
    (with_reducible refine C2.out.mono ?_); rintro e w3 ⟨rfl, ht3⟩
    have HT := Lib.hid ht3
    clear ht3
    go_wp2_with fail
    go_ret
    exact ⟨rfl, Turned.trans (fun k hk => .inl hk) (Out.of_below hbW) HT.out⟩
  · have C1 := crash_any W (H.out.below hbW) HG.out HKW.out hKl
    have e1 : E = crashE F := by (rw [HE.out, withE, ← HRR.out]) <;> rfl
    have e2 : R = crashG F d.K := by (rw [HR.out, withF, ← HRR.out]) <;> rfl
    rw [← e1, ← e2] at C1
    have C2 := Lib.hid C1
    clear C1 e1 e2
    go_wp2_with fail
    (with_reducible refine C2.out.mono ?_); rintro e w3 ⟨rfl, ht3⟩
    have HT := Lib.hid ht3
    clear ht3
    go_wp2_with fail
    go_ret
    exact ⟨rfl, Turned.trans (fun k hk => .inl hk) (Out.of_below hbW) HT.out⟩
  · have C1 := start_any W (H.out.below hbW) HG.out
    have e1 : E = startE F := by (rw [HE.out, withE, ← HRR.out]) <;> rfl
    have e2 : R = startF F := by (rw [HR.out, withF, ← HRR.out]) <;> rfl
    rw [← e1, ← e2] at C1
    have C2 := Lib.hid C1
    clear C1 e1 e2
    go_wp2_with fail
    (with_reducible refine C2.out.mono ?_); rintro e w3 ⟨rfl, ht3⟩
    have HT := Lib.hid ht3
    clear ht3
    go_wp2_with fail
    go_ret
    exact ⟨rfl, Turned.trans (fun k hk => .inl hk) (Out.of_below hbW) HT.out⟩
  · have C1 := start_any W (H.out.below hbW) HG.out
    have e1 : E = startE F := by (rw [HE.out, withE, ← HRR.out]) <;> rfl
    have e2 : R = startF F := by (rw [HR.out, withF, ← HRR.out]) <;> rfl
    rw [← e1, ← e2] at C1
    have C2 := Lib.hid C1
    clear C1 e1 e2
    go_wp2_with fail
    (with_reducible refine C2.out.mono ?_); rintro e w3 ⟨rfl, ht3⟩
    have HT := Lib.hid ht3
    clear ht3
    go_wp2_with fail
    go_ret
    exact ⟨rfl, Turned.trans (fun k hk => .inl hk) (Out.of_below hbW) HT.out⟩
  · have C1 := fail_any W (H.out.below hbW) HG.out d.N HKW.out hKl
    have e1 : E = failE F d.N := by (rw [HE.out, withE, ← HRR.out]) <;> rfl
    have e2 : R = failF F d.N d.K := by (rw [HR.out, withF, ← HRR.out]) <;> rfl
    rw [← e1, ← e2] at C1
    have C2 := Lib.hid C1
    clear C1 e1 e2
    go_wp2_with fail
    (with_reducible refine C2.out.mono ?_); rintro e w3 ⟨rfl, ht3⟩
    have HT := Lib.hid ht3
    clear ht3
    go_wp2_with fail
    go_ret
    exact ⟨rfl, Turned.trans (fun k hk => .inl hk) (Out.of_below hbW) HT.out⟩
end Go.Proofs.Ytmoaecicibjmnaa
