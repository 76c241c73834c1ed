/- (*FS).drop, (*FS).Remove. -/
import Derived.Test.YtmoaecicibjmnaaFL
namespace Go.Proofs.Ytmoaecicibjmnaa
open Go.RowKit

theorem FSIn.re {M M' : Nat → Prop} {w w' : World} {b : Nat} {F : FR} {fv kv : Value} (h : FSIn M w b F fv kv) (F' : FR) (hk : F'.keep = F.keep) (fv' : Value)
    (hb : Box6 w' b 58 (.int .i64 F'.limit) (.int .i64 F'.starts) (.bool F'.off) fv' (.int .i64 F'.left) kv) (ho : w'.ownsRow 0 82 3 fv' F'.files.length (cs F'.files))
    (hs : w.heap.size ≤ w'.heap.size) (he : ∀ c, M c → c ≠ b → fv.ownBlock ≠ some c → w'.heap[c]? = w.heap[c]?)
    (hm : ∀ k, fv'.ownBlock = some k → M' k ∧ k ≠ b ∧ (fv.ownBlock = some k ∨ w.heap.size ≤ k)) (hMM : ∀ k, M k → M' k) (hlt : ∀ k, M' k → k < w'.heap.size) : FSIn M' w' b F' fv' kv where
  box := hb
  own := ho
  ints := by
    rw [hk]
    exact h.ints.eq hs fun c hc hm' => ⟨he c hm'.1 hm'.2.1 hm'.2.2, hMM c hm'.1, hm'.2.1, fun e => by rcases (hm c e).2.2 with h1 | h1; exact hm'.2.2 h1; omega⟩
  mb := hMM b h.mb
  mf k hk' := ⟨(hm k hk').1, (hm k hk').2.1⟩
  lt := hlt
def dropL (L : List PF) (n : ByteArray) : List PF := if isAt L n = true then L.eraseIdx (place L n) else L
def dropF (F : FR) (n : ByteArray) : FR := { F with files := dropL F.files n }
set_option maxHeartbeats 4000000 in
set_option maxRecDepth 100000 in
theorem drop_any {M : Nat → Prop} {b : Nat} {F : FR} (w : World) (h : FSAt M w b F) (hG : Sound F) (n : ByteArray) :
    Calls Try.prog 62 #[.pointer (some ⟨b, 0, none⟩), .string n] w fun e w' => e = .returned (.tuple #[]) ∧ Turned M w w' b (dropF F n) := by
  obtain ⟨fv, kv, h⟩ := h
  have C1 := Lib.hid (at_any ⟨fv, kv, h⟩ hG n)
  have H := Lib.hid h
  obtain ⟨R, hR⟩ : ∃ R, R = dropF F n := ⟨_, rfl⟩
  rw [← hR]
  have HR := Lib.hid hR
  by_cases hi : isAt F.files n = true
  · have hlt := isAt_lt hi
    obtain ⟨i, hii⟩ : ∃ i, i = place F.files n := ⟨_, rfl⟩
    have HI := Lib.hid hii
    rw [hi, ← hii] at C1
    rw [← hii] at hlt
    have hlt32 : i < 32 := by have := hG.cnt; omega
    have HL := Lib.hid hlt
    have hRR : R.files = F.files.eraseIdx i := by rw [hR, dropF, dropL, if_pos hi, hii]
    have HRR := Lib.hid hRR
    have c3 := h.box.c3
    have f3 := h.box.free 3
    have hbl := h.box.lt
    have C2 : ∀ w1, Below w.heap.size w w1 → Hid (Calls Try.prog 98 #[fv, .int .i64 (i : Nat), .int .i64 ((i : Int) + 1)] w1 fun e w' =>
      ∃ g cap, fv = .slice (some ⟨g, 0, none⟩) F.files.length cap ∧ e = .returned (.slice (some ⟨g, 0, none⟩) (F.files.length - 1) cap) ∧ w'.ownsRow 0 82 3 (.slice (some ⟨g, 0, none⟩) (F.files.length - 1) cap) (F.files.eraseIdx i).length (cs (F.files.eraseIdx i)) ∧ Out (fun k => k = g) w1 w') :=
      fun w1 hb => Lib.hid (delete_any w1 fv F.files i hlt (h.below hb).own)
    clear hi hii hR hG h hRR hlt
    go_enter Try.func62, Try.ntmps62
    go_wp2_with fail
    (with_reducible refine C1.out.mono ?_); rintro e w2 ⟨rfl, hb2⟩
    rw [← hb2.cell (p := ⟨b, 3, none⟩) hbl] at c3
    rw [← hb2.frozen (p := ⟨b, 3, none⟩) hbl] at f3
    go_wp2_with fail
    (with_reducible refine (C2 w2 hb2).out.mono ?_); rintro e w3 ⟨g, cap, rfl, rfl, hown, hout⟩
    have hgb : g ≠ b := (H.out.mf g rfl).2
    have hsz := hb2.size
    rw [← hout.cell (show b < w2.heap.size by omega) (Ne.symm hgb) 3] at c3
    rw [← World.frozen?_of_block (a := ⟨b, 3, none⟩) (hout.block b (by omega) (Ne.symm hgb))] at f3
    have HOW := Lib.hid hown
    have HOU := Lib.hid hout
    clear hown hout
    go_wp2_with fail
    go_end0
    have hx := (H.out.below hb2).box.eq (HOU.out.block b (by omega) (Ne.symm hgb))
    have hs3 := HOU.out.size
    refine ⟨rfl, M, ⟨.slice (some ⟨g, 0, none⟩) (F.files.length - 1) cap, kv, (H.out.below hb2).re R (by rw [HR.out]; rfl) _ ?_ ?_ (by rw [size_set]; exact hs3) (fun c hc h1 h2 => ?_) (fun k hk => ?_) (fun _ h => h) (fun k hk => ?_)⟩, fun k hk => .inl hk, ?_⟩
    · have := hx.s3 (.slice (some ⟨g, 0, none⟩) (F.files.length - 1) cap)
      rw [HR.out]; exact this
    · rw [HRR.out]
      exact own_eq HOW.out fun k hk => setCell_heap_other _ _ _ _ _ (fun e => hgb (by injection hk with hk; rw [← e]; exact hk))
    · rw [setCell_heap_other _ _ _ _ _ h1]
      exact HOU.out.block c (by have := H.out.lt c hc; omega) (fun e => h2 (by rw [e]; rfl))
    · injection hk with hk
      subst hk
      exact ⟨(H.out.mf g rfl).1, hgb, .inl rfl⟩
    · rw [size_set]; have := H.out.lt k hk; omega
    · exact ((Out.of_below hb2).trans HOU.out (fun k hk => .inl (by rw [hk]; exact (H.out.mf g rfl).1))).set (.inl H.out.mb) _ _
  · have hi' : isAt F.files n = false := by cases e : isAt F.files n; rfl; exact absurd e hi
    rw [hi'] at C1
    have e : R = F := by rw [hR, dropF, dropL, if_neg hi]
    rw [e]
    clear hi hi' hR hG h HR e
    go_enter Try.func62, Try.ntmps62
    go_wp2_with fail
    (with_reducible refine C1.out.mono ?_); rintro e w2 ⟨rfl, hb2⟩
    go_wp2_with fail
    go_end0
    exact ⟨rfl, Turned.below ⟨fv, kv, H.out⟩ hb2⟩
end Go.Proofs.Ytmoaecicibjmnaa
