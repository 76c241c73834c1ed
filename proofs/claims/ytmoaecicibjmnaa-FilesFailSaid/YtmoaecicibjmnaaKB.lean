/- (*FS).Fail. -/
import Derived.Test.YtmoaecicibjmnaaKA
namespace Go.Proofs.Ytmoaecicibjmnaa
open Go.RowKit

def intVs (l : List Int) : List Value := l.map fun n => Value.int .i64 n
theorem ints_of_own {B : Nat} {e : TypeId} {w : World} {v : Value} {l : List Int} (h : w.ownsRow B e 1 v l.length (intVs l)) : IntsIn (fun k => B ≤ k) w v l := by
  rcases h.2 with ⟨rfl, h0⟩ | ⟨g, cap, cu, rfl, hBg, hgg, _, _, _, ht⟩
  · exact ⟨none, 0, by rw [h0], fun hne => absurd (List.eq_nil_of_length_eq_zero h0) hne⟩
  · refine ⟨_, _, rfl, fun _ => ⟨g, 0, rfl, (Array.getElem?_eq_some_iff.1 hgg).1, hBg, fun j hj => ?_⟩⟩
    rw [Nat.zero_add, h.cellAt j (by omega)]
    simp [intVs, hj]
theorem intVs_one (l : List Int) : ∀ u ∈ intVs l, u.oneCell' = true := by
  intro u hu
  obtain ⟨n, _, rfl⟩ := List.mem_map.1 hu
  rfl
set_option maxHeartbeats 2000000 in
set_option maxRecDepth 100000 in
theorem cloneInts_any {P : Nat → Prop} {w : World} {v : Value} {l : List Int} (h : IntsIn P w v l) (hl : l.length ≤ 1000000) :
    Calls Try.prog 53 #[v] w fun e w' => (∃ v', e = .returned v' ∧ IntsIn (fun k => w.heap.size ≤ k) w' v' l) ∧ Below w.heap.size w w' := by
  have qT : ∀ (w : World) (a : Option Addr) (n c n' c' : Nat), (binOp .eql 33 (.slice a n c) (.slice none n' c')).run Try.prog w = .ok (.bool a.isNone) w := fun w a n c n' c' => Lib.run_eql_slice_nil w _ _ a n c n' c' Try.underlying33
  obtain ⟨a, c, rfl, hc⟩ := h
  cases a with
  | none =>
    have h0 : l = [] := by
      by_cases hne : l = []
      · exact hne
      · obtain ⟨_, _, h1, _⟩ := hc hne; cases h1
    subst h0
    clear hc
    go_enter Try.func53, Try.ntmps53
    go_wp2_with fail
    go_ret
    exact ⟨⟨_, rfl, none, 0, rfl, fun h => absurd rfl h⟩, Below.refl _ _⟩
  | some ad =>
    obtain ⟨i0, hi0, hz⟩ := Option.map_eq_some_iff.1 (show (Try.prog.info? 3).map (fun i => (i.zero, i.size, i.bytes)) = some (some (.int .i64 0), 1, 8) by kernel_rfl)
    simp only [Prod.mk.injEq] at hz
    obtain ⟨hz1, hz2, hz3⟩ := hz
    have hmade := World.ownsRow_made (e := 3) (size := 1) (base := w.heap.size) w #[] 0 (Nat.le_refl _) (Nat.zero_le _) rfl
    obtain ⟨v', w', hrun, r1, r2, _⟩ := run_append_own (P := Try.prog) (w.alloc (.cells #[] 3)) w.heap.size 33 33 3 i0 _ 1 8 (by kernel_rfl) hi0 hz1 hz2 hz3 rfl (by decide) (.slice (some ⟨w.heap.size, 0, none⟩) 0 0) 0 [] hmade ad l.length c (intVs l) (by rw [intVs, List.length_map, Nat.mul_one])
      (fun j u hj => by
        have hjl : j < l.length := by have := (List.getElem?_eq_some_iff.1 hj).1; rwa [intVs, List.length_map] at this
        obtain ⟨kb, ko, he, hlt, _, hcell⟩ := hc (by intro e; rw [e] at hjl; simp at hjl)
        injection he with he
        subst he
        rw [add_plain]
        refine Lib.cell?_alloc_some _ ?_
        rw [hcell j hjl]
        simp [intVs, hjl] at hj
        simp [hjl, hj]) (intVs_one l) (by unfold maxLen; omega) (by omega) (by rw [size_alloc]; omega)
    rw [Nat.zero_add, List.nil_append] at r1
    have hb : Below w.heap.size w w' := ((Below.refl _ _).alloc (Nat.le_refl _) _).grown r2 (by rw [size_alloc]; omega) fun k hk => by injection hk with hk; exact Nat.le_of_eq hk
    have HI := Lib.hid (ints_of_own r1)
    have HB := Lib.hid hb
    obtain ⟨fa, fc, rfl⟩ := own_slice r1
    clear r1 r2 hb hmade hc hi0 hz1 hz2 hz3
    go_enter Try.func53, Try.ntmps53
    go_wp2_with (at_builtin; refine Lib.wpList_append_run _ rfl _ _ _ _ rfl _ _ rfl rfl _ _ hrun ?_)
    go_ret
    exact ⟨⟨_, rfl, HI.out⟩, HB.out⟩
def failE (F : FR) (n : Int) : Int := if F.off = true then 51 else if n < 0 then 2 else 0
def failF (F : FR) (n : Int) (l : List Int) : FR := if F.off = true ∨ n < 0 then F else { F with left := n, keep := l }
set_option maxHeartbeats 2000000 in
set_option maxRecDepth 100000 in
theorem fail_any {M P : Nat → Prop} {b : Nat} {F : FR} (w : World) (h : FSAt M w b F) (hG : Sound F) (n : Int) {v : Value} {l : List Int} (hv : IntsIn P w v l) (hl : l.length ≤ 1000000) :
    Calls Try.prog 22 #[.pointer (some ⟨b, 0, none⟩), .int .i64 n, v] w fun e w' => e = .returned (.int .i64 (failE F n)) ∧ Turned M w w' b (failF F n l) := by
  have C1 := Lib.hid (on_any h hG.lim)
  unfold onE at C1
  have C2 := Lib.hid (cloneInts_any hv hl)
  obtain ⟨ka, kc, rfl⟩ := hv.val
  obtain ⟨fv, kv, h⟩ := h
  have H := Lib.hid h
  have c4 := h.box.c4
  have c5 := h.box.c5
  have f4 := h.box.free 4
  have f5 := h.box.free 5
  have hbl := h.box.lt
  obtain ⟨R, hR⟩ : ∃ R, R = failF F n l := ⟨_, rfl⟩
  obtain ⟨E, hE⟩ : ∃ E, E = failE F n := ⟨_, rfl⟩
  have HR := Lib.hid hR
  have HE := Lib.hid hE
  rw [← hR, ← hE]
  clear h hG hv hR hE
  by_cases ho : F.off = true
  · rw [if_pos ho] at C1
    have HE2 : Hid (E = 51) := Lib.hid (by rw [HE.out, failE, if_pos ho])
    have HR2 : Hid (R = F) := Lib.hid (by rw [HR.out, failF, if_pos (.inl ho)])
    clear ho
    go_enter Try.func22, Try.ntmps22
    go_wp2_with fail
    (with_reducible refine C1.out.mono ?_); rintro e w2 ⟨rfl, rfl⟩
    go_wp2_with fail
    go_ret
    exact ⟨by rw [HE2.out]; rfl, by rw [HR2.out]; exact Turned.below ⟨fv, kv, H.out⟩ (Below.refl _ _)⟩
  · rw [if_neg ho] at C1
    by_cases hn : n < 0
    · have HE2 : Hid (E = 2) := Lib.hid (by rw [HE.out, failE, if_neg ho, if_pos hn])
      have HR2 : Hid (R = F) := Lib.hid (by rw [HR.out, failF, if_pos (.inr hn)])
      clear ho
      go_enter Try.func22, Try.ntmps22
      go_wp2_with fail
      (with_reducible refine C1.out.mono ?_); rintro e w2 ⟨rfl, rfl⟩
      go_wp2_with fail
      go_ret
      exact ⟨by rw [HE2.out]; rfl, by rw [HR2.out]; exact Turned.below ⟨fv, kv, H.out⟩ (Below.refl _ _)⟩
    · have HE2 : Hid (E = 0) := Lib.hid (by rw [HE.out, failE, if_neg ho, if_neg hn])
      have HR2 : Hid (R = { F with left := n, keep := l }) := Lib.hid (by rw [HR.out, failF, if_neg (by rintro (h | h); exact ho h; exact hn h)])
      clear ho
      go_enter Try.func22, Try.ntmps22
      go_wp2_with fail
      (with_reducible refine C1.out.mono ?_); rintro e w2 ⟨rfl, rfl⟩
      go_wp2_with fail
      (with_reducible refine C2.out.mono ?_); rintro e w3 ⟨⟨v', rfl, hi3⟩, hb3⟩
      obtain ⟨ka', kc', rfl⟩ := hi3.val
      rw [← hb3.cell (p := ⟨b, 4, none⟩) hbl] at c4
      rw [← hb3.cell (p := ⟨b, 5, none⟩) hbl] at c5
      rw [← hb3.frozen (p := ⟨b, 4, none⟩) hbl] at f4
      rw [← hb3.frozen (p := ⟨b, 5, none⟩) hbl] at f5
      have HI := Lib.hid hi3
      clear hi3
      go_wp2_with fail
      go_ret
      have hs := hb3.size
      have hf3 := H.out.below hb3
      refine ⟨by rw [HE2.out]; rfl, fun k => M k ∨ (w2.heap.size ≤ k ∧ k < w3.heap.size), ⟨fv, .slice ka' l.length kc', ?_⟩, fun k hk => hk.imp id And.left, ((Out.of_below hb3).set (.inl H.out.mb) _ _).set (.inl H.out.mb) _ _⟩
      rw [HR2.out]
      exact {
        box := (hf3.box.s4 _).s5 _
        own := own_eq hf3.own fun c hc => by rw [setCell_heap_other _ _ _ _ _ (H.out.mf c hc).2, setCell_heap_other _ _ _ _ _ (H.out.mf c hc).2]
        ints := HI.out.eq (by rw [size_set, size_set]; exact Nat.le_refl _) fun k hk hm => ⟨by rw [setCell_heap_other _ _ _ _ _ (by omega), setCell_heap_other _ _ _ _ _ (by omega)], .inr ⟨hm, hk⟩, by omega, fun e => by have := H.out.lt k (H.out.mf k e).1; omega⟩
        mb := .inl H.out.mb
        mf := fun k hk => ⟨.inl (H.out.mf k hk).1, (H.out.mf k hk).2⟩
        lt := fun k hk => by rw [size_set, size_set]; rcases hk with hk | hk; have := H.out.lt k hk; omega; exact hk.2 }
end Go.Proofs.Ytmoaecicibjmnaa
