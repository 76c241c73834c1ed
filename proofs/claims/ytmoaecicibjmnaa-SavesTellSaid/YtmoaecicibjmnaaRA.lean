/- The document's file systems in memory: the same records, laid another way. The document's New, Name, Place, there, Read, Start. The document's Start, Names, Unsynced. The document's Crash. The document's fails. The document's Sync. The document's Truncate. The document's Fail. The document's with: plain laws; append of a file. The document's with: the walk. -/
import Derived.Test.YtmoaecicibjmnaaKJ
import Derived.BigQuiet
import Derived.Laws.Cover1
namespace Go.Proofs.Ytmoaecicibjmnaa
open Go.RowKit

def PF.rcs (x : PF) : List Value := [.string x.name, .string x.bytes, .int .i64 ((x.pl.size : Nat) : Int)]
def rc (L : List PF) : List Value := L.flatMap PF.rcs
theorem rc_nil : rc [] = [] := rfl
theorem rc_cons (x : PF) (L : List PF) : rc (x :: L) = x.rcs ++ rc L := by simp [rc]
theorem rc_append (L M : List PF) : rc (L ++ M) = rc L ++ rc M := by simp [rc]
theorem prc_len (x : PF) : x.rcs.length = 3 := rfl
theorem rc_len : ∀ (L : List PF), (rc L).length = L.length * 3
  | [] => rfl
  | x :: L => by rw [rc_cons, List.length_append, rc_len L, prc_len, List.length_cons]; omega
theorem rc_take : ∀ (L : List PF) (i : Nat), rc (L.take i) = (rc L).take (i * 3)
  | [], i => by simp [rc]
  | x :: L, 0 => by simp [rc]
  | x :: L, i + 1 => by
    rw [List.take_succ_cons, rc_cons, rc_cons, rc_take L i, List.take_append, prc_len, show (i + 1) * 3 - 3 = i * 3 by omega, List.take_of_length_le (l := x.rcs) (by rw [prc_len]; omega)]
theorem rc_drop : ∀ (L : List PF) (i : Nat), rc (L.drop i) = (rc L).drop (i * 3)
  | [], i => by simp [rc]
  | x :: L, 0 => by simp
  | x :: L, i + 1 => by
    rw [List.drop_succ_cons, rc_cons, rc_drop L i, List.drop_append, prc_len, show (i + 1) * 3 - 3 = i * 3 by omega, List.drop_of_length_le (l := x.rcs) (by rw [prc_len]; omega), List.nil_append]
theorem rc_get (L : List PF) (i : Nat) (x : PF) (h : L[i]? = some x) (k : Nat) (hk : k < 3) : (rc L)[i * 3 + k]? = x.rcs[k]? := by
  have h1 : (rc L).drop (i * 3) = x.rcs ++ rc (L.drop (i + 1)) := by
    rw [← rc_drop, List.drop_eq_getElem?_toList_append, h]
    simp [rc_cons]
  have h2 := congrArg (·[k]?) h1
  simp only [List.getElem?_drop] at h2
  rw [h2, List.getElem?_append_left (by rw [prc_len]; exact hk)]
theorem rc_set (L : List PF) (i : Nat) (hi : i < L.length) (x : PF) : rc (L.set i x) = (((rc L).set (i * 3) (.string x.name)).set (i * 3 + 1) (.string x.bytes)).set (i * 3 + 2) (.int .i64 ((x.pl.size : Nat) : Int)) := by
  have h0 := rc_len L
  apply List.ext_getElem?
  intro j
  by_cases hj : j < L.length * 3
  · have hq : j / 3 < L.length := by omega
    have hr : j % 3 < 3 := Nat.mod_lt _ (by omega)
    have he : j = j / 3 * 3 + j % 3 := by omega
    rw [he]
    by_cases hx : j / 3 = i
    · rw [hx, rc_get (L.set i x) i x (by rw [List.getElem?_set_self hi]) _ hr]
      rcases (show j % 3 = 0 ∨ j % 3 = 1 ∨ j % 3 = 2 by omega) with e | e | e
      · rw [e]; simp only [Nat.add_zero]; rw [List.getElem?_set_ne (by omega), List.getElem?_set_ne (by omega), List.getElem?_set_self (by omega)]; rfl
      · rw [e, List.getElem?_set_ne (by omega), List.getElem?_set_self (by rw [List.length_set]; omega)]; rfl
      · rw [e, List.getElem?_set_self (by rw [List.length_set, List.length_set]; omega)]; rfl
    · rw [List.getElem?_set_ne (by omega), List.getElem?_set_ne (by omega), List.getElem?_set_ne (by omega)]
      rw [rc_get (L.set i x) (j / 3) L[j / 3] (by rw [List.getElem?_set_ne (by omega), List.getElem?_eq_getElem hq]) _ hr, rc_get L (j / 3) L[j / 3] (List.getElem?_eq_getElem hq) _ hr]
  · rw [List.getElem?_eq_none (by rw [rc_len, List.length_set]; omega), List.getElem?_eq_none (by simp only [List.length_set]; omega)]
theorem prc_one (x : PF) : ∀ u ∈ x.rcs, u.oneCell' = true := by
  intro u hu
  simp only [PF.rcs, List.mem_cons, List.not_mem_nil, or_false] at hu
  rcases hu with rfl | rfl | rfl <;> rfl
theorem rc_one (L : List PF) : ∀ u ∈ rc L, u.oneCell' = true := by
  intro u hu
  obtain ⟨x, _, hx⟩ := List.mem_flatMap.1 hu
  exact prc_one x u hx


/-! ### A box of seven cells -/
def Box7 (w : World) (b : Nat) (t : TypeId) (v0 v1 v2 v3 v4 v5 v6 : Value) : Prop := w.heap[b]? = some (.cells #[v0, v1, v2, v3, v4, v5, v6] t (0, 0))
section
variable {w : World} {b : Nat} {t : TypeId} {v0 v1 v2 v3 v4 v5 v6 : Value}
theorem Box7.c0 (h : Box7 w b t v0 v1 v2 v3 v4 v5 v6) : w.cell? ⟨b, 0, none⟩ = some v0 := by unfold Box7 at h; simp [World.cell?, h]
theorem Box7.c1 (h : Box7 w b t v0 v1 v2 v3 v4 v5 v6) : w.cell? ⟨b, 1, none⟩ = some v1 := by unfold Box7 at h; simp [World.cell?, h]
theorem Box7.c2 (h : Box7 w b t v0 v1 v2 v3 v4 v5 v6) : w.cell? ⟨b, 2, none⟩ = some v2 := by unfold Box7 at h; simp [World.cell?, h]
theorem Box7.c3 (h : Box7 w b t v0 v1 v2 v3 v4 v5 v6) : w.cell? ⟨b, 3, none⟩ = some v3 := by unfold Box7 at h; simp [World.cell?, h]
theorem Box7.c4 (h : Box7 w b t v0 v1 v2 v3 v4 v5 v6) : w.cell? ⟨b, 4, none⟩ = some v4 := by unfold Box7 at h; simp [World.cell?, h]
theorem Box7.c5 (h : Box7 w b t v0 v1 v2 v3 v4 v5 v6) : w.cell? ⟨b, 5, none⟩ = some v5 := by unfold Box7 at h; simp [World.cell?, h]
theorem Box7.c6 (h : Box7 w b t v0 v1 v2 v3 v4 v5 v6) : w.cell? ⟨b, 6, none⟩ = some v6 := by unfold Box7 at h; simp [World.cell?, h]
theorem Box7.free (h : Box7 w b t v0 v1 v2 v3 v4 v5 v6) (k : Nat) : w.frozen? ⟨b, k, none⟩ = false := by unfold Box7 at h; simp [World.frozen?, h]
theorem Box7.lt (h : Box7 w b t v0 v1 v2 v3 v4 v5 v6) : b < w.heap.size := (Array.getElem?_eq_some_iff.1 h).1
theorem Box7.eq {w' : World} (h : Box7 w b t v0 v1 v2 v3 v4 v5 v6) (e : w'.heap[b]? = w.heap[b]?) : Box7 w' b t v0 v1 v2 v3 v4 v5 v6 := e.trans h
theorem Box7.s1 (h : Box7 w b t v0 v1 v2 v3 v4 v5 v6) (v : Value) : Box7 (w.setCell ⟨b, 1, none⟩ v) b t v0 v v2 v3 v4 v5 v6 := setCell_heap_same w b 1 v _ t h
theorem Box7.s2 (h : Box7 w b t v0 v1 v2 v3 v4 v5 v6) (v : Value) : Box7 (w.setCell ⟨b, 2, none⟩ v) b t v0 v1 v v3 v4 v5 v6 := setCell_heap_same w b 2 v _ t h
theorem Box7.s3 (h : Box7 w b t v0 v1 v2 v3 v4 v5 v6) (v : Value) : Box7 (w.setCell ⟨b, 3, none⟩ v) b t v0 v1 v2 v v4 v5 v6 := setCell_heap_same w b 3 v _ t h
theorem Box7.s4 (h : Box7 w b t v0 v1 v2 v3 v4 v5 v6) (v : Value) : Box7 (w.setCell ⟨b, 4, none⟩ v) b t v0 v1 v2 v3 v v5 v6 := setCell_heap_same w b 4 v _ t h
theorem Box7.s5 (h : Box7 w b t v0 v1 v2 v3 v4 v5 v6) (v : Value) : Box7 (w.setCell ⟨b, 5, none⟩ v) b t v0 v1 v2 v3 v4 v v6 := setCell_heap_same w b 5 v _ t h
theorem Box7.s6 (h : Box7 w b t v0 v1 v2 v3 v4 v5 v6) (v : Value) : Box7 (w.setCell ⟨b, 6, none⟩ v) b t v0 v1 v2 v3 v4 v5 v := setCell_heap_same w b 6 v _ t h
end

/-! ### The document's file system -/
structure RIn (M : Nat → Prop) (w : World) (b : Nat) (F : FR) (fv kv : Value) (L : Int) : Prop where
  box : Box7 w b 103 (.int .i64 F.limit) (.int .i64 F.starts) (.bool F.off) (.bool (decide (0 ≤ F.left))) fv (.int .i64 L) kv
  own : w.ownsRow 0 115 3 fv F.files.length (rc F.files)
  ints : IntsIn (fun k => M k ∧ k ≠ b ∧ fv.ownBlock ≠ some k) w kv F.keep
  mb : M b
  mf : ∀ k, fv.ownBlock = some k → M k ∧ k ≠ b
  lt : ∀ k, M k → k < w.heap.size
/-- (Left holds what is left, where a Fail is set.) -/
def RAt (M : Nat → Prop) (w : World) (b : Nat) (F : FR) : Prop := ∃ fv kv L, RIn M w b F fv kv L ∧ (0 ≤ F.left → L = F.left)
theorem RIn.eq {M : Nat → Prop} {w w' : World} {b : Nat} {F : FR} {fv kv : Value} {L : Int} (h : RIn M w b F fv kv L) (hs : w.heap.size ≤ w'.heap.size) (he : ∀ k, M k → w'.heap[k]? = w.heap[k]?) : RIn M w' b F fv kv L where
  box := h.box.eq (he b h.mb)
  own := own_eq h.own fun k hk => he k (h.mf k hk).1
  ints := h.ints.eq hs fun k _ hm => ⟨he k hm.1, hm⟩
  mb := h.mb
  mf := h.mf
  lt k hk := Nat.lt_of_lt_of_le (h.lt k hk) hs
theorem RIn.below {M : Nat → Prop} {w w' : World} {b : Nat} {F : FR} {fv kv : Value} {L : Int} (h : RIn M w b F fv kv L) (hb : Below w.heap.size w w') : RIn M w' b F fv kv L := h.eq hb.size fun k hk => hb.block k (h.lt k hk)
theorem RAt.below {M : Nat → Prop} {w w' : World} {b : Nat} {F : FR} (h : RAt M w b F) (hb : Below w.heap.size w w') : RAt M w' b F := by
  obtain ⟨fv, kv, L, h, hlf⟩ := h
  exact ⟨fv, kv, L, h.below hb, hlf⟩
theorem RAt.out {M N : Nat → Prop} {w w' : World} {b : Nat} {F : FR} (h : RAt M w b F) (ho : Out N w w') (hd : ∀ k, M k → ¬ N k) : RAt M w' b F := by
  obtain ⟨fv, kv, L, h, hlf⟩ := h
  exact ⟨fv, kv, L, h.eq ho.size fun k hk => ho.block k (h.lt k hk) (hd k hk), hlf⟩
theorem RAt.lt {M : Nat → Prop} {w : World} {b : Nat} {F : FR} (h : RAt M w b F) : ∀ k, M k → k < w.heap.size := by
  obtain ⟨fv, kv, L, h, _⟩ := h
  exact h.lt
/-- What a step on the document's file system leaves. -/
def RTurned (M : Nat → Prop) (w w' : World) (b : Nat) (F : FR) : Prop := ∃ M', RAt M' w' b F ∧ (∀ k, M' k → M k ∨ w.heap.size ≤ k) ∧ Out M w w'
theorem RTurned.trans {M M' : Nat → Prop} {w a w' : World} {b : Nat} {F : FR} (hM : ∀ k, M' k → M k ∨ w.heap.size ≤ k) (h1 : Out M w a) (h2 : RTurned M' a w' b F) : RTurned M w w' b F := by
  obtain ⟨N, hf, hN, ho⟩ := h2
  exact ⟨N, hf, fun k hk => (hN k hk).elim (hM k) (fun h => .inr (Nat.le_trans h1.size h)), h1.trans ho hM⟩
theorem RTurned.below {M : Nat → Prop} {w w' : World} {b : Nat} {F : FR} (h : RAt M w b F) (hb : Below w.heap.size w w') : RTurned M w w' b F := ⟨M, h.below hb, fun _ hk => .inl hk, Out.of_below hb⟩
end Go.Proofs.Ytmoaecicibjmnaa

namespace Go.Proofs.Ytmoaecicibjmnaa
open Go.RowKit

theorem own_rfiles {w : World} {v : Value} {L : List PF} (h : w.ownsRow 0 115 3 v L.length (rc L)) (hne : L ≠ []) :
    ∃ g cap, v = .slice (some ⟨g, 0, none⟩) L.length cap ∧ L.length ≤ cap ∧ cap ≤ maxLen ∧ g < w.heap.size ∧
      (∀ i x, L[i]? = some x → w.cell? ⟨g, i * 3, none⟩ = some (.string x.name) ∧ w.cell? ⟨g, i * 3 + 1, none⟩ = some (.string x.bytes) ∧ w.cell? ⟨g, i * 3 + 2, none⟩ = some (.int .i64 ((x.pl.size : Nat) : Int))) ∧ ∀ j, w.frozen? ⟨g, j, none⟩ = false := by
  rcases h.2 with ⟨_, h0⟩ | ⟨g, cap, cur, rfl, hB, hg, h1, h2, h3, h4⟩
  · exact absurd (List.eq_nil_of_length_eq_zero h0) hne
  · refine ⟨g, cap, rfl, h1, h2, (Array.getElem?_eq_some_iff.1 hg).1, fun i x hx => ?_, fun j => h.frozenAt j⟩
    have hi := (List.getElem?_eq_some_iff.1 hx).1
    have e := fun k hk => (h.cellAt (i * 3 + k) (by omega)).trans (rc_get L i x hx k hk)
    exact ⟨e 0 (by omega), e 1 (by omega), e 2 (by omega)⟩
set_option maxRecDepth 100000 in
theorem rnew_any (c : Int) (w : World) (h1 : 1 ≤ c) (h2 : c ≤ 1048576) :
    Calls Try.prog 29 #[.int .i64 c] w fun e w' => ∃ b, e = .returned (.tuple #[.pointer (some ⟨b, 0, none⟩), .int .i64 0]) ∧ ∃ M, RAt M w' b (newF c) ∧ (∀ k, M k → w.heap.size ≤ k) ∧ Below w.heap.size w w' := by
  have g1 : ¬ c < 1 := by omega
  have g2 : ¬ 1048576 < c := by omega
  go_enter Try.func29, Try.ntmps29
  go_wp2
  go_ret2
  refine ⟨_, rfl, fun k => k = w.heap.size, ⟨.slice none 0 0, .slice none 0 0, 0, ?_, (fun h => by have h : (0 : Int) ≤ -1 := h; omega)⟩, ?_, by go_grown⟩
  · refine ⟨?_, World.ownsRow_nil _ _ _ _, ⟨none, 0, rfl, fun h => absurd rfl h⟩, rfl, ?_, ?_⟩
    · unfold Box7; rw [heap_alloc, if_pos rfl]; rfl
    · intro k hk; cases hk
    · rintro k rfl; rw [size_alloc]; exact Nat.lt_succ_self _
  · rintro k rfl; exact Nat.le_refl _
set_option maxRecDepth 100000 in
theorem rnew_bad (c : Int) (w : World) (h : c < 1 ∨ 1048576 < c) :
    Calls Try.prog 29 #[.int .i64 c] w fun e w' => e = .returned (.tuple #[.pointer none, .int .i64 2]) ∧ Below w.heap.size w w' := by
  rcases h with h | h
  · go_enter Try.func29, Try.ntmps29
    go_wp2
    go_ret2
    exact ⟨rfl, Below.refl _ _⟩
  · have g1 : ¬ c < 1 := by omega
    go_enter Try.func29, Try.ntmps29
    go_wp2
    go_ret2
    exact ⟨rfl, Below.refl _ _⟩
set_option maxRecDepth 100000 in
theorem rname_any (s : ByteArray) (w : World) (hs : s.size ≤ 9223372036854775807) :
    Calls Try.prog 88 #[.string s] w fun e w' => e = .returned (.bool (namedB s)) ∧ w' = w := by
  by_cases h1 : 0 < s.size
  · by_cases h2 : s.size ≤ 16
    · have e : namedB s = true := by unfold namedB; simp [h1, h2]
      rw [e]
      go_enter Try.func88, Try.ntmps88
      have g1 : (1 : Int) ≤ (s.size : Int) := by omega
      have g2 : (s.size : Int) ≤ 16 := by omega
      go_wp2
      go_ret
      exact ⟨rfl, rfl⟩
    · have e : namedB s = false := by unfold namedB; simp [h1, h2]
      rw [e]
      have g1 : (1 : Int) ≤ (s.size : Int) := by omega
      have g2 : ¬ (s.size : Int) ≤ 16 := by omega
      go_enter Try.func88, Try.ntmps88
      go_wp2
      go_ret
      exact ⟨rfl, rfl⟩
  · have e : namedB s = false := by unfold namedB; simp [h1]
    rw [e]
    have g1 : ¬ (1 : Int) ≤ (s.size : Int) := by omega
    go_enter Try.func88, Try.ntmps88
    go_wp2
    go_ret
    exact ⟨rfl, rfl⟩
/-- What Place tells. -/
def placeI (F : FR) (n : ByteArray) : Int := if isAt F.files n = true then (place F.files n : Nat) else -1
set_option maxRecDepth 100000 in
set_option maxHeartbeats 4000000 in
theorem rplace_any {M : Nat → Prop} {w : World} {b : Nat} {F : FR} (h : RAt M w b F) (hG : Sound F) (n : ByteArray) :
    Calls Try.prog 89 #[.pointer (some ⟨b, 0, none⟩), .string n] w fun e w' => e = .returned (.int .i64 (placeI F n)) ∧ Below w.heap.size w w' := by
  obtain ⟨fv, kv, L, h, _⟩ := h
  have H := Lib.hid h
  have HG := Lib.hid hG
  have c4 := h.box.c4
  have hbl := h.box.lt
  have hcnt := hG.cnt
  obtain ⟨fa, fc, rfl⟩ : ∃ fa fc, fv = .slice fa F.files.length fc := own_slice h.own
  obtain ⟨q, hq⟩ : ∃ q, q = F.files.length := ⟨_, rfl⟩
  have HQ := Lib.hid hq
  rw [← hq] at c4 hcnt
  obtain ⟨K, hK⟩ : ∃ K : Ending → World → Prop, K = fun e w' => e = .returned (.int .i64 (placeI F n)) ∧ Below w.heap.size w w' := ⟨_, rfl⟩
  have HK := Lib.hid hK
  rw [← hK]
  clear hG h hq hK
  go_enter Try.func89, Try.ntmps89
  go_wp2_with fail
  go_loopw [5] (fun i wr => ∃ k : Nat, k ≤ q ∧ i = .int .i64 (k : Nat) ∧ Hid (∀ (t : Nat) x, t < k → F.files[t]? = some x → x.name ≠ n) ∧ wr = w) (fun i _ => q - (intOf i).toNat)
  case atStart => exact ⟨0, Nat.zero_le _, rfl, Lib.hid (fun t x ht => by omega), rfl⟩
  case round =>
    obtain ⟨k, hkq, rfl, hno, hw⟩ := hrel
    subst hw
    by_cases hlt : k < q
    · obtain ⟨x, hx⟩ := get_of_lt F.files k (by rw [← HQ.out]; exact hlt)
      obtain ⟨g1, cap, he, h1, h2, hg1, hcell, hfr⟩ := own_rfiles H.out.own (by intro e; rw [e] at hx; simp at hx)
      injection he with e1 e2 e3
      subst e1 e3
      clear e2 hfr
      obtain ⟨d0, d1, d2⟩ := hcell k x hx
      have HX := Lib.hid hx
      have tb := toList_beq x.name n
      clear hcell hx h1 h2 d1 d2
      by_cases hxn : x.name = n
      · rw [decide_eq_true hxn] at tb
        have HXN := Lib.hid hxn
        clear hxn
        go_wp2_with fail
        rw [HK.out]
        have hp : place F.files n = k := by rw [← HXN.out]; exact place_self HG.out.asc HX.out
        have hi : isAt F.files n = true := by rw [← HXN.out]; exact isAt_self HG.out.asc HX.out
        exact ⟨by unfold placeI; rw [if_pos hi, hp]; rfl, Below.refl _ _⟩
      · rw [decide_eq_false hxn] at tb
        have HXN := Lib.hid hxn
        clear hxn
        go_wp2_with fail
        case roundEnd =>
          refine ⟨⟨k + 1, by omega, by go_num, Lib.hid (fun t y ht hy => ?_), trivial⟩, by simp [intOf]; omega⟩
          by_cases htk : t < k
          · exact hno.out t y htk hy
          · obtain rfl : t = k := by omega
            have := HX.out
            rw [hy] at this
            injection this with this
            subst this
            exact HXN.out
    · obtain rfl : k = q := by omega
      go_wp2_with fail
      rw [HK.out]
      have hi : ¬ isAt F.files n = true := fun hi => by
        obtain ⟨x, hx, hxn⟩ := isAt_get hi
        exact hno.out _ x (by rw [HQ.out]; exact (List.getElem?_eq_some_iff.1 hx).1) hx hxn
      exact ⟨by unfold placeI; rw [if_neg hi]; rfl, Below.refl _ _⟩
set_option maxRecDepth 100000 in
set_option maxHeartbeats 4000000 in
/-- there: hasE; the place. -/
theorem there_any {M : Nat → Prop} {w : World} {b : Nat} {F : FR} (h : RAt M w b F) (hG : Sound F) (n : ByteArray) :
    Calls Try.prog 99 #[.pointer (some ⟨b, 0, none⟩), .string n] w fun e w' => e = .returned (.tuple #[.int .i64 (if hasE F n = 0 then placeI F n else 0), .int .i64 (hasE F n)]) ∧ Below w.heap.size w w' := by
  have C1 := Lib.hid (rplace_any h hG n)
  obtain ⟨fv, kv, L, h, _⟩ := h
  have c2 := h.box.c2
  cases ho : F.off with
  | true =>
    have e : hasE F n = 51 := by unfold hasE; rw [if_pos ho]
    rw [e, if_neg (by omega)]
    rw [ho] at c2
    clear C1 h hG e ho
    go_enter Try.func99, Try.ntmps99
    go_wp2_with fail
    go_ret2
    exact ⟨rfl, Below.refl _ _⟩
  | false =>
    rw [ho] at c2
    by_cases hi : isAt F.files n = true
    · have e : hasE F n = 0 := by unfold hasE; rw [if_neg (by rw [ho]; simp), if_pos hi]
      have ep : placeI F n = ((place F.files n : Nat) : Int) := by unfold placeI; rw [if_pos hi]
      rw [e, if_pos rfl, ep]
      rw [ep] at C1
      clear e ep hi h hG ho
      go_enter Try.func99, Try.ntmps99
      go_wp2_with fail
      (with_reducible refine C1.out.mono ?_); rintro e w2 ⟨rfl, hb2⟩
      go_wp2_with fail
      go_ret2
      exact ⟨rfl, hb2⟩
    · have e : hasE F n = 4 := by unfold hasE; rw [if_neg (by rw [ho]; simp), if_neg hi]
      have ep : placeI F n = -1 := by unfold placeI; rw [if_neg hi]
      rw [e, if_neg (by omega)]
      rw [ep] at C1
      clear e ep hi h hG ho
      go_enter Try.func99, Try.ntmps99
      go_wp2_with fail
      (with_reducible refine C1.out.mono ?_); rintro e w2 ⟨rfl, hb2⟩
      go_wp2_with fail
      go_ret2
      exact ⟨rfl, hb2⟩
set_option maxRecDepth 100000 in
set_option maxHeartbeats 4000000 in
theorem rread_any {M : Nat → Prop} {w : World} {b : Nat} {F : FR} (h : RAt M w b F) (hG : Sound F) (n : ByteArray) :
    Calls Try.prog 71 #[.pointer (some ⟨b, 0, none⟩), .string n] w fun e w' => e = .returned (.tuple #[.string (readS F n), .int .i64 (hasE F n)]) ∧ Below w.heap.size w w' := by
  have C1 := there_any h hG n
  by_cases hz : hasE F n = 0
  · obtain ⟨x, hx, _⟩ := isAt_get (hasE_ok hz).2
    have hr : readS F n = x.bytes := by unfold readS; rw [if_pos hz, hx]
    have ep : placeI F n = ((place F.files n : Nat) : Int) := by unfold placeI; rw [if_pos (hasE_ok hz).2]
    rw [hz, if_pos rfl, ep] at C1
    rw [hr, hz]
    have C2 := Lib.hid C1
    have hp : place F.files n < F.files.length := (List.getElem?_eq_some_iff.1 hx).1
    have hcnt := hG.cnt
    obtain ⟨fv, kv, L, h, _⟩ := h
    have H := Lib.hid h
    have c4 := h.box.c4
    have hbl := h.box.lt
    obtain ⟨g1, cap, rfl, h1, h2, hg1, hcell, hfr⟩ := own_rfiles h.own (by intro e; rw [e] at hx; simp at hx)
    obtain ⟨d0, d1, d2⟩ := hcell _ x hx
    generalize place F.files n = k at *
    generalize F.files.length = q at *
    obtain ⟨S, hS⟩ : ∃ S, S = x.bytes := ⟨_, rfl⟩
    rw [← hS] at d1 ⊢
    clear hr hz ep C1 hx h hG hcell hfr d0 d2 hS
    go_enter Try.func71, Try.ntmps71
    go_wp2_with fail
    (with_reducible refine C2.out.mono ?_); rintro e w2 ⟨rfl, hb2⟩
    have y4 := (hb2.cell (p := ⟨b, 4, none⟩) hbl).trans c4
    have y1 := (hb2.cell (p := ⟨g1, k * 3 + 1, none⟩) hg1).trans d1
    go_wp2_with fail
    go_ret2
    exact ⟨rfl, hb2⟩
  · have hr : readS F n = ⟨#[]⟩ := by unfold readS; rw [if_neg hz]; rfl
    rw [if_neg hz] at C1
    rw [hr]
    have C2 := Lib.hid C1
    have hz' : (hasE F n == 0) = false := by simpa using hz
    generalize hasE F n = z at *
    clear hz h hG hr C1
    go_enter Try.func71, Try.ntmps71
    go_wp2_with fail
    (with_reducible refine C2.out.mono ?_); rintro e w2 ⟨rfl, hb2⟩
    go_wp2_with fail
    go_ret2
    exact ⟨rfl, hb2⟩
end Go.Proofs.Ytmoaecicibjmnaa

namespace Go.Proofs.Ytmoaecicibjmnaa
open Go.RowKit

theorem RIn.turn {M : Nat → Prop} {w w' : World} {b : Nat} {F : FR} {fv kv : Value} {L L' : Int} (h : RIn M w b F fv kv L) (F' : FR) (hk : F'.keep = F.keep)
    (hb : Box7 w' b 103 (.int .i64 F'.limit) (.int .i64 F'.starts) (.bool F'.off) (.bool (decide (0 ≤ F'.left))) fv (.int .i64 L') kv) (ho : w'.ownsRow 0 115 3 fv F'.files.length (rc F'.files))
    (hs : w.heap.size ≤ w'.heap.size) (he : ∀ c, M c → c ≠ b → fv.ownBlock ≠ some c → w'.heap[c]? = w.heap[c]?) : RIn M w' b F' fv kv L' where
  box := hb
  own := ho
  ints := by rw [hk]; exact h.ints.eq hs fun c _ hm => ⟨he c hm.1 hm.2.1 hm.2.2, hm⟩
  mb := h.mb
  mf := h.mf
  lt c hc := Nat.lt_of_lt_of_le (h.lt c hc) hs
set_option maxRecDepth 100000 in
theorem rstart_any {M : Nat → Prop} {b : Nat} {F : FR} (w : World) (h : RAt M w b F) :
    Calls Try.prog 68 #[.pointer (some ⟨b, 0, none⟩)] w fun e w' => e = .returned (.int .i64 (startE F)) ∧ RTurned M w w' b (startF F) := by
  obtain ⟨fv, kv, L, h, hlf⟩ := h
  have HLF := Lib.hid hlf
  clear hlf
  have H := Lib.hid h
  have c1 := h.box.c1
  have c2 := h.box.c2
  have f1 := h.box.free 1
  have f2 := h.box.free 2
  by_cases ho : F.off = true
  · obtain ⟨R, hR⟩ : ∃ R, R = startF F := ⟨_, rfl⟩
    have HR : Hid (R = { F with off := false, starts := wrap64 (F.starts + 1) }) := Lib.hid (by rw [hR, startF, if_pos ho])
    rw [← hR, startE, if_pos ho]
    rw [ho] at c2
    clear h ho hR
    go_enter Try.func68, Try.ntmps68
    go_wp2_with fail
    go_ret
    refine ⟨rfl, M, ⟨fv, kv, L, ?_, by rw [HR.out]; exact HLF.out⟩, fun k hk => .inl hk, ((Out.refl _ _).set (.inl H.out.mb) _ _).set (.inl H.out.mb) _ _⟩
    rw [HR.out]
    exact H.out.turn _ rfl ((H.out.box.s2 _).s1 _) (own_eq H.out.own fun c hc => by rw [setCell_heap_other _ _ _ _ _ (H.out.mf c hc).2, setCell_heap_other _ _ _ _ _ (H.out.mf c hc).2]) (by rw [size_set, size_set]; exact Nat.le_refl _) (fun c _ hc _ => by rw [setCell_heap_other _ _ _ _ _ hc, setCell_heap_other _ _ _ _ _ hc])
  · have hR : startF F = F := by rw [startF, if_neg ho]
    have ho' : F.off = false := by cases e : F.off; rfl; exact absurd e ho
    rw [hR, startE, if_neg ho]
    rw [ho'] at c2
    clear h ho ho' hR
    go_enter Try.func68, Try.ntmps68
    go_wp2_with fail
    go_ret
    exact ⟨rfl, RTurned.below ⟨fv, kv, L, H.out, HLF.out⟩ (Below.refl _ _)⟩
set_option maxRecDepth 100000 in
set_option maxHeartbeats 4000000 in
theorem rnames_any {M : Nat → Prop} {w : World} {b : Nat} {F : FR} (h : RAt M w b F) (hG : Sound F) :
    Calls Try.prog 72 #[.pointer (some ⟨b, 0, none⟩)] w fun e w' => (∃ v, e = .returned v ∧ w'.ownsRow w.heap.size 9 1 v F.files.length (F.files.map fun x => Value.string x.name)) ∧ Below w.heap.size w w' := by
  obtain ⟨fv, kv, L, h, _⟩ := h
  have H := Lib.hid h
  have HG := Lib.hid hG
  have c4 := h.box.c4
  have hbl := h.box.lt
  have hcnt := hG.cnt
  obtain ⟨fa, fc, rfl⟩ : ∃ fa fc, fv = .slice fa F.files.length fc := own_slice h.own
  obtain ⟨q, hq⟩ : ∃ q, q = F.files.length := ⟨_, rfl⟩
  have HQ := Lib.hid hq
  rw [← hq] at c4 hcnt ⊢
  clear hG h hq
  go_enter Try.func72, Try.ntmps72
  go_wp2_with fail
  go_loopw [4, 3] (fun i out wr => ∃ k : Nat, k ≤ q ∧ i = .int .i64 (k : Nat) ∧ Hid (wr.ownsRow w.heap.size 9 1 out k ((F.files.take k).map fun x => Value.string x.name)) ∧ Below w.heap.size w wr) (fun i _ _ => q - (intOf i).toNat)
  case atStart => exact ⟨0, Nat.zero_le _, rfl, Lib.hid (World.ownsRow_nil _ _ _ _), Below.refl _ _⟩
  case round =>
    obtain ⟨k, hkq, rfl, hown, hbel⟩ := hrel
    have y4 := (hbel.cell (p := ⟨b, 4, none⟩) hbl).trans c4
    by_cases hlt : k < q
    · obtain ⟨x, hx⟩ := get_of_lt F.files k (by rw [← HQ.out]; exact hlt)
      obtain ⟨g1, cap, he, h1, h2, hg1, hcell, hfr⟩ := own_rfiles (H.out.below hbel).own (by intro e; rw [e] at hx; simp at hx)
      injection he with e1 e2 e3
      subst e1 e3
      clear e2 hfr
      obtain ⟨d0, d1, d2⟩ := hcell k x hx
      have hts : (F.files.take (k + 1)).map (fun x => Value.string x.name) = (F.files.take k).map (fun x => Value.string x.name) ++ [Value.string x.name] := by
        rw [List.take_add_one, hx, List.map_append]; rfl
      have HTS := Lib.hid hts
      obtain ⟨z, hz⟩ : ∃ z, z = x.name := ⟨_, rfl⟩
      rw [← hz] at d0 HTS
      clear d1 d2 hz
      clear hcell hx hts h1 h2
      have hB2 : w.heap.size ≤ (wr.alloc (.cells #[.string z] 9)).heap.size := by rw [size_alloc]; have := hbel.size; omega
      go_wp2_with (at_builtin; refine wpList_append_one rfl (.tmp 14) (.tmp 23) 30 rfl 9 (.string ByteArray.empty) 16 (by kernel_rfl) (by kernel_rfl) rfl w.heap.size u3 k _ (by simp [Act.eval]) (hown.out.alloc _) wr.heap.size 1 (by simp [Act.eval]) (.string z) (new_one _ _ _) rfl (by omega) (by decide) hB2 ?_; intro g7 c7 w7 hown7 hgr7 hb7)
      go_roundw
      case rel => exact ⟨k + 1, by omega, by go_num, Lib.hid (by rw [HTS.out]; exact hown7.out), (hbel.alloc hbel.size _).trans hb7⟩
      case measure => simp [intOf]; omega
    · obtain rfl : k = q := by omega
      go_wp2_with fail
      go_ret
      refine ⟨⟨_, rfl, ?_⟩, hbel⟩
      have := hown.out
      rw [List.take_of_length_le (by rw [HQ.out]; exact Nat.le_refl _)] at this
      exact this
/-- append of one cell to a row of the call's own, as a step of a region that draws. -/
theorem step_append_one {P : Program} {ops : Array Oper} {o : Oper} {a : Act} {w : World} {K : Act → World → Prop} {Q : Exit → Act → World → Prop} {E : Prop}
    (hg : o.guard = none) (s x : Operand) (t : TypeId) (hop : o.op = Op.call { callee := Callee.builtin Builtin.append, args := #[s, x], argTypes := #[t, t] })
    (e : TypeId) (z : Value) (bytes : Nat) (ht : P.underlying t = some (.slice e)) (hinfo : (P.info? e).map (fun i => (i.zero, i.size, i.bytes)) = some (some z, 1, bytes)) (hz : z.cells.size = 1)
    (B : Nat) (v : Value) (n : Nat) (xs : List Value) (hs : a.eval s = v) (hown : w.ownsRow B e 1 v n xs)
    (nb c : Nat) (hx : a.eval x = .slice (some ⟨nb, 0, none⟩) 1 c) (u : Value) (hu : w.cell? ⟨nb, 0, none⟩ = some u) (h1 : u.oneCell' = true)
    (hn : n < 1000000) (hby : bytes ≤ 1000) (hB : B ≤ w.heap.size)
    (hK : ∀ g c w', Hid (w'.ownsRow B e 1 (.slice (some ⟨g, 0, none⟩) (n + 1) c) (n + 1) (xs ++ [u])) → Below B w w' → K (a.put o.dst (.slice (some ⟨g, 0, none⟩) (n + 1) c)) w') :
    if Region.wanted o (yielded ops a.tmps) = true then Oper.wp P o a w K Q else E := by
  have hw : Region.wanted o (yielded ops a.tmps) = true := by simp [Region.wanted, hg]
  rw [if_pos hw]
  obtain ⟨i, hi, hzz⟩ := Option.map_eq_some_iff.1 hinfo
  simp only [Prod.mk.injEq] at hzz
  obtain ⟨hz1, hs1, hb1⟩ := hzz
  obtain ⟨v', w', hrun, r1, r2, r3⟩ := run_append_own (P := P) w B t o.type e i z 1 bytes ht hi hz1 hs1 hb1 hz (by decide) v n xs hown ⟨nb, 0, none⟩ 1 c [u] rfl
    (fun j u' hj => by cases j with | zero => simp at hj; rw [← hj]; exact hu | succ j => simp at hj) (fun u' hu' => by simp at hu'; rw [hu']; exact h1) (by unfold maxLen; omega) (by have : (n + 1) * bytes ≤ 1000000 * 1000 := Nat.mul_le_mul (by omega) hby; omega) hB
  have hbel : Below B w w' := (Below.refl B w).grown r2 hB fun k hk => (hown.lt k hk).1
  unfold Oper.wp
  simp [execOp, hop, resolve, invoke, builtin, hs, hx, hrun, Result.andThen]
  rcases r1.2 with ⟨_, h0⟩ | ⟨g, c', cur, hv, h⟩
  · omega
  · subst hv
    exact hK g c' w' r1 hbel
set_option maxRecDepth 100000 in
set_option maxHeartbeats 4000000 in
theorem runsynced_any {M : Nat → Prop} {w : World} {b : Nat} {F : FR} (h : RAt M w b F) (hG : Sound F) :
    Calls Try.prog 73 #[.pointer (some ⟨b, 0, none⟩)] w fun e w' => (∃ v, e = .returned v ∧ w'.ownsRow w.heap.size 3 1 v F.files.length (F.files.map fun x => Value.int .i64 ((x.air.size : Nat) : Int))) ∧ Below w.heap.size w w' := by
  obtain ⟨fv, kv, L, h, _⟩ := h
  have H := Lib.hid h
  have HG := Lib.hid hG
  have c4 := h.box.c4
  have hbl := h.box.lt
  have hcnt := hG.cnt
  obtain ⟨fa, fc, rfl⟩ : ∃ fa fc, fv = .slice fa F.files.length fc := own_slice h.own
  obtain ⟨q, hq⟩ : ∃ q, q = F.files.length := ⟨_, rfl⟩
  have HQ := Lib.hid hq
  rw [← hq] at c4 hcnt ⊢
  clear hG h hq
  go_enter Try.func73, Try.ntmps73
  go_wp2_with fail
  go_loopw [4, 3] (fun i out wr => ∃ k : Nat, k ≤ q ∧ i = .int .i64 (k : Nat) ∧ Hid (wr.ownsRow w.heap.size 3 1 out k ((F.files.take k).map fun x => Value.int .i64 ((x.air.size : Nat) : Int))) ∧ Below w.heap.size w wr) (fun i _ _ => q - (intOf i).toNat)
  case atStart => exact ⟨0, Nat.zero_le _, rfl, Lib.hid (World.ownsRow_nil _ _ _ _), Below.refl _ _⟩
  case round =>
    obtain ⟨k, hkq, rfl, hown, hbel⟩ := hrel
    have y4 := (hbel.cell (p := ⟨b, 4, none⟩) hbl).trans c4
    by_cases hlt : k < q
    · obtain ⟨x, hx⟩ := get_of_lt F.files k (by rw [← HQ.out]; exact hlt)
      obtain ⟨g1, cap, he, h1, h2, hg1, hcell, hfr⟩ := own_rfiles H.out.own (by intro e; rw [e] at hx; simp at hx)
      injection he with e1 e2 e3
      subst e1 e3
      clear e2 hfr
      obtain ⟨d0, d1, d2⟩ := hcell k x hx
      have hts : (F.files.take (k + 1)).map (fun x => Value.int .i64 ((x.air.size : Nat) : Int)) = (F.files.take k).map (fun x => Value.int .i64 ((x.air.size : Nat) : Int)) ++ [Value.int .i64 ((x.air.size : Nat) : Int)] := by
        rw [List.take_add_one, hx, List.map_append]; rfl
      have HTS := Lib.hid hts
      have hsz := HG.out.size (List.mem_of_getElem? hx)
      have hXs : x.bytes.size = x.pl.size + x.air.size := ByteArray.size_append
      generalize x.bytes = V at *
      generalize x.pl.size = p at *
      obtain ⟨z, hz⟩ : ∃ z, z = x.air.size := ⟨_, rfl⟩
      rw [← hz] at HTS hsz hXs
      have hsub : ((V.size : Nat) : Int) - (p : Int) = (z : Int) := by omega
      have hC : ∀ wx, Below w.heap.size w wx → wx.cell? ⟨b, 4, none⟩ = some (.slice (some ⟨g1, 0, none⟩) q fc) ∧ wx.cell? ⟨g1, k * 3 + 1, none⟩ = some (.string V) ∧ wx.cell? ⟨g1, k * 3 + 2, none⟩ = some (.int .i64 (p : Int)) := fun wx hb =>
        ⟨(hb.cell (p := ⟨b, 4, none⟩) hbl).trans c4, (hb.cell (p := ⟨g1, k * 3 + 1, none⟩) hg1).trans d1, (hb.cell (p := ⟨g1, k * 3 + 2, none⟩) hg1).trans d2⟩
      have HC := Lib.hid hC
      have hVb : V.size ≤ 1048576 := by omega
      have hwz : IntKind.i64.wrap ((z : Nat) : Int) = ((z : Nat) : Int) := IntWalk.i64_in _ ⟨by omega, by omega⟩
      clear hz hcell hx hts h1 h2 d0 d1 d2 hC hXs
      go_upto_region 5 with fail
      refine wp_region_held_drew (S := fun w' => w'.cell? ⟨b, 4, none⟩ = some (.slice (some ⟨g1, 0, none⟩) q fc) ∧ w'.cell? ⟨g1, k * 3 + 1, none⟩ = some (.string V) ∧ w'.cell? ⟨g1, k * 3 + 2, none⟩ = some (.int .i64 (p : Int))) (by kernel_rfl) (HC.out _ hbel.drew) (fun hH => ?_)
      (refine hTake (i := 0) (v := ?_) rfl (by kernel_rfl) (by kernel_rfl) (by kernel_rfl) (fun _ _ _ h => h) (by kernel_rfl) ?_ (by assumption) ?_; rotate_left; focus (intro w' hS'; (try dsimp only at hS'); go_split_ands; (try go_simp); (try (with_reducible rfl)); done); try simp only [Act.put, List.setIfInBounds_toArray, List.set_cons_zero, List.set_cons_succ]); (refine hTake (i := 1) (v := ?_) rfl (by kernel_rfl) (by kernel_rfl) (by kernel_rfl) (fun _ _ _ h => h) (by kernel_rfl) ?_ (by assumption) ?_; rotate_left; focus (intro w' hS'; (try dsimp only at hS'); go_split_ands; (try go_simp); (try (with_reducible rfl)); done); try simp only [Act.put, List.setIfInBounds_toArray, List.set_cons_zero, List.set_cons_succ]); (refine hTake (i := 2) (v := ?_) rfl (by kernel_rfl) (by kernel_rfl) (by kernel_rfl) (fun _ _ _ h => h) (by kernel_rfl) ?_ (by assumption) ?_; rotate_left; focus (intro w' hS'; (try dsimp only at hS'); go_split_ands; (try go_simp); (try (with_reducible rfl)); done); try simp only [Act.put, List.setIfInBounds_toArray, List.set_cons_zero, List.set_cons_succ]); (refine hTake (i := 3) (v := ?_) rfl (by kernel_rfl) (by kernel_rfl) (by kernel_rfl) (fun _ _ _ h => h) (by kernel_rfl) ?_ (by assumption) ?_; rotate_left; focus (intro w' hS'; (try dsimp only at hS'); go_split_ands; (try go_simp); (try (with_reducible rfl)); done); try simp only [Act.put, List.setIfInBounds_toArray, List.set_cons_zero, List.set_cons_succ]); (refine hTake (i := 4) (v := ?_) rfl (by kernel_rfl) (by kernel_rfl) (by kernel_rfl) (fun _ _ _ h => h) (by kernel_rfl) ?_ (by assumption) ?_; rotate_left; focus (intro w' hS'; (try dsimp only at hS'); go_split_ands; (try go_simp); (try (with_reducible rfl)); done); try simp only [Act.put, List.setIfInBounds_toArray, List.set_cons_zero, List.set_cons_succ]); (refine hTake (i := 5) (v := ?_) rfl (by kernel_rfl) (by kernel_rfl) (by kernel_rfl) (fun _ _ _ h => h) (by kernel_rfl) ?_ (by assumption) ?_; rotate_left; focus (intro w' hS'; (try dsimp only at hS'); go_split_ands; (try go_simp); (try (with_reducible rfl)); done); try simp only [Act.put, List.setIfInBounds_toArray, List.set_cons_zero, List.set_cons_succ]); (refine hTake (i := 6) (v := ?_) rfl (by kernel_rfl) (by kernel_rfl) (by kernel_rfl) (fun _ _ _ h => h) (by kernel_rfl) ?_ (by assumption) ?_; rotate_left; focus (intro w' hS'; (try dsimp only at hS'); go_split_ands; (try go_simp); (try (with_reducible rfl)); done); try simp only [Act.put, List.setIfInBounds_toArray, List.set_cons_zero, List.set_cons_succ]); (refine hTake (i := 7) (v := ?_) rfl (by kernel_rfl) (by kernel_rfl) (by kernel_rfl) (fun _ _ _ h => h) (by kernel_rfl) ?_ (by assumption) ?_; rotate_left; focus (intro w' hS'; (try dsimp only at hS'); go_split_ands; (try go_simp); (try (with_reducible rfl)); done); try simp only [Act.put, List.setIfInBounds_toArray, List.set_cons_zero, List.set_cons_succ]); (refine hTake (i := 8) (v := ?_) rfl (by kernel_rfl) (by kernel_rfl) (by kernel_rfl) (fun _ _ _ h => h) (by kernel_rfl) ?_ (by assumption) ?_; rotate_left; focus (intro w' hS'; (try dsimp only at hS'); go_split_ands; (try go_simp); (try (with_reducible rfl)); done); try simp only [Act.put, List.setIfInBounds_toArray, List.set_cons_zero, List.set_cons_succ]); (refine hTake (i := 9) (v := ?_) rfl (by kernel_rfl) (by kernel_rfl) (by kernel_rfl) (fun _ _ _ h => h) (by kernel_rfl) ?_ (by assumption) ?_; rotate_left; focus (intro w' hS'; (try dsimp only at hS'); go_split_ands; (try go_simp); (try (with_reducible rfl)); done); try simp only [Act.put, List.setIfInBounds_toArray, List.set_cons_zero, List.set_cons_succ]); (refine hTake (i := 10) (v := ?_) rfl (by kernel_rfl) (by kernel_rfl) (by kernel_rfl) (fun _ _ _ h => h) (by kernel_rfl) ?_ (by assumption) ?_; rotate_left; focus (intro w' hS'; (try dsimp only at hS'); go_split_ands; (try go_simp); (try (with_reducible rfl)); done); try simp only [Act.put, List.setIfInBounds_toArray, List.set_cons_zero, List.set_cons_succ])
      (refine hTake (i := 11) (v := ?_) rfl (by kernel_rfl) (by kernel_rfl) (by kernel_rfl) (fun _ _ _ h => h) (by kernel_rfl) ?_ (by assumption) ?_; rotate_left; focus (intro w' hS'; (try dsimp only at hS'); go_split_ands; (try go_simp); (try (with_reducible rfl)); done); try simp only [Act.put, List.setIfInBounds_toArray, List.set_cons_zero, List.set_cons_succ]); (refine hTake (i := 12) (v := ?_) rfl (by kernel_rfl) (by kernel_rfl) (by kernel_rfl) (fun _ _ _ h => h) (by kernel_rfl) ?_ (by assumption) ?_; rotate_left; focus (intro w' hS'; (try dsimp only at hS'); go_split_ands; (try go_simp); (try (with_reducible rfl)); done); try simp only [Act.put, List.setIfInBounds_toArray, List.set_cons_zero, List.set_cons_succ]); (refine hTake (i := 13) (v := ?_) rfl (by kernel_rfl) (by kernel_rfl) (by kernel_rfl) (fun _ _ _ h => h) (by kernel_rfl) ?_ (by assumption) ?_; rotate_left; focus (intro w' hS'; (try dsimp only at hS'); go_split_ands; (try go_simp); (try (with_reducible rfl)); done); try simp only [Act.put, List.setIfInBounds_toArray, List.set_cons_zero, List.set_cons_succ]); (refine hTake (i := 14) (v := ?_) rfl (by kernel_rfl) (by kernel_rfl) (by kernel_rfl) (fun _ _ _ h => h) (by kernel_rfl) ?_ (by assumption) ?_; rotate_left; focus (intro w' hS'; (try dsimp only at hS'); go_split_ands; (try go_simp); (try (with_reducible rfl)); done); try simp only [Act.put, List.setIfInBounds_toArray, List.set_cons_zero, List.set_cons_succ]); (refine hTake (i := 15) (v := ?_) rfl (by kernel_rfl) (by kernel_rfl) (by kernel_rfl) (fun _ _ _ h => h) (by kernel_rfl) ?_ (by assumption) ?_; rotate_left; focus (intro w' hS'; (try dsimp only at hS'); go_split_ands; (try go_simp); (try (with_reducible rfl)); done); try simp only [Act.put, List.setIfInBounds_toArray, List.set_cons_zero, List.set_cons_succ]); (refine hTake (i := 16) (v := ?_) rfl (by kernel_rfl) (by kernel_rfl) (by kernel_rfl) (fun _ _ _ h => h) (by kernel_rfl) ?_ (by assumption) ?_; rotate_left; focus (intro w' hS'; (try dsimp only at hS'); go_split_ands; (try go_simp); (try (with_reducible rfl)); done); try simp only [Act.put, List.setIfInBounds_toArray, List.set_cons_zero, List.set_cons_succ]); (refine hTake (i := 17) (v := ?_) rfl (by kernel_rfl) (by kernel_rfl) (by kernel_rfl) (fun _ _ _ h => h) (by kernel_rfl) ?_ (by assumption) ?_; rotate_left; focus (intro w' hS'; (try dsimp only at hS'); go_split_ands; (try go_simp); (try (with_reducible rfl)); done); try simp only [Act.put, List.setIfInBounds_toArray, List.set_cons_zero, List.set_cons_succ]); (refine hTake (i := 18) (v := ?_) rfl (by kernel_rfl) (by kernel_rfl) (by kernel_rfl) (fun _ _ _ h => h) (by kernel_rfl) ?_ (by assumption) ?_; rotate_left; focus (intro w' hS'; (try dsimp only at hS'); go_split_ands; (try go_simp); (try (with_reducible rfl)); done); try simp only [Act.put, List.setIfInBounds_toArray, List.set_cons_zero, List.set_cons_succ])
      refine hOne (i := 19) rfl (by kernel_rfl) (fun K hK => ?_)
      go_simp
      have hb5 : Below w.heap.size w (wr.alloc (.cells #[.int .i64 ((z : Nat) : Int)] 3)).drew := (hbel.alloc hbel.size _).drew
      refine hK.out _ _ (HC.out _ hb5) (fun hH => ?_)
      clear hK K
      refine hOne (i := 20) rfl (by kernel_rfl) (fun K hK => ?_)
      refine step_append_one rfl (.tmp 14) (.tmp 33) 33 rfl 3 (.int .i64 0) 8 (by kernel_rfl) (by kernel_rfl) rfl w.heap.size u3 k _ (by simp [Act.eval]) (own_below (hown.out.alloc _) (Below.refl _ _).drew) wr.heap.size 1 (by simp [Act.eval]) (.int .i64 ((z : Nat) : Int)) (new_one wr _ _) rfl (by omega) (by decide) hb5.size ?_
      intro g7 c7 w7 hown7 hb7
      refine hK.out _ _ (HC.out _ (hb5.trans hb7)) (fun hH => ?_)
      clear hK K
      (refine hTake (i := 21) (v := ?_) rfl (by kernel_rfl) (by kernel_rfl) (by kernel_rfl) (fun _ _ _ h => h) (by kernel_rfl) ?_ (by assumption) ?_; rotate_left; focus (intro w' hS'; (try dsimp only at hS'); go_split_ands; (try go_simp); (try (with_reducible rfl)); done); try simp only [Act.put, List.setIfInBounds_toArray, List.set_cons_zero, List.set_cons_succ])
      refine wpAnyH_done (by kernel_rfl) ?_ _
      go_wp2_with fail
      exact ⟨⟨k + 1, by omega, by go_num, Lib.hid (by rw [HTS.out]; exact hown7.out), hb5.trans hb7⟩, by simp [intOf]; omega⟩
    · obtain rfl : k = q := by omega
      go_wp2_with fail
      go_ret
      refine ⟨⟨_, rfl, ?_⟩, hbel⟩
      have := hown.out
      rw [List.take_of_length_le (by rw [HQ.out]; exact Nat.le_refl _)] at this
      exact this
set_option maxHeartbeats 4000000 in
set_option maxRecDepth 100000 in
theorem rsize_any {M : Nat → Prop} {w : World} {b : Nat} {F : FR} (h : RAt M w b F) (hG : Sound F) :
    Calls Try.prog 74 #[.pointer (some ⟨b, 0, none⟩)] w fun e w' => e = .returned (.int .i64 (total F.files : Nat)) ∧ Below w.heap.size w w' := by
  have hT : total F.files ≤ 1048576 := by have := hG.sum; have := hG.lim2; omega
  obtain ⟨fv, kv, L, h, _⟩ := h
  have H := Lib.hid h
  have HG := Lib.hid hG
  have c4 := h.box.c4
  have hbl := h.box.lt
  have hcnt := hG.cnt
  obtain ⟨fa, fc, rfl⟩ : ∃ fa fc, fv = .slice fa F.files.length fc := own_slice h.own
  obtain ⟨q, hq⟩ : ∃ q, q = F.files.length := ⟨_, rfl⟩
  have HQ := Lib.hid hq
  rw [← hq] at c4 hcnt
  obtain ⟨T, hTT⟩ : ∃ T, T = total F.files := ⟨_, rfl⟩
  have HT := Lib.hid hTT
  rw [← hTT] at hT ⊢
  clear hG h hq hTT
  go_enter Try.func74, Try.ntmps74
  go_wp2_with fail
  go_loopw [4, 3] (fun i s wr => ∃ k m : Nat, k ≤ q ∧ i = .int .i64 (k : Nat) ∧ s = .int .i64 (m : Nat) ∧ Hid (m = total (F.files.take k)) ∧ Below w.heap.size w wr) (fun i _ _ => q - (intOf i).toNat)
  case atStart => exact ⟨0, 0, Nat.zero_le _, rfl, rfl, Lib.hid rfl, Below.refl _ _⟩
  case round =>
    obtain ⟨k, m, hkq, rfl, rfl, hm, hbel⟩ := hrel
    have hmT : m ≤ T := by rw [hm.out, HT.out]; exact total_le _ _
    have y4 := (hbel.cell (p := ⟨b, 4, none⟩) hbl).trans c4
    by_cases hlt : k < q
    · obtain ⟨x, hx⟩ := get_of_lt F.files k (by rw [← HQ.out]; exact hlt)
      obtain ⟨g1, cap, he, h1, h2, hg1, hcell, hfr⟩ := own_rfiles (H.out.below hbel).own (by intro e; rw [e] at hx; simp at hx)
      injection he with e1 e2 e3
      subst e1 e3
      clear e2 hfr
      obtain ⟨d0, d1, d2⟩ := hcell k x hx
      have hs := total_take F.files k x hx
      have hXs : x.bytes.size = x.pl.size + x.air.size := ByteArray.size_append
      generalize x.bytes = V at *
      rw [← hXs] at hs
      have hmz : m + V.size ≤ T := by rw [hm.out, ← hs, HT.out]; exact total_le _ _
      have HS := Lib.hid hs
      clear hs hx hXs hcell h1 h2 d0 d2
      go_wp2_with fail
      case roundEnd => exact ⟨⟨k + 1, m + V.size, by omega, by go_num, by go_num, Lib.hid (by rw [HS.out, hm.out]), hbel⟩, by simp [intOf]; omega⟩
    · obtain rfl : k = q := by omega
      go_wp2_with fail
      go_ret
      refine ⟨?_, hbel⟩
      rw [hm.out, List.take_of_length_le (by rw [HQ.out]; exact Nat.le_refl _), HT.out]
      rfl
end Go.Proofs.Ytmoaecicibjmnaa

namespace Go.Proofs.Ytmoaecicibjmnaa
open Go.RowKit

/-- A store into a file's bytes and its plate. -/
theorem rown_store {w : World} {g n cap : Nat} {L : List PF} (h : w.ownsRow 0 115 3 (.slice (some ⟨g, 0, none⟩) n cap) L.length (rc L)) (i : Nat) (x : PF) (hx : L[i]? = some x) (y : PF) (hn : y.name = x.name) :
    ((w.setCell ⟨g, i * 3 + 1, none⟩ (.string y.bytes)).setCell ⟨g, i * 3 + 2, none⟩ (.int .i64 ((y.pl.size : Nat) : Int))).ownsRow 0 115 3 (.slice (some ⟨g, 0, none⟩) n cap) (L.set i y).length (rc (L.set i y)) := by
  have hi := (List.getElem?_eq_some_iff.1 hx).1
  obtain rfl := own_n h
  have h1 := ((h.stored (i * 3 + 1) (.string y.bytes)).1.stored (i * 3 + 2) (.int .i64 ((y.pl.size : Nat) : Int))).1
  rw [List.length_set, rc_set L i hi, hn]
  have e : (rc L).set (i * 3) (.string x.name) = rc L := by
    have h2 := rc_get L i x hx 0 (by omega)
    rw [Nat.add_zero] at h2
    apply List.ext_getElem?
    intro j
    by_cases hj : j = i * 3
    · subst hj
      have h3 := (List.getElem?_eq_some_iff.1 h2).1
      rw [List.getElem?_set_self h3, h2]; rfl
    · rw [List.getElem?_set_ne (Ne.symm hj)]
  rw [e]
  exact h1
set_option maxRecDepth 100000 in
theorem rcrash_off {M : Nat → Prop} {w : World} {b : Nat} {F : FR} (h : RAt M w b F) (ho : F.off = true) (a : Option Addr) (n c : Nat) :
    Calls Try.prog 67 #[.pointer (some ⟨b, 0, none⟩), .slice a n c] w fun e w' => e = .returned (.int .i64 51) ∧ w' = w := by
  obtain ⟨fv, kv, L, h, _⟩ := h
  have c2 := h.box.c2
  rw [ho] at c2
  clear h ho
  go_enter Try.func67, Try.ntmps67
  go_wp2_with fail
  go_ret
  exact ⟨rfl, rfl⟩
set_option maxHeartbeats 8000000 in
set_option maxRecDepth 100000 in
theorem rcrash_in {M : Nat → Prop} {w : World} {b : Nat} {F : FR} {fv kv : Value} {L : Int} (h : RIn M w b F fv kv L) (hG : Sound F) (ho : F.off = false) {v : Value} {keep : List Int} (hk : IntsIn (fun k => k ≠ b ∧ fv.ownBlock ≠ some k) w v keep) (_hkl : keep.length ≤ 9223372036854775807) :
    Calls Try.prog 67 #[.pointer (some ⟨b, 0, none⟩), v] w fun e w' => e = .returned (.int .i64 0) ∧ RIn M w' b (crashF F keep) fv kv L ∧ Out M w w' := by
  obtain ⟨ka, kc, rfl⟩ := hk.val
  have HK := Lib.hid hk
  have H := Lib.hid h
  have HG := Lib.hid hG
  have c2 := h.box.c2
  have c3 := h.box.c3
  have c4 := h.box.c4
  have f0 := h.box.free
  rw [ho] at c2
  obtain ⟨fa, fc, rfl⟩ : ∃ fa fc, fv = .slice fa F.files.length fc := own_slice h.own
  obtain ⟨q, hq⟩ : ∃ q, q = F.files.length := ⟨_, rfl⟩
  have HQ := Lib.hid hq
  have hq32 : q ≤ 32 := by rw [hq]; exact hG.cnt
  obtain ⟨u, hu⟩ : ∃ u, u = keep.length := ⟨_, rfl⟩
  have HU := Lib.hid hu
  rw [← hu] at _hkl ⊢
  rw [← hq] at c4
  clear hq hu h hG ho hk
  go_enter Try.func67, Try.ntmps67
  go_wp2_with fail
  generalize hW3 : World.setCell (World.setCell w _ _) _ _ = W3
  obtain ⟨F0, hF0⟩ : ∃ F0 : Nat → FR, F0 = fun k => { F with off := true, left := -1, files := crashTo F.files keep k } := ⟨_, rfl⟩
  have HF0 := Lib.hid hF0
  have h0 : RIn M W3 b (F0 0) (.slice fa F.files.length fc) kv L := by
    rw [← hW3, hF0]
    refine H.out.turn _ rfl ((H.out.box.s2 _).s3 _) ?_ (by rw [size_set, size_set]; exact Nat.le_refl _) (fun c _ hc _ => by rw [setCell_heap_other _ _ _ _ _ hc, setCell_heap_other _ _ _ _ _ hc])
    simp only [crashTo_zero]
    exact own_eq H.out.own fun c hc => by rw [setCell_heap_other _ _ _ _ _ (H.out.mf c hc).2, setCell_heap_other _ _ _ _ _ (H.out.mf c hc).2]
  have ho0 : Out (fun c => c = b ∨ (Value.slice fa F.files.length fc).ownBlock = some c) w W3 := by
    rw [← hW3]
    exact ((Out.refl _ _).set (.inl (.inl rfl)) _ _).set (.inl (.inl rfl)) _ _
  have H0 := Lib.hid h0
  have HO0 := Lib.hid ho0
  clear hF0 h0 ho0 hW3 c2 c3 c4 f0
  go_loopw [5, 6] (fun i _ wr => ∃ k : Nat, k ≤ q ∧ i = .int .i64 (k : Nat) ∧ Hid (RIn M wr b (F0 k) (.slice fa F.files.length fc) kv L) ∧ Hid (Out (fun c => c = b ∨ (Value.slice fa F.files.length fc).ownBlock = some c) w wr)) (fun i _ _ => q - (intOf i).toNat)
  case atStart => exact ⟨0, Nat.zero_le _, rfl, H0, HO0⟩
  case round =>
    obtain ⟨k, hkq, rfl, hf, hout⟩ := hrel
    have c4 := hf.out.box.c4
    rw [← HQ.out] at c4
    by_cases hlt : k < q
    · obtain ⟨x, hx⟩ := get_of_lt F.files k (by rw [← HQ.out]; exact hlt)
      have hL : (F0 k).files[k]? = some x := by rw [HF0.out]; show (crashTo F.files keep k)[k]? = _; rw [crashTo_get _ _ _ _ _ hx, if_neg (Nat.lt_irrefl k)]
      obtain ⟨g, cap, he, h1, h2, hg, hc, hfr⟩ := own_rfiles hf.out.own (by intro e; rw [e] at hL; simp at hL)
      injection he with e1 e2 e3
      subst e1 e3
      clear e2
      obtain ⟨d0, d1, d2⟩ := hc k x hL
      have hsz := HG.out.size (List.mem_of_getElem? hx)
      have hXs : x.bytes.size = x.pl.size + x.air.size := ByteArray.size_append
      have HX := Lib.hid hx
      have HL := Lib.hid hL
      have hTT : leftN x keep k = x.pl.size + min (keepAt keep k).toNat x.air.size := rfl
      have hLB := Lib.hid (left_bytes x keep k)
      have hPS : (cr x (keepAt keep k)).pl.size = leftN x keep k := by
        show (x.pl ++ x.air.extract 0 _).size = _
        rw [ByteArray.size_append, ByteArray.size_extract, hTT]; omega
      have HPS := Lib.hid hPS
      obtain ⟨T, hT⟩ : ∃ T, T = leftN x keep k := ⟨_, rfl⟩
      have HT := Lib.hid hT
      rw [← hT] at hTT
      have hku : k < u → ∃ kb ko, ka = some ⟨kb, ko, none⟩ ∧ wr.cell? ⟨kb, ko + k, none⟩ = some (.int .i64 (keepAt keep k)) := fun hk => by
        obtain ⟨kb, ko, kc', he, hkb, hkm, hcell⟩ := HK.out.at (i := k) (by rw [← HU.out]; exact hk)
        injection he with e1 e2 e3
        rw [← hout.out.cell hkb (by rintro (e | e); exact hkm.1 e; exact hkm.2 e)] at hcell
        exact ⟨kb, ko, e1, hcell⟩
      have hz0 : ¬ k < u → keepAt keep k = 0 := fun hk => by unfold keepAt; rw [List.getElem?_eq_none (by rw [← HU.out]; omega)]; rfl
      have HKU := Lib.hid hku
      obtain ⟨V, hV⟩ : ∃ V, V = x.bytes := ⟨_, rfl⟩
      have HV := Lib.hid hV
      rw [← hV] at d1 hXs
      have f1 := hfr
      generalize x.pl.size = p at *
      generalize x.air.size = a' at *
      generalize hzz : keepAt keep k = z at *
      have HZ := Lib.hid hzz
      clear hc hx hL hT hPS hV hku hzz hfr h1 h2 d0
      have hgb : g ≠ b := (hf.out.mf g rfl).2
      have hgb' : ¬ (g = b) := hgb
      have hgb2 : ¬ (b = g) := fun e => hgb e.symm
      have hTX : T ≤ V.size := by omega
      have hsub : ((V.size : Nat) : Int) - (p : Int) = (a' : Int) := by omega
      have hVb : V.size ≤ 1048576 := by omega
      rcases Nat.lt_or_ge k u with hk1 | hk1
      case' inr =>
        have hTp : T = p := by have := hz0 (by omega); subst this; omega
        clear hXs hTT hz0 HKU
        subst hTp
        go_upto_region 11 with fail
      case' inl =>
        obtain ⟨kb, ko, rfl, q3⟩ := HKU.out hk1
        clear hz0 HKU
        rcases Int.lt_or_le 0 z with hz | hz
        case' inr =>
          have hTp : T = p := by omega
          clear hXs hTT
          subst hTp
          go_upto_region 11 with fail
        case' inl =>
          obtain ⟨r, hr⟩ : ∃ r, r = min z.toNat a' := ⟨_, rfl⟩
          have hmin : min z (a' : Int) = (r : Int) := by omega
          have hsum : (p : Int) + (r : Int) = (T : Int) := by omega
          have hzl : decide (0 < z) = true := by simpa using hz
          clear hXs hTT hr
          go_upto_region 10 with fail
          go_region
          go_upto_region 11 with fail
      all_goals
        go_region
        go_wp2_with fail
        have e1 : (cr x z).bytes = V.extract 0 T := by rw [HV.out, HT.out]; exact hLB.out.symm
        have e2 : (((cr x z).pl.size : Nat) : Int) = (T : Int) := by rw [HPS.out, HT.out]
        have hst := rown_store hf.out.own k x HL.out (cr x z) rfl
        have e3 : (F0 k).files.set k (cr x z) = (F0 (k + 1)).files := by
          rw [HF0.out, ← HZ.out]
          exact crashTo_succ F.files keep k x HX.out
        rw [e1, e2, e3] at hst
        have hRI : RIn M ((wr.setCell ⟨g, k * 3 + 1, none⟩ (.string (V.extract 0 T))).setCell ⟨g, k * 3 + 2, none⟩ (.int .i64 (T : Int))) b (F0 (k + 1)) (.slice (some ⟨g, 0, none⟩) F.files.length fc) kv L := by
          refine hf.out.turn _ (by rw [HF0.out]) ?_ hst (by rw [size_set, size_set]; exact Nat.le_refl _) (fun c _ _ hc => ?_)
          · have hb5 := hf.out.box.eq (w' := (wr.setCell ⟨g, k * 3 + 1, none⟩ (.string (V.extract 0 T))).setCell ⟨g, k * 3 + 2, none⟩ (.int .i64 (T : Int))) (by rw [setCell_heap_other _ _ _ _ _ hgb2, setCell_heap_other _ _ _ _ _ hgb2])
            rw [HF0.out] at hb5 ⊢
            exact hb5
          · have hcg : c ≠ g := fun e => hc (by rw [e]; rfl)
            rw [setCell_heap_other _ _ _ _ _ hcg, setCell_heap_other _ _ _ _ _ hcg]
        have hRO : Out (fun c => c = b ∨ (Value.slice (some ⟨g, 0, none⟩) F.files.length fc).ownBlock = some c) w ((wr.setCell ⟨g, k * 3 + 1, none⟩ (.string (V.extract 0 T))).setCell ⟨g, k * 3 + 2, none⟩ (.int .i64 (T : Int))) := (hout.out.set (.inl (.inr rfl)) _ _).set (.inl (.inr rfl)) _ _
        exact ⟨⟨k + 1, by omega, by go_num, Lib.hid (hRI.eq (Nat.le_refl _) fun _ _ => rfl), Lib.hid (by first | exact hRO.drew | exact hRO.drew.drew)⟩, by simp [intOf]; omega⟩
    · obtain rfl : k = q := by omega
      go_wp2_with fail
      go_ret
      refine ⟨rfl, ?_, ?_⟩
      · have e : F0 k = crashF F keep := by
          rw [HF0.out]
          show { F with off := true, left := -1, files := crashTo F.files keep k } = _
          rw [HQ.out]; rfl
        rw [← e]; exact hf.out
      · exact hout.out.mono fun c _ hc => by
          rcases hc with rfl | hc
          · exact H.out.mb
          · exact (H.out.mf c hc).1
theorem rcrash_any {M : Nat → Prop} {b : Nat} {F : FR} (w : World) (h : RAt M w b F) (hG : Sound F) {v : Value} {l : List Int} (hv : IntsIn (fun k => ¬ M k) w v l) (hl : l.length ≤ 1000000) :
    Calls Try.prog 67 #[.pointer (some ⟨b, 0, none⟩), v] w fun e w' => e = .returned (.int .i64 (crashE F)) ∧ RTurned M w w' b (crashG F l) := by
  by_cases ho : F.off = true
  · rw [crashE, if_pos ho, crashG, if_pos ho]
    obtain ⟨a, c, rfl⟩ := hv.val
    refine (rcrash_off h ho a l.length c).mono ?_
    rintro e w' ⟨he, rfl⟩
    exact ⟨he, RTurned.below h (Below.refl _ _)⟩
  · have ho' : F.off = false := by cases e : F.off; rfl; exact absurd e ho
    rw [crashE, if_neg ho, crashG, if_neg ho]
    obtain ⟨fv, kv, L, h, _⟩ := h
    refine (rcrash_in h hG ho' (hv.eq (Nat.le_refl _) fun k _ hm => ⟨rfl, fun e => hm (by rw [e]; exact h.mb), fun e => hm (h.mf k e).1⟩) (by omega)).mono ?_
    rintro e w' ⟨he, hf, hout⟩
    exact ⟨he, M, ⟨fv, kv, L, hf, (fun h => by have h : (0 : Int) ≤ -1 := h; omega)⟩, fun k hk => .inl hk, hout⟩
end Go.Proofs.Ytmoaecicibjmnaa

namespace Go.Proofs.Ytmoaecicibjmnaa
open Go.RowKit

theorem RIn.store {M : Nat → Prop} {w : World} {b : Nat} {F : FR} {fv kv : Value} {L : Int} (h : RIn M w b F fv kv L) (L' : Int) : RIn M (w.setCell ⟨b, 5, none⟩ (.int .i64 L')) b F fv kv L' :=
  h.turn F rfl (h.box.s5 _) (own_eq h.own fun c hc => by rw [setCell_heap_other _ _ _ _ _ (h.mf c hc).2]) (by rw [size_set]; exact Nat.le_refl _) (fun c _ hc _ => by rw [setCell_heap_other _ _ _ _ _ hc])
set_option maxRecDepth 100000 in
set_option maxHeartbeats 4000000 in
theorem fails_any {M : Nat → Prop} {b : Nat} {F : FR} (w : World) (h : RAt M w b F) (hG : Sound F) (ho : F.off = false) (hkl : F.keep.length ≤ 1000000) :
    Calls Try.prog 100 #[.pointer (some ⟨b, 0, none⟩)] w fun e w' => e = .returned (.bool (decide (F.left = 0))) ∧ RTurned M w w' b (doneA F) := by
  obtain ⟨fv, kv, L, h, hlf⟩ := h
  have H := Lib.hid h
  have HLF := Lib.hid hlf
  have HG := Lib.hid hG
  have c3 := h.box.c3
  have c5 := h.box.c5
  have c6 := h.box.c6
  have f5 := h.box.free 5
  have hll := hG.lf
  by_cases hn : F.left < 0
  · have e1 : doneA F = F := by unfold doneA; rw [if_neg (by omega), if_neg (by omega)]
    rw [e1, decide_eq_false (show ¬ F.left = 0 by omega)]
    rw [decide_eq_false (show ¬ 0 ≤ F.left by omega)] at c3
    clear h hG ho hn e1 hlf c5 c6 f5 hll
    go_enter Try.func100, Try.ntmps100
    go_wp2_with fail
    go_ret
    exact ⟨rfl, RTurned.below ⟨fv, kv, L, H.out, HLF.out⟩ (Below.refl _ _)⟩
  · have hL := hlf (by omega)
    subst hL
    rw [decide_eq_true (show 0 ≤ F.left by omega)] at c3
    by_cases hz : F.left = 0
    · have e1 : doneA F = crashF F F.keep := by unfold doneA; rw [if_pos hz]
      rw [e1, decide_eq_true hz]
      have hR := h.store (-1)
      have HR := Lib.hid hR
      obtain ⟨ka, kc, hkv⟩ := h.ints.val
      have CC := rcrash_in hR hG ho (hR.ints.eq (Nat.le_refl _) fun k _ hm => ⟨rfl, hm.2⟩) (by omega)
      rw [hkv] at CC c6
      have CC1 := Lib.hid CC
      have HKV := Lib.hid hkv
      have c60 : (w.setCell ⟨b, 5, none⟩ (.int .i64 (-1))).cell? ⟨b, 6, none⟩ = some (.slice ka F.keep.length kc) := by rw [← hkv]; exact hR.box.c6
      rw [hz] at c5
      generalize F.keep.length = kn at *
      clear h hG ho hn e1 hlf hll hR CC hkv hz
      go_enter Try.func100, Try.ntmps100
      go_wp2_with fail
      (with_reducible refine CC1.out.mono ?_); rintro e w2 ⟨rfl, hf2, ho2⟩
      have HF2 := Lib.hid hf2
      have HO2 := Lib.hid ho2
      clear hf2 ho2
      go_wp2_with fail
      go_ret
      refine ⟨rfl, M, ⟨fv, _, _, HF2.out, fun h => by have h : (0 : Int) ≤ -1 := h; omega⟩, fun k hk => .inl hk, ((Out.refl _ _).set (.inl H.out.mb) _ _).trans HO2.out (fun k hk => .inl hk)⟩
    · have e1 : doneA F = { F with left := F.left - 1 } := by unfold doneA; rw [if_neg hz, if_pos (by omega)]
      rw [e1, decide_eq_false hz]
      have hpos : 0 < F.left := by omega
      obtain ⟨l, hl⟩ : ∃ l, l = F.left := ⟨_, rfl⟩
      rw [← hl] at c5 hpos hll
      have HLL := Lib.hid hl
      clear h hG ho hn e1 hlf hz hl
      go_enter Try.func100, Try.ntmps100
      go_wp2_with fail
      go_ret
      refine ⟨rfl, M, ⟨fv, kv, l - 1, ?_, fun _ => by show l - 1 = F.left - 1; rw [HLL.out]⟩, fun k hk => .inl hk, (Out.refl _ _).set (.inl H.out.mb) _ _⟩
      have hst := H.out.store (l - 1)
      refine hst.turn { F with left := F.left - 1 } rfl ?_ hst.own (Nat.le_refl _) (fun _ _ _ _ => rfl)
      have hbx := hst.box
      rw [show decide (0 ≤ F.left) = decide (0 ≤ F.left - 1) from by rw [← HLL.out, decide_eq_true (show 0 ≤ l by omega), decide_eq_true (show 0 ≤ l - 1 by omega)]] at hbx
      exact hbx
end Go.Proofs.Ytmoaecicibjmnaa

namespace Go.Proofs.Ytmoaecicibjmnaa
open Go.RowKit

/-- A store into a file's plate alone. -/
theorem rown_plate {w : World} {g n cap : Nat} {L : List PF} (h : w.ownsRow 0 115 3 (.slice (some ⟨g, 0, none⟩) n cap) L.length (rc L)) (i : Nat) (x : PF) (hx : L[i]? = some x) (y : PF) (hn : y.name = x.name) (hb : y.bytes = x.bytes) :
    (w.setCell ⟨g, i * 3 + 2, none⟩ (.int .i64 ((y.pl.size : Nat) : Int))).ownsRow 0 115 3 (.slice (some ⟨g, 0, none⟩) n cap) (L.set i y).length (rc (L.set i y)) := by
  have hi := (List.getElem?_eq_some_iff.1 hx).1
  obtain rfl := own_n h
  have h1 := (h.stored (i * 3 + 2) (.int .i64 ((y.pl.size : Nat) : Int))).1
  rw [List.length_set, rc_set L i hi, hn, hb]
  have keep : ∀ (l : List Value) (j : Nat) (v : Value), l[j]? = some v → l.set j v = l := fun l j v hv => by
    apply List.ext_getElem?
    intro k
    by_cases hk : k = j
    · subst hk
      rw [List.getElem?_set_self (List.getElem?_eq_some_iff.1 hv).1, hv]
    · rw [List.getElem?_set_ne (Ne.symm hk)]
  have h2 := rc_get L i x hx 0 (by omega)
  rw [Nat.add_zero] at h2
  rw [keep (rc L) (i * 3) (.string x.name) h2, keep (rc L) (i * 3 + 1) (.string x.bytes) (rc_get L i x hx 1 (by omega))]
  exact h1
theorem doneA_on {F : FR} (hz : F.left ≠ 0) : (doneA F).files = F.files ∧ (doneA F).off = F.off ∧ (doneA F).limit = F.limit ∧ (doneA F).starts = F.starts ∧ (doneA F).keep = F.keep ∧ ∀ X : FR, X.left = F.left → doneF F X = { X with left := (doneA F).left } := by
  unfold doneA doneF
  rw [if_neg hz]
  split
  · exact ⟨rfl, rfl, rfl, rfl, rfl, fun X _ => rfl⟩
  · exact ⟨rfl, rfl, rfl, rfl, rfl, fun X hX => by rw [← hX]⟩
/-- A file set, in a state whose left has been turned. -/
theorem set_done {F : FR} (hz : F.left ≠ 0) (n : ByteArray) (f : PF → PF) : doneF F (setX F n f) = setX (doneA F) n f := by
  obtain ⟨a1, a2, a3, a4, a5, a6⟩ := doneA_on hz
  rw [a6 _ (setX_left _ _ _)]
  unfold setX
  rw [a1]
  cases F.files[place F.files n]? with
  | none => cases hd : doneA F; rw [hd] at a1 a2 a3 a4 a5; simp only at a1 a2 a3 a4 a5; subst a1 a2 a3 a4 a5; rfl
  | some x => unfold putF; cases hd : doneA F; rw [hd] at a1 a2 a3 a4 a5; simp only at a1 a2 a3 a4 a5; subst a1 a2 a3 a4 a5; rfl
set_option maxRecDepth 100000 in
set_option maxHeartbeats 8000000 in
theorem rsync_any {M : Nat → Prop} {b : Nat} {F : FR} (w : World) (h : RAt M w b F) (hG : Sound F) (hkl : F.keep.length ≤ 1000000) (n : ByteArray) :
    Calls Try.prog 63 #[.pointer (some ⟨b, 0, none⟩), .string n] w fun e w' => e = .returned (.int .i64 (strokeE F n)) ∧ RTurned M w w' b (syncF F n) := by
  have C1 := there_any h hG n
  by_cases hz : hasE F n = 0
  · obtain ⟨ho, hi⟩ := hasE_ok hz
    obtain ⟨x, hx, hxn⟩ := isAt_get hi
    have ep : placeI F n = ((place F.files n : Nat) : Int) := by unfold placeI; rw [if_pos hi]
    rw [hz, if_pos rfl, ep] at C1
    have C2 := Lib.hid C1
    have CF : ∀ w2, Below w.heap.size w w2 → Hid (Calls Try.prog 100 #[.pointer (some ⟨b, 0, none⟩)] w2 fun e w' => e = .returned (.bool (decide (F.left = 0))) ∧ RTurned M w2 w' b (doneA F)) := fun w2 hb => Lib.hid (fails_any w2 (h.below hb) hG ho hkl)
    have H := Lib.hid h
    have hE : strokeE F n = if F.left = 0 then 51 else 0 := by unfold strokeE; rw [if_pos hz]
    have hS : syncF F n = doneF F (setX F n syncX) := by unfold syncF; rw [if_pos hz]
    have hp : place F.files n < F.files.length := (List.getElem?_eq_some_iff.1 hx).1
    have hcnt := hG.cnt
    have hsz := hG.size (List.mem_of_getElem? hx)
    have hXs : x.bytes.size = x.pl.size + x.air.size := ByteArray.size_append
    by_cases hl : F.left = 0
    · have e2 : doneF F (setX F n syncX) = doneA F := by unfold doneF doneA; rw [if_pos hl, if_pos hl]
      rw [hE, if_pos hl, hS, e2]
      rw [decide_eq_true hl] at CF
      clear hz hi hx hxn ep C1 h hE hS hp hcnt hsz hXs e2 hl ho hG
      go_enter Try.func63, Try.ntmps63
      go_wp2_with fail
      (with_reducible refine C2.out.mono ?_); rintro e w2 ⟨rfl, hb2⟩
      have C3 := CF w2 hb2
      clear CF
      go_wp2_with fail
      (with_reducible refine C3.out.mono ?_); rintro e w3 ⟨rfl, ht⟩
      have HT := Lib.hid ht
      clear ht
      go_wp2_with fail
      go_ret
      exact ⟨rfl, RTurned.trans (fun k hk => .inl hk) (Out.of_below hb2) HT.out⟩
    · rw [hE, if_neg hl, hS, set_done hl]
      rw [decide_eq_false hl] at CF
      have hfl := (doneA_on hl).1
      obtain ⟨D, hD⟩ : ∃ D, D = doneA F := ⟨_, rfl⟩
      rw [← hD] at CF hfl ⊢
      obtain ⟨R, hR⟩ : ∃ R, R = setX D n syncX := ⟨_, rfl⟩
      have hRf : R.files = F.files.set (place F.files n) (syncX x) ∧ R.limit = D.limit ∧ R.starts = D.starts ∧ R.off = D.off ∧ R.left = D.left ∧ R.keep = D.keep := by
        rw [hR]; unfold setX; rw [hfl, hx]
        unfold putF
        rw [hfl]
        exact ⟨rfl, rfl, rfl, rfl, rfl, rfl⟩
      have HRF := Lib.hid hRf
      have HFL := Lib.hid hfl
      have HX := Lib.hid hx
      rw [← hR]
      generalize place F.files n = k at *
      obtain ⟨q, hq⟩ : ∃ q, q = F.files.length := ⟨_, rfl⟩
      have HQ := Lib.hid hq
      rw [← hq] at hp hcnt
      have hVb : x.bytes.size ≤ 1048576 := by omega
      have HVV := Lib.hid hXs
      clear hz hi hx hxn ep C1 h hE hS hsz hXs hl ho hG hD hR hRf hfl hq
      go_enter Try.func63, Try.ntmps63
      go_wp2_with fail
      (with_reducible refine C2.out.mono ?_); rintro e w2 ⟨rfl, hb2⟩
      have C3 := CF w2 hb2
      clear CF
      go_wp2_with fail
      (with_reducible refine C3.out.mono ?_); rintro e w3 ⟨rfl, M3, ⟨fv, kv, L, h3, hlf3⟩, hM3, ho3⟩
      have H3 := Lib.hid h3
      have HLF3 := Lib.hid hlf3
      have HM3 := Lib.hid hM3
      have HO3 := Lib.hid (Out.trans (Out.of_below (M := M) hb2) ho3 (fun k hk => .inl hk))
      have c4 := h3.box.c4
      have hxD : D.files[k]? = some x := by rw [HFL.out]; exact HX.out
      obtain ⟨g, cap, hfv, h1, h2, hg, hc, hfr⟩ := own_rfiles h3.own (by intro e; rw [e] at hxD; simp at hxD)
      have hlq : D.files.length = q := by rw [HFL.out]; exact HQ.out.symm
      rw [hlq] at hfv
      subst hfv
      obtain ⟨d0, d1, d2⟩ := hc k x hxD
      have hgb : ¬ (g = b) := (h3.mf g rfl).2
      have hgb2 : ¬ (b = g) := fun e => hgb e.symm
      have f2 := hfr (k * 3 + 2)
      have HXD := Lib.hid hxD
      obtain ⟨V, hV⟩ : ∃ V, V = x.bytes := ⟨_, rfl⟩
      have HV := Lib.hid hV
      rw [← hV] at d1 hVb
      clear h3 hlf3 hM3 ho3 hc hfr hxD hlq hV d0 h1 h2 C2 C3
      go_upto_region 6 with fail
      go_region
      go_wp2_with fail
      go_ret
      have hown : w3.ownsRow 0 115 3 (.slice (some ⟨g, 0, none⟩) q cap) D.files.length (rc D.files) := H3.out.own
      have e1 : (((syncX x).pl.size : Nat) : Int) = ((V.size : Nat) : Int) := by rw [HV.out]; rfl
      have hst := rown_plate hown k x HXD.out (syncX x) rfl (by simp [syncX, PF.bytes])
      rw [e1] at hst
      have hRS : RIn M3 (w3.setCell ⟨g, k * 3 + 2, none⟩ (.int .i64 ((V.size : Nat) : Int))) b R (.slice (some ⟨g, 0, none⟩) q cap) kv L := by
        obtain ⟨r1, r2, r3, r4, r5, r6⟩ := HRF.out
        refine H3.out.turn R r6 ?_ ?_ (by rw [size_set]; exact Nat.le_refl _) (fun c _ _ hc => ?_)
        · rw [r2, r3, r4, r5]
          exact H3.out.box.eq (by rw [setCell_heap_other _ _ _ _ _ hgb2])
        · rw [r1, ← HFL.out]; exact hst
        · have hcg : c ≠ g := fun e => hc (by rw [e]; rfl)
          rw [setCell_heap_other _ _ _ _ _ hcg]
      refine ⟨rfl, M3, ⟨_, _, L, hRS.eq (Nat.le_refl _) fun _ _ => rfl, by rw [HRF.out.2.2.2.2.1]; exact HLF3.out⟩, fun y hy => (HM3.out y hy).elim .inl fun h => .inr (Nat.le_trans hb2.size h), ?_⟩
      have hMg : M g ∨ w.heap.size ≤ g := (HM3.out g (H3.out.mf g rfl).1).elim .inl fun h => .inr (Nat.le_trans hb2.size h)
      exact (HO3.out.set hMg _ _).drew
  · have hE : strokeE F n = hasE F n := by unfold strokeE; rw [if_neg hz]
    have hS : syncF F n = F := by unfold syncF; rw [if_neg hz]
    rw [if_neg hz] at C1
    rw [hE, hS]
    have C2 := Lib.hid C1
    have H := Lib.hid h
    have hz' : (hasE F n == 0) = false := by simpa using hz
    generalize hasE F n = z at *
    clear hz hG hE hS C1 h
    go_enter Try.func63, Try.ntmps63
    go_wp2_with fail
    (with_reducible refine C2.out.mono ?_); rintro e w2 ⟨rfl, hb2⟩
    go_wp2_with fail
    go_ret
    exact ⟨rfl, RTurned.below H.out hb2⟩
end Go.Proofs.Ytmoaecicibjmnaa

namespace Go.Proofs.Ytmoaecicibjmnaa
open Go.RowKit

theorem cut_bytes (x : PF) (m : Nat) : (cutX x (m : Int)).bytes = x.bytes.extract 0 m := by
  have h : (cutX x (m : Int)).bytes.data = (x.bytes.extract 0 m).data := by
    show ((x.pl.extract 0 (min ((m : Int)).toNat x.pl.size)) ++ (x.air.extract 0 (((m : Int)).toNat - min ((m : Int)).toNat x.pl.size))).data = ((x.pl ++ x.air).extract 0 m).data
    simp only [ByteArray.data_extract, ByteArray.data_append, Int.toNat_natCast]
    have hp : x.pl.size = x.pl.data.size := rfl
    rw [Array.extract_append, hp]
    have h1 : x.pl.data.extract 0 (min m x.pl.data.size) = x.pl.data.extract 0 m := by
      apply Array.ext'
      simp
    rw [h1, show m - min m x.pl.data.size = m - x.pl.data.size by omega, Nat.zero_sub]
  exact ByteArray.ext h
set_option maxRecDepth 100000 in
set_option maxHeartbeats 8000000 in
theorem rtruncate_any {M : Nat → Prop} {b : Nat} {F : FR} (w : World) (h : RAt M w b F) (hG : Sound F) (hkl : F.keep.length ≤ 1000000) (n : ByteArray) (t : Int) :
    Calls Try.prog 64 #[.pointer (some ⟨b, 0, none⟩), .string n, .int .i64 t] w fun e w' => e = .returned (.int .i64 (cutE F n t)) ∧ RTurned M w w' b (cutF F n t) := by
  have C1 := there_any h hG n
  by_cases hz : hasE F n = 0
  · obtain ⟨ho, hi⟩ := hasE_ok hz
    obtain ⟨x, hx, hxn⟩ := isAt_get hi
    have ep : placeI F n = ((place F.files n : Nat) : Int) := by unfold placeI; rw [if_pos hi]
    rw [hz, if_pos rfl, ep] at C1
    have C2 := Lib.hid C1
    have CF : ∀ w2, Below w.heap.size w w2 → Hid (Calls Try.prog 100 #[.pointer (some ⟨b, 0, none⟩)] w2 fun e w' => e = .returned (.bool (decide (F.left = 0))) ∧ RTurned M w2 w' b (doneA F)) := fun w2 hb => Lib.hid (fails_any w2 (h.below hb) hG ho hkl)
    have H := Lib.hid h
    have hfx : fileX F n = x := by unfold fileX; rw [hx]; rfl
    have hp : place F.files n < F.files.length := (List.getElem?_eq_some_iff.1 hx).1
    have hcnt := hG.cnt
    have hsz := hG.size (List.mem_of_getElem? hx)
    have hXs : x.bytes.size = x.pl.size + x.air.size := ByteArray.size_append
    obtain ⟨fv0, kv0, L0, h0, _⟩ := h
    have c40 := h0.box.c4
    have hbl := h0.box.lt
    obtain ⟨g0, cap0, hfv0, _, _, hg0, hc0, _⟩ := own_rfiles h0.own (by intro e; rw [e] at hx; simp at hx)
    subst hfv0
    obtain ⟨_, d10, _⟩ := hc0 _ x hx
    have HC0 : Hid (∀ w2, Below w.heap.size w w2 → w2.cell? ⟨b, 4, none⟩ = some (.slice (some ⟨g0, 0, none⟩) F.files.length cap0) ∧ w2.cell? ⟨g0, place F.files n * 3 + 1, none⟩ = some (.string x.bytes)) := Lib.hid (fun w2 hb => ⟨(hb.cell (p := ⟨b, 4, none⟩) hbl).trans c40, (hb.cell (p := ⟨g0, place F.files n * 3 + 1, none⟩) hg0).trans d10⟩)
    clear h0 c40 hg0 hc0 d10
    by_cases hbad : cutBad F n t
    · have hE : cutE F n t = 2 := by unfold cutE; rw [if_pos hz, if_pos hbad]
      have hS : cutF F n t = F := by unfold cutF; rw [if_neg (fun h => h.2 hbad)]
      rw [hE, hS]
      unfold cutBad at hbad
      rw [hfx] at hbad
      generalize place F.files n = k at *
      obtain ⟨q, hq⟩ : ∃ q, q = F.files.length := ⟨_, rfl⟩
      rw [← hq] at hp hcnt HC0
      obtain ⟨V, hV⟩ : ∃ V, V = x.bytes := ⟨_, rfl⟩
      have hVb : V.size ≤ 1048576 := by rw [hV]; omega
      rw [← hV] at hbad HC0
      clear hz hi hx hxn ep C1 hE hS hfx hsz hXs ho hG CF hq hV
      go_enter Try.func64, Try.ntmps64
      go_wp2_with fail
      (with_reducible refine C2.out.mono ?_); rintro e w2 ⟨rfl, hb2⟩
      obtain ⟨y4, y1⟩ := HC0.out w2 hb2
      by_cases hneg : t < 0
      · clear hbad
        go_wp2_with fail
        go_ret
        exact ⟨rfl, RTurned.below H.out hb2⟩
      · have hbig : ((V.size : Nat) : Int) < t := by rcases hbad with h | h; exact absurd h hneg; exact h
        clear hbad
        go_wp2_with fail
        go_ret
        exact ⟨rfl, RTurned.below H.out hb2⟩
    have hE : cutE F n t = if F.left = 0 then 51 else 0 := by unfold cutE; rw [if_pos hz, if_neg hbad]
    have hS : cutF F n t = doneF F (setX F n fun x => cutX x t) := by unfold cutF; rw [if_pos ⟨hz, hbad⟩]
    unfold cutBad at hbad
    rw [hfx] at hbad
    have hneg : ¬ t < 0 := fun e => hbad (.inl e)
    have hbig : ¬ ((x.bytes.size : Nat) : Int) < t := fun e => hbad (.inr e)
    clear hbad
    by_cases hl : F.left = 0
    · have e2 : doneF F (setX F n fun x => cutX x t) = doneA F := by unfold doneF doneA; rw [if_pos hl, if_pos hl]
      rw [hE, if_pos hl, hS, e2]
      rw [decide_eq_true hl] at CF
      generalize place F.files n = k at *
      obtain ⟨q, hq⟩ : ∃ q, q = F.files.length := ⟨_, rfl⟩
      rw [← hq] at hp hcnt HC0
      obtain ⟨V, hV⟩ : ∃ V, V = x.bytes := ⟨_, rfl⟩
      have hVb : V.size ≤ 1048576 := by rw [hV]; omega
      rw [← hV] at hbig HC0
      clear hz hi hx hxn ep C1 hE hS hsz hXs e2 hl ho hG hfx hq hV
      go_enter Try.func64, Try.ntmps64
      go_wp2_with fail
      (with_reducible refine C2.out.mono ?_); rintro e w2 ⟨rfl, hb2⟩
      obtain ⟨y4, y1⟩ := HC0.out w2 hb2
      have C3 := CF w2 hb2
      clear CF
      go_wp2_with fail
      (with_reducible refine C3.out.mono ?_); rintro e w3 ⟨rfl, ht⟩
      have HT := Lib.hid ht
      clear ht
      go_wp2_with fail
      go_ret
      exact ⟨rfl, RTurned.trans (fun k hk => .inl hk) (Out.of_below hb2) HT.out⟩
    · rw [hE, if_neg hl, hS, set_done hl]
      rw [decide_eq_false hl] at CF
      have hfl := (doneA_on hl).1
      obtain ⟨D, hD⟩ : ∃ D, D = doneA F := ⟨_, rfl⟩
      rw [← hD] at CF hfl ⊢
      obtain ⟨m, hm⟩ : ∃ m : Nat, (m : Int) = t := ⟨t.toNat, by omega⟩
      subst hm
      obtain ⟨R, hR⟩ : ∃ R, R = setX D n fun x => cutX x (m : Int) := ⟨_, rfl⟩
      have hRf : R.files = F.files.set (place F.files n) (cutX x (m : Int)) ∧ R.limit = D.limit ∧ R.starts = D.starts ∧ R.off = D.off ∧ R.left = D.left ∧ R.keep = D.keep := by
        rw [hR]; unfold setX; rw [hfl, hx]
        unfold putF
        rw [hfl]
        exact ⟨rfl, rfl, rfl, rfl, rfl, rfl⟩
      have HRF := Lib.hid hRf
      have HFL := Lib.hid hfl
      have HX := Lib.hid hx
      rw [← hR]
      generalize place F.files n = k at *
      obtain ⟨q, hq⟩ : ∃ q, q = F.files.length := ⟨_, rfl⟩
      have HQ := Lib.hid hq
      rw [← hq] at hp hcnt HC0
      have hVb : x.bytes.size ≤ 1048576 := by omega
      obtain ⟨V, hV⟩ : ∃ V, V = x.bytes := ⟨_, rfl⟩
      have HV := Lib.hid hV
      rw [← hV] at hVb hbig HC0
      have hmV : m ≤ V.size := by omega
      clear hz hi hxn ep C1 hE hS hsz hXs hl ho hG hD hR hRf hfl hq hfx hx hV
      go_enter Try.func64, Try.ntmps64
      go_wp2_with fail
      (with_reducible refine C2.out.mono ?_); rintro e w2 ⟨rfl, hb2⟩
      obtain ⟨y4, y1⟩ := HC0.out w2 hb2
      have C3 := CF w2 hb2
      clear CF
      go_wp2_with fail
      (with_reducible refine C3.out.mono ?_); rintro e w3 ⟨rfl, M3, ⟨fv, kv, L, h3, hlf3⟩, hM3, ho3⟩
      have H3 := Lib.hid h3
      have HLF3 := Lib.hid hlf3
      have HM3 := Lib.hid hM3
      have HO3 := Lib.hid (Out.trans (Out.of_below (M := M) hb2) ho3 (fun k hk => .inl hk))
      have c4 := h3.box.c4
      have hxD : D.files[k]? = some x := by rw [HFL.out]; exact HX.out
      obtain ⟨g, cap, hfv, h1, h2, hg, hc, hfr⟩ := own_rfiles h3.own (by intro e; rw [e] at hxD; simp at hxD)
      have hlq : D.files.length = q := by rw [HFL.out]; exact HQ.out.symm
      rw [hlq] at hfv
      subst hfv
      obtain ⟨d0, d1, d2⟩ := hc k x hxD
      have hgb : ¬ (g = b) := (h3.mf g rfl).2
      have hgb2 : ¬ (b = g) := fun e => hgb e.symm
      have f1 := hfr (k * 3 + 1)
      have f2 := hfr (k * 3 + 2)
      have HXD := Lib.hid hxD
      rw [← HV.out] at d1
      obtain ⟨p, hpp⟩ : ∃ p, p = x.pl.size := ⟨_, rfl⟩
      have HP := Lib.hid hpp
      rw [← hpp] at d2
      obtain ⟨r, hr⟩ : ∃ r, r = min p m := ⟨_, rfl⟩
      have hmin : min (p : Int) (m : Int) = (r : Int) := by omega
      have HRR := Lib.hid hr
      clear h3 hlf3 hM3 ho3 hc hfr hxD hlq d0 h1 h2 C2 C3 y4 y1 hpp hr hneg
      go_upto_region 8 with fail
      go_region
      go_upto_region 9 with fail
      go_region
      go_wp2_with fail
      go_ret
      have hown : w3.ownsRow 0 115 3 (.slice (some ⟨g, 0, none⟩) q cap) D.files.length (rc D.files) := H3.out.own
      have e1 : (cutX x (m : Int)).bytes = V.extract 0 m := by rw [cut_bytes, ← HV.out]
      have e2 : (((cutX x (m : Int)).pl.size : Nat) : Int) = (r : Int) := by
        show ((((x.pl.extract 0 (min ((m : Int)).toNat x.pl.size)).size : Nat)) : Int) = _
        rw [ByteArray.size_extract, HRR.out, HP.out]
        simp only [Int.toNat_natCast]
        omega
      have hst := rown_store hown k x HXD.out (cutX x (m : Int)) rfl
      rw [e1, e2] at hst
      have hRS : RIn M3 ((w3.setCell ⟨g, k * 3 + 1, none⟩ (.string (V.extract 0 m))).setCell ⟨g, k * 3 + 2, none⟩ (.int .i64 (r : Int))) b R (.slice (some ⟨g, 0, none⟩) q cap) kv L := by
        obtain ⟨r1, r2, r3, r4, r5, r6⟩ := HRF.out
        refine H3.out.turn R r6 ?_ ?_ (by rw [size_set, size_set]; exact Nat.le_refl _) (fun c _ _ hc => ?_)
        · rw [r2, r3, r4, r5]
          exact H3.out.box.eq (by rw [setCell_heap_other _ _ _ _ _ hgb2, setCell_heap_other _ _ _ _ _ hgb2])
        · rw [r1, ← HFL.out]; exact hst
        · have hcg : c ≠ g := fun e => hc (by rw [e]; rfl)
          rw [setCell_heap_other _ _ _ _ _ hcg, setCell_heap_other _ _ _ _ _ hcg]
      refine ⟨rfl, M3, ⟨_, _, L, hRS.eq (Nat.le_refl _) fun _ _ => rfl, by rw [HRF.out.2.2.2.2.1]; exact HLF3.out⟩, fun y hy => (HM3.out y hy).elim .inl fun h => .inr (Nat.le_trans hb2.size h), ?_⟩
      have hMg : M g ∨ w.heap.size ≤ g := (HM3.out g (H3.out.mf g rfl).1).elim .inl fun h => .inr (Nat.le_trans hb2.size h)
      exact (((HO3.out.set hMg _ _).set hMg _ _).drew).drew
  · have hE : cutE F n t = hasE F n := by unfold cutE; rw [if_neg hz]
    have hS : cutF F n t = F := by unfold cutF; rw [if_neg (fun h => hz h.1)]
    rw [if_neg hz] at C1
    rw [hE, hS]
    have C2 := Lib.hid C1
    have H := Lib.hid h
    have hz' : (hasE F n == 0) = false := by simpa using hz
    generalize hasE F n = z at *
    clear hz hG hE hS C1 h
    go_enter Try.func64, Try.ntmps64
    go_wp2_with fail
    (with_reducible refine C2.out.mono ?_); rintro e w2 ⟨rfl, hb2⟩
    go_wp2_with fail
    go_ret
    exact ⟨rfl, RTurned.below H.out hb2⟩
end Go.Proofs.Ytmoaecicibjmnaa

namespace Go.Proofs.Ytmoaecicibjmnaa
open Go.RowKit

set_option maxRecDepth 100000 in
set_option maxHeartbeats 2000000 in
/-- append of numbers to a new empty list. -/
theorem ints_appended {P : Nat → Prop} {w : World} {a : Option Addr} {c : Nat} {l : List Int} (h : IntsIn P w (.slice a l.length c) l) (hl : l.length ≤ 1000000) :
    ∃ v' w', (Builtin.append_ #[33, 33] 33 #[.slice (some ⟨w.heap.size, 0, none⟩) 0 0, .slice a l.length c]).run Try.prog (w.alloc (.cells #[] 3)) = .ok v' w' ∧ IntsIn (fun k => w.heap.size ≤ k) w' v' l ∧ Below w.heap.size w w' := by
  obtain ⟨a', c', hv, hc⟩ := h
  injection hv with e1 e2 e3
  subst e1 e3
  cases a with
  | none =>
    have h0 : l = [] := by
      by_cases hne : l = []
      · exact hne
      · obtain ⟨_, _, h1, _⟩ := hc hne; cases h1
    subst h0
    refine ⟨.slice (some ⟨w.heap.size, 0, none⟩) 0 0, w.alloc (.cells #[] 3), ?_, ⟨_, 0, rfl, fun h => absurd rfl h⟩, (Below.refl _ _).alloc (Nat.le_refl _) _⟩
    simp [Builtin.append_, go_sem]
  | some ad =>
    obtain ⟨i0, hi0, hz⟩ := Option.map_eq_some_iff.1 (show (Try.prog.info? 3).map (fun i => (i.zero, i.size, i.bytes)) = some (some (.int .i64 0), 1, 8) by kernel_rfl)
    simp only [Prod.mk.injEq] at hz
    obtain ⟨hz1, hz2, hz3⟩ := hz
    have hmade := World.ownsRow_made (e := 3) (size := 1) (base := w.heap.size) w #[] 0 (Nat.le_refl _) (Nat.zero_le _) rfl
    obtain ⟨v', w', hrun, r1, r2, _⟩ := run_append_own (P := Try.prog) (w.alloc (.cells #[] 3)) w.heap.size 33 33 3 i0 _ 1 8 (by kernel_rfl) hi0 hz1 hz2 hz3 rfl (by decide) (.slice (some ⟨w.heap.size, 0, none⟩) 0 0) 0 [] hmade ad l.length c (intVs l) (by rw [intVs, List.length_map, Nat.mul_one])
      (fun j u hj => by
        have hjl : j < l.length := by have := (List.getElem?_eq_some_iff.1 hj).1; rwa [intVs, List.length_map] at this
        obtain ⟨kb, ko, he, hlt, _, hcell⟩ := hc (by intro e; rw [e] at hjl; simp at hjl)
        injection he with he
        subst he
        rw [add_plain]
        refine Lib.cell?_alloc_some _ ?_
        rw [hcell j hjl]
        simp [intVs, hjl] at hj
        simp [hjl, hj]) (intVs_one l) (by unfold maxLen; omega) (by omega) (by rw [size_alloc]; omega)
    rw [Nat.zero_add, List.nil_append] at r1
    have hb : Below w.heap.size w w' := ((Below.refl _ _).alloc (Nat.le_refl _) _).grown r2 (by rw [size_alloc]; omega) fun k hk => by injection hk with hk; exact Nat.le_of_eq hk
    exact ⟨v', w', hrun, ints_of_own r1, hb⟩
set_option maxRecDepth 100000 in
set_option maxHeartbeats 8000000 in
theorem rfail_any {M : Nat → Prop} {b : Nat} {F : FR} (w : World) (h : RAt M w b F) (n : Int) {v : Value} {l : List Int} (hv : IntsIn (fun k => ¬ M k) w v l) (hl : l.length ≤ 1000000) :
    Calls Try.prog 69 #[.pointer (some ⟨b, 0, none⟩), .int .i64 n, v] w fun e w' => e = .returned (.int .i64 (failE F n)) ∧ RTurned M w w' b (failF F n l) := by
  obtain ⟨ka, kc, rfl⟩ := hv.val
  obtain ⟨fv, kv, L, h, hlf⟩ := h
  have H := Lib.hid h
  have HLF := Lib.hid hlf
  have c2 := h.box.c2
  have c3 := h.box.c3
  have c5 := h.box.c5
  have c6 := h.box.c6
  have f3 := h.box.free 3
  have f5 := h.box.free 5
  have hbl := h.box.lt
  by_cases ho : F.off = true
  · have e1 : failE F n = 51 := by unfold failE; rw [if_pos ho]
    have e2 : failF F n l = F := by unfold failF; rw [if_pos (.inl ho)]
    rw [e1, e2]
    rw [ho] at c2
    clear h hlf e1 e2 ho hv c3 c5 c6 f3 f5
    go_enter Try.func69, Try.ntmps69
    go_wp2_with fail
    go_ret
    exact ⟨rfl, RTurned.below ⟨fv, kv, L, H.out, HLF.out⟩ (Below.refl _ _)⟩
  · have ho' : F.off = false := by cases e : F.off; rfl; exact absurd e ho
    rw [ho'] at c2
    by_cases hn : n < 0
    · have e1 : failE F n = 2 := by unfold failE; rw [if_neg ho, if_pos hn]
      have e2 : failF F n l = F := by unfold failF; rw [if_pos (.inr hn)]
      rw [e1, e2]
      clear h hlf e1 e2 ho ho' hv c3 c5 c6 f3 f5
      go_enter Try.func69, Try.ntmps69
      go_wp2_with fail
      go_ret
      exact ⟨rfl, RTurned.below ⟨fv, kv, L, H.out, HLF.out⟩ (Below.refl _ _)⟩
    · have e1 : failE F n = 0 := by unfold failE; rw [if_neg ho, if_neg hn]
      have e2 : failF F n l = { F with left := n, keep := l } := by unfold failF; rw [if_neg (by rintro (h | h); exact ho h; exact hn h)]
      rw [e1]
      obtain ⟨R, hR⟩ : ∃ R, R = failF F n l := ⟨_, rfl⟩
      rw [← hR]
      rw [← hR] at e2
      have HR := Lib.hid e2
      have HV := Lib.hid hv
      have HN : Hid (0 ≤ n) := Lib.hid (by omega)
      clear h hlf e1 e2 ho ho' hR hv
      go_enter Try.func69, Try.ntmps69
      go_upto_region 7 with fail
      have hb3 := (H.out.box.s3 (.bool true)).s5 (.int .i64 n)
      have ho3 : Out M w ((w.setCell ⟨b, 3, none⟩ (.bool true)).setCell ⟨b, 5, none⟩ (.int .i64 n)) := ((Out.refl _ _).set (.inl H.out.mb) _ _).set (.inl H.out.mb) _ _
      have hv3 : IntsIn (fun k => ¬ M k) ((w.setCell ⟨b, 3, none⟩ (.bool true)).setCell ⟨b, 5, none⟩ (.int .i64 n)) (.slice ka l.length kc) l := HV.out.eq ho3.size fun k hk hm => ⟨ho3.block k hk hm, hm⟩
      have hs3 : ((w.setCell ⟨b, 3, none⟩ (.bool true)).setCell ⟨b, 5, none⟩ (.int .i64 n)).heap.size = w.heap.size := by rw [size_set, size_set]
      have hown3 : ((w.setCell ⟨b, 3, none⟩ (.bool true)).setCell ⟨b, 5, none⟩ (.int .i64 n)).ownsRow 0 115 3 fv F.files.length (rc F.files) := own_eq H.out.own fun c hc => by rw [setCell_heap_other _ _ _ _ _ (H.out.mf c hc).2, setCell_heap_other _ _ _ _ _ (H.out.mf c hc).2]
      have HO3 := Lib.hid ho3
      have HB3 := Lib.hid hb3
      have HOW := Lib.hid hown3
      have HS3 := Lib.hid hs3
      clear hb3 ho3 hown3 c2 c3 c5 c6 f3 f5
      generalize (w.setCell ⟨b, 3, none⟩ (.bool true)).setCell ⟨b, 5, none⟩ (.int .i64 n) = Ws at *
      obtain ⟨v', w7, hrun, hi7, hb7⟩ := ints_appended hv3 hl
      obtain ⟨va, vc, rfl⟩ := hi7.val
      have HI7 := Lib.hid hi7
      have HB7 := Lib.hid hb7
      have hbs : b < Ws.heap.size := by rw [HS3.out]; exact hbl
      have c6 : w7.cell? ⟨b, 6, none⟩ = some kv := (hb7.cell (p := ⟨b, 6, none⟩) hbs).trans HB3.out.c6
      have f6 : w7.frozen? ⟨b, 6, none⟩ = false := (World.frozen?_of_block (a := ⟨b, 6, none⟩) (hb7.block b hbs)).trans (HB3.out.free 6)
      clear hv3 hi7 hb7 hs3
      go_wp2_with (at_builtin; refine Lib.wpList_append_run _ rfl _ _ _ _ rfl _ _ rfl rfl _ _ hrun ?_)
      go_ret
      have hsz : w.heap.size ≤ w7.heap.size := by rw [← HS3.out]; exact HB7.out.size
      refine ⟨rfl, fun k => M k ∨ (w.heap.size ≤ k ∧ k < w7.heap.size), ⟨fv, .slice va l.length vc, n, ?_, fun _ => by rw [HR.out]⟩, fun k hk => hk.elim .inl fun h => .inr h.1, ?_⟩
      · have hbb : Box7 w7 b 103 (.int .i64 F.limit) (.int .i64 F.starts) (.bool F.off) (.bool true) fv (.int .i64 n) kv := HB3.out.eq (HB7.out.block b hbs)
        have hb6 := hbb.s6 (.slice va l.length vc)
        rw [HR.out]
        refine ⟨?_, ?_, ?_, .inl H.out.mb, fun k hk => ⟨.inl (H.out.mf k hk).1, (H.out.mf k hk).2⟩, fun k hk => ?_⟩
        · show Box7 _ b _ (.int .i64 F.limit) (.int .i64 F.starts) (.bool F.off) (.bool (decide (0 ≤ n))) fv (.int .i64 n) _
          rw [decide_eq_true HN.out]
          exact hb6
        · exact own_eq HOW.out fun c hc => by
            rw [setCell_heap_other _ _ _ _ _ (H.out.mf c hc).2]
            exact HB7.out.block c (by rw [HS3.out]; exact H.out.lt c (H.out.mf c hc).1)
        · refine HI7.out.eq (by rw [size_set]; exact Nat.le_refl _) fun k hk hP => ⟨?_, ?_⟩
          · have hkb : k ≠ b := fun e => by rw [HS3.out] at hP; omega
            rw [setCell_heap_other _ _ _ _ _ hkb]
          · have hP' : w.heap.size ≤ k := by rw [← HS3.out]; exact hP
            exact ⟨.inr ⟨hP', hk⟩, fun e => by omega, fun e => by have := H.out.lt k (H.out.mf k e).1; omega⟩
        · rw [size_set]
          rcases hk with h | h
          · exact Nat.lt_of_lt_of_le (H.out.lt k h) hsz
          · exact h.2
      · exact (HO3.out.trans (Out.of_below (M := M) HB7.out) (fun k hk => .inl hk)).set (.inl H.out.mb) _ _
end Go.Proofs.Ytmoaecicibjmnaa

namespace Go.Proofs.Ytmoaecicibjmnaa
open Go.RowKit

/-- append of one file to a row of the call's own. -/
theorem wpList_append_file {w : World} {ops : Array Oper} {rest : List Oper} {o : Oper} {a : Act} {Q : Exit → Act → World → Prop} (hg : o.guard = none) (s x : Operand)
    (hop : o.op = Op.call { callee := Callee.builtin Builtin.append, args := #[s, x], argTypes := #[101, 101] })
    (B : Nat) (v : Value) (n : Nat) (xs : List Value) (hs : a.eval s = v) (hown : w.ownsRow B 115 3 v n xs)
    (nb c : Nat) (hx : a.eval x = .slice (some ⟨nb, 0, none⟩) 1 c) (u : PF) (hu : w.heap[nb]? = some (.cells #[.string u.name, .string u.bytes, .int .i64 ((u.pl.size : Nat) : Int)] 115 (0, 0)))
    (hn : n < 1000000) (hB : B ≤ w.heap.size)
    (hK : ∀ g c w', Hid (w'.ownsRow B 115 3 (.slice (some ⟨g, 0, none⟩) (n + 1) c) (n + 1) (xs ++ u.rcs)) → Below B w w' → wpList Try.prog ops Q rest (a.put o.dst (.slice (some ⟨g, 0, none⟩) (n + 1) c)) w') :
    wpList Try.prog ops Q (o :: rest) a w := by
  obtain ⟨i, hi, hzz⟩ := Option.map_eq_some_iff.1 (show (Try.prog.info? 115).map (fun i => (i.zero, i.size, i.bytes)) = some (some (.agg #[.string ByteArray.empty, .string ByteArray.empty, .int .i64 0]), 3, 40) by kernel_rfl)
  simp only [Prod.mk.injEq] at hzz
  obtain ⟨hz1, hs1, hb1⟩ := hzz
  refine wpList_append_own w hg s x 101 hop B 115 i _ 3 40 (by kernel_rfl) hi hz1 hs1 hb1 rfl (by decide) v n xs hs hown ⟨nb, 0, none⟩ 1 c u.rcs hx rfl
    (fun j u' hj => ?_) (prc_one u) (by unfold maxLen; omega) (by omega) hB ?_
  · have hj3 : j < 3 := (List.getElem?_eq_some_iff.1 hj).1
    rw [add_plain, Nat.zero_add, cell_at hu]
    rcases (show j = 0 ∨ j = 1 ∨ j = 2 by omega) with rfl | rfl | rfl <;> exact hj
  · intro v' w' r1 r2 _
    have hbel : Below B w w' := (Below.refl B w).grown r2 hB fun k hk => (hown.lt k hk).1
    rcases r1.2 with ⟨_, h0⟩ | ⟨g, c', cur, hv, h⟩
    · omega
    · subst hv
      exact hK g c' w' r1 hbel
/-- Rising lists of the same files are the same. -/
theorem rising_ext : ∀ (L1 L2 : List PF), Rising L1 → Rising L2 → (∀ y, y ∈ L1 ↔ y ∈ L2) → L1 = L2 := by
  intro L1
  induction L1 with
  | nil =>
    intro L2 _ _ h
    cases L2 with
    | nil => rfl
    | cons b l2 => exact absurd ((h b).2 (by simp)) (by simp)
  | cons a l1 ih =>
    intro L2 h1 h2 h
    cases L2 with
    | nil => exact absurd ((h a).1 (by simp)) (by simp)
    | cons b l2 =>
      have p1 := List.pairwise_cons.1 h1
      have p2 := List.pairwise_cons.1 h2
      have hab : a = b := by
        rcases List.mem_cons.1 ((h a).1 (by simp)) with e | ha
        · exact e
        · rcases List.mem_cons.1 ((h b).2 (by simp)) with e | hb
          · exact e.symm
          · have := ltN_trans (p1.1 b hb) (p2.1 a ha)
            rw [ltN_irr] at this; cases this
      subst hab
      rw [ih l2 p1.2 p2.2 fun y => ?_]
      have irr : ∀ l : List PF, (∀ z ∈ l, ltN a.name z.name = true) → a ∉ l := fun l hl ha => by
        have := hl a ha
        rw [ltN_irr] at this; cases this
      constructor
      · intro hy
        rcases List.mem_cons.1 ((h y).1 (List.mem_cons_of_mem _ hy)) with e | hy2
        · subst e; exact absurd hy (irr l1 p1.1)
        · exact hy2
      · intro hy
        rcases List.mem_cons.1 ((h y).2 (List.mem_cons_of_mem _ hy)) with e | hy2
        · subst e; exact absurd hy (irr l2 p2.1)
        · exact hy2
/-- What with leaves: those ahead of a name, the file, those behind it. -/
theorem with_list {L : List PF} (hL : Rising L) (x : PF) : (L.filter fun y => ltN y.name x.name) ++ x :: (L.filter fun y => ltN x.name y.name) = insL (dropL L x.name) (place (dropL L x.name) x.name) x := by
  refine rising_ext _ _ ?_ (rising_ins (rising_drop hL x.name) x (drop_none hL x.name)) fun y => ?_
  · unfold Rising
    rw [List.pairwise_append, List.pairwise_cons]
    refine ⟨List.Pairwise.sublist (List.filter_sublist) hL, ⟨fun z hz => (List.mem_filter.1 hz).2, List.Pairwise.sublist (List.filter_sublist) hL⟩, fun a ha b hb => ?_⟩
    have h1 := (List.mem_filter.1 ha).2
    rcases List.mem_cons.1 hb with rfl | hb
    · exact h1
    · exact ltN_trans h1 (List.mem_filter.1 hb).2
  · rw [List.mem_append, List.mem_cons, List.mem_filter, List.mem_filter, mem_insL, mem_drop hL]
    constructor
    · rintro (⟨h1, h2⟩ | h | ⟨h1, h2⟩)
      · exact .inr ⟨h1, fun e => by rw [e, ltN_irr] at h2; cases h2⟩
      · exact .inl h
      · exact .inr ⟨h1, fun e => by rw [e, ltN_irr] at h2; cases h2⟩
    · rintro (h | ⟨h1, h2⟩)
      · exact .inr (.inl h)
      · by_cases h3 : ltN y.name x.name = true
        · exact .inl ⟨h1, h3⟩
        · by_cases h4 : ltN x.name y.name = true
          · exact .inr (.inr ⟨h1, h4⟩)
          · have e3 : ltN y.name x.name = false := by simpa using h3
            have e4 : ltN x.name y.name = false := by simpa using h4
            exact absurd (toList_inj (less_tri e3 e4)) h2
end Go.Proofs.Ytmoaecicibjmnaa

namespace Go.Proofs.Ytmoaecicibjmnaa
open Go.RowKit

theorem filter_step {L : List PF} {k : Nat} {x : PF} (hx : L[k]? = some x) (p : PF → Bool) : (L.take (k + 1)).filter p = (L.take k).filter p ++ (if p x = true then [x] else []) := by
  rw [List.take_add_one, hx, List.filter_append]
  show _ ++ List.filter p [x] = _
  rw [List.filter_cons, List.filter_nil]
theorem box_three (w : World) (v0 v1 v2 : Value) (t : TypeId) : ∃ W, w.alloc (.cells #[v0, v1, v2] t) = W ∧ Below w.heap.size w W ∧ W.heap.size = w.heap.size + 1 ∧ W.cell? ⟨w.heap.size, 0, none⟩ = some v0 ∧ W.cell? ⟨w.heap.size, 1, none⟩ = some v1 ∧ W.cell? ⟨w.heap.size, 2, none⟩ = some v2 := by
  have h : (w.alloc (.cells #[v0, v1, v2] t)).heap[w.heap.size]? = some (.cells #[v0, v1, v2] t (0, 0)) := by rw [heap_alloc, if_pos rfl]
  exact ⟨_, rfl, (Below.refl _ _).alloc (Nat.le_refl _) _, size_alloc _ _, cell_at h 0, cell_at h 1, cell_at h 2⟩
theorem own_mono {w : World} {B B' n sz : Nat} {t : TypeId} {v : Value} {xs : List Value} (h : w.ownsRow B t sz v n xs) (hb : B' ≤ B) : w.ownsRow B' t sz v n xs :=
  ⟨h.1, h.2.elim .inl fun ⟨g, cap, cur, hv, hB, hr⟩ => .inr ⟨g, cap, cur, hv, Nat.le_trans hb hB, hr⟩⟩
theorem own_at {w : World} {B n sz : Nat} {t : TypeId} {v : Value} {xs : List Value} (h : w.ownsRow B t sz v n xs) (k : Nat) (hk : v.ownBlock = some k) : B ≤ k ∧ k < w.heap.size := by
  rcases h.2 with ⟨rfl, _⟩ | ⟨g, cap, cur, rfl, hB, hg, _⟩
  · cases hk
  · injection hk with hk
    subst hk
    exact ⟨hB, (Array.getElem?_eq_some_iff.1 hg).1⟩
set_option maxRecDepth 100000 in
set_option maxHeartbeats 8000000 in
theorem rwith_any {M : Nat → Prop} {b : Nat} {F : FR} (w : World) (h : RAt M w b F) (hc : F.files.length ≤ 32) (x : PF) :
    Calls Try.prog 102 #[.pointer (some ⟨b, 0, none⟩), .agg #[.string x.name, .string x.bytes, .int .i64 ((x.pl.size : Nat) : Int)]] w fun e w' => e = .returned (.tuple #[]) ∧ RTurned M w w' b { F with files := (F.files.filter fun y => ltN y.name x.name) ++ x :: (F.files.filter fun y => ltN x.name y.name) } := by
  obtain ⟨fv, kv, L, h, hlf⟩ := h
  have H := Lib.hid h
  have HLF := Lib.hid hlf
  have c4 := h.box.c4
  have hbl := h.box.lt
  obtain ⟨fa, fc, rfl⟩ : ∃ fa fc, fv = .slice fa F.files.length fc := own_slice h.own
  obtain ⟨q, hq⟩ : ∃ q, q = F.files.length := ⟨_, rfl⟩
  have HQ := Lib.hid hq
  rw [← hq] at c4 hc
  clear h hlf hq
  go_enter Try.func102, Try.ntmps102
  go_upto_region 1 with fail
  obtain ⟨W, hW, hbW, hsW, x0, x1, x2⟩ := box_three w (.string x.name) (.string x.bytes) (.int .i64 ((x.pl.size : Nat) : Int)) 115
  rw [hW]
  clear hW
  have hC : ∀ wx, Below W.heap.size W wx → wx.cell? ⟨b, 4, none⟩ = some (.slice fa q fc) ∧ wx.cell? ⟨w.heap.size, 0, none⟩ = some (.string x.name) ∧ wx.cell? ⟨w.heap.size, 1, none⟩ = some (.string x.bytes) ∧ wx.cell? ⟨w.heap.size, 2, none⟩ = some (.int .i64 ((x.pl.size : Nat) : Int)) := fun wx hb =>
    ⟨((hb.cell (p := ⟨b, 4, none⟩) (Nat.lt_of_lt_of_le hbl hbW.size)).trans ((hbW.cell (p := ⟨b, 4, none⟩) hbl).trans c4)), (hb.cell (p := ⟨w.heap.size, 0, none⟩) (by show w.heap.size < _; omega)).trans x0, (hb.cell (p := ⟨w.heap.size, 1, none⟩) (by show w.heap.size < _; omega)).trans x1, (hb.cell (p := ⟨w.heap.size, 2, none⟩) (by show w.heap.size < _; omega)).trans x2⟩
  have HC := Lib.hid hC
  clear hC x0 x1 x2 c4
  go_wp2_with fail
  go_loopw [5, 4] (fun i out wr => ∃ k : Nat, k ≤ q ∧ i = .int .i64 (k : Nat) ∧ Hid (wr.ownsRow W.heap.size 115 3 out ((F.files.take k).filter fun y => ltN y.name x.name).length (rc ((F.files.take k).filter fun y => ltN y.name x.name))) ∧ Below W.heap.size W wr) (fun i _ _ => q - (intOf i).toNat)
  case atStart => exact ⟨0, Nat.zero_le _, rfl, Lib.hid (World.ownsRow_nil _ _ _ _), Below.refl _ _⟩
  case round =>
    obtain ⟨k, hkq, rfl, hown, hbel⟩ := hrel
    obtain ⟨y4, y0, y1, y2⟩ := HC.out wr hbel
    by_cases hlt : k < q
    · obtain ⟨y, hy⟩ := get_of_lt F.files k (by rw [← HQ.out]; exact hlt)
      obtain ⟨g1, cap, he, h1, h2, hg1, hcell, hfr⟩ := own_rfiles H.out.own (by intro e; rw [e] at hy; simp at hy)
      injection he with e1 e2 e3
      subst e1 e3
      clear e2 hfr
      obtain ⟨d0, d1, d2⟩ := hcell k y hy
      have tr : ∀ j, wr.cell? ⟨g1, j, none⟩ = w.cell? ⟨g1, j, none⟩ := fun j => (hbel.cell (p := ⟨g1, j, none⟩) (Nat.lt_of_lt_of_le hg1 hbW.size)).trans (hbW.cell (p := ⟨g1, j, none⟩) hg1)
      rw [← tr] at d0 d1 d2
      have hst := filter_step hy (fun y => ltN y.name x.name)
      have HST := Lib.hid hst
      clear hcell hst h1 h2 tr
      have hlen : ((F.files.take k).filter fun y => ltN y.name x.name).length ≤ 32 := Nat.le_trans (List.length_filter_le _ _) (by rw [List.length_take]; omega)
      by_cases hless : (ltN y.name x.name) = true
      · have HY := Lib.hid hless
        have hb1 : Op.bytesLess y.name.toList x.name.toList = true := hless
        obtain ⟨n, hn⟩ : ∃ n, n = ((F.files.take k).filter fun y => ltN y.name x.name).length := ⟨_, rfl⟩
        have hn32 : n ≤ 100 := by rw [hn]; omega
        rw [← hn] at hown
        have HN := Lib.hid hn
        clear hn hy hless hlen
        go_upto_region 5 with fail
        go_quiet (fail)
        have hownD := Lib.hid (own_below hown.out (below_drewN (Below.refl _ _) nq))
        have hbelD := below_drewN hbel nq
        have z4 : (wr.drewN nq).cell? _ = _ := y4
        have z0 : (wr.drewN nq).cell? _ = _ := d0
        have z1 : (wr.drewN nq).cell? _ = _ := d1
        have z2 : (wr.drewN nq).cell? _ = _ := d2
        clear y4 y0 y1 y2 d0 d1 d2 hown hbel
        generalize wr.drewN nq = wd at *
        have hB2 : W.heap.size ≤ (wd.alloc (.cells #[.string y.name, .string y.bytes, .int .i64 ((y.pl.size : Nat) : Int)] 115)).heap.size := by rw [size_alloc]; have := hbelD.size; omega
        go_wp2_with (at_builtin; refine wpList_append_file rfl (.tmp 27) (.tmp 35) rfl W.heap.size u4 n _ (by simp [Act.eval]) (hownD.out.alloc _) wd.heap.size 1 (by simp [Act.eval]) y (by rw [heap_alloc, if_pos rfl]) (by omega) hB2 ?_; intro g7 c7 w7 hown7 hb7)
        go_roundw
        case rel =>
          have e1 : ((F.files.take (k + 1)).filter fun y => ltN y.name x.name).length = n + 1 := by rw [HST.out, if_pos HY.out, HN.out]; simp only [List.length_append, List.length_cons, List.length_nil] <;> omega
          have e2 : rc ((F.files.take (k + 1)).filter fun y => ltN y.name x.name) = rc ((F.files.take k).filter fun y => ltN y.name x.name) ++ y.rcs := by rw [HST.out, if_pos HY.out]; simp only [rc_append, rc_cons, rc_nil, List.append_nil]
          exact ⟨k + 1, by omega, by go_num, Lib.hid (by rw [e1, e2]; exact hown7.out), (hbelD.alloc hbelD.size _).trans hb7⟩
        case measure => simp [intOf]; omega
      · have hl2 : (ltN y.name x.name) = false := by simpa using hless
        have HY := Lib.hid hless
        have hb1 : Op.bytesLess y.name.toList x.name.toList = false := hl2
        clear hy hless hlen
        go_upto_region 5 with fail
        go_quiet (fail)
        go_wp2_with fail
        exact ⟨⟨k + 1, by omega, by go_num, Lib.hid (by rw [HST.out, if_neg HY.out, List.append_nil]; exact own_below hown.out (below_drewN (Below.refl _ _) nq)), below_drewN hbel nq⟩, by simp [intOf]; omega⟩
    · obtain rfl : q = k := by omega
      have hall : F.files.take q = F.files := by rw [HQ.out, List.take_length]
      rw [hall] at hown
      obtain ⟨n, hn⟩ : ∃ n, n = (F.files.filter fun y => ltN y.name x.name).length := ⟨_, rfl⟩
      have hn32 : n ≤ 100 := by rw [hn]; exact Nat.le_trans (List.length_filter_le _ _) (by rw [← HQ.out]; omega)
      rw [← hn] at hown
      have HN := Lib.hid hn
      clear hn hall
      have hB2 : W.heap.size ≤ (wr.alloc (.cells #[.string x.name, .string x.bytes, .int .i64 ((x.pl.size : Nat) : Int)] 115)).heap.size := by rw [size_alloc]; have := hbel.size; omega
      go_wp2_with (at_builtin; refine wpList_append_file rfl (.tmp 37) (.tmp 39) rfl W.heap.size u4 n _ (by simp [Act.eval]) (hown.out.alloc _) wr.heap.size 1 (by simp [Act.eval]) x (by rw [heap_alloc, if_pos rfl]) (by omega) hB2 ?_; intro g7 c7 w7 hown7 hb7)
      have hbel7 := (hbel.alloc hbel.size (.cells #[.string x.name, .string x.bytes, .int .i64 ((x.pl.size : Nat) : Int)] 115)).trans hb7
      have HOW : Hid (w7.ownsRow W.heap.size 115 3 (.slice (some ⟨g7, 0, none⟩) (n + 1) c7) (F.files.filter (fun y => ltN y.name x.name) ++ [x]).length (rc (F.files.filter (fun y => ltN y.name x.name) ++ [x]))) := by
        have e1 : (F.files.filter (fun y => ltN y.name x.name) ++ [x]).length = n + 1 := by rw [List.length_append, HN.out]; rfl
        have e2 : rc (F.files.filter (fun y => ltN y.name x.name) ++ [x]) = rc (F.files.filter fun y => ltN y.name x.name) ++ x.rcs := by simp only [rc_append, rc_cons, rc_nil, List.append_nil]
        rw [e1, e2]; exact hown7
      clear hown7 hown y4 y0 y1 y2 hbel hb7 hn32
      clear hlt hkq hB2
      go_wp2_with fail
      go_loopw [6, 4] (fun i out wr => ∃ k : Nat, k ≤ q ∧ i = .int .i64 (k : Nat) ∧ Hid (wr.ownsRow W.heap.size 115 3 out ((F.files.filter (fun y => ltN y.name x.name) ++ [x]) ++ (F.files.take k).filter fun y => ltN x.name y.name).length (rc ((F.files.filter (fun y => ltN y.name x.name) ++ [x]) ++ (F.files.take k).filter fun y => ltN x.name y.name))) ∧ Below W.heap.size W wr) (fun i _ _ => q - (intOf i).toNat)
      case atStart => exact ⟨0, Nat.zero_le _, rfl, Lib.hid (by rw [List.take_zero, List.filter_nil, List.append_nil]; first | exact HOW.out | (have h9 := HOW.out; rw [List.length_append, ← HN.out] at h9; exact h9)), hbel7⟩
      case round =>
        clear HOW hbel7
        obtain ⟨k, hkq, rfl, hown, hbel⟩ := hrel
        obtain ⟨y4, y0, y1, y2⟩ := HC.out wr hbel
        by_cases hlt : k < q
        · obtain ⟨y, hy⟩ := get_of_lt F.files k (by rw [← HQ.out]; exact hlt)
          obtain ⟨g1, cap, he, h1, h2, hg1, hcell, hfr⟩ := own_rfiles H.out.own (by intro e; rw [e] at hy; simp at hy)
          injection he with e1 e2 e3
          subst e1 e3
          clear e2 hfr
          obtain ⟨d0, d1, d2⟩ := hcell k y hy
          have tr : ∀ j, wr.cell? ⟨g1, j, none⟩ = w.cell? ⟨g1, j, none⟩ := fun j => (hbel.cell (p := ⟨g1, j, none⟩) (Nat.lt_of_lt_of_le hg1 hbW.size)).trans (hbW.cell (p := ⟨g1, j, none⟩) hg1)
          rw [← tr] at d0 d1 d2
          have hst := filter_step hy (fun y => ltN x.name y.name)
          have HST := Lib.hid hst
          clear hcell hst h1 h2 tr
          have hGl : (F.files.filter (fun y => ltN y.name x.name) ++ [x]).length ≤ 33 := by rw [List.length_append]; have := List.length_filter_le (fun y => ltN y.name x.name) F.files; rw [← HQ.out] at this; show _ + 1 ≤ 33; omega
          have hlen : ((F.files.take k).filter fun y => ltN x.name y.name).length ≤ 32 := Nat.le_trans (List.length_filter_le _ _) (by rw [List.length_take]; omega)
          by_cases hless : (ltN x.name y.name) = true
          · have HY := Lib.hid hless
            have hb1 : Op.bytesLess y.name.toList x.name.toList = false := by
              cases e : Op.bytesLess y.name.toList x.name.toList with
              | false => rfl
              | true =>
                have := ltN_trans (show ltN y.name x.name = true from e) hless
                rw [ltN_irr] at this; cases this
            have hb2 : (y.name.toList == x.name.toList) = false := by
              rw [toList_beq]
              refine decide_eq_false fun e => ?_
              rw [e, ltN_irr] at hless; cases hless
            obtain ⟨n, hn⟩ : ∃ n, n = ((F.files.filter (fun y => ltN y.name x.name) ++ [x]) ++ (F.files.take k).filter fun y => ltN x.name y.name).length := ⟨_, rfl⟩
            have hn32 : n ≤ 100 := by rw [hn]; rw [List.length_append]; omega
            rw [← hn] at hown
            have HN := Lib.hid hn
            clear hn hy hless hlen hGl
            go_upto_region 11 with fail
            go_quiet (fail)
            have hownD := Lib.hid (own_below hown.out (below_drewN (Below.refl _ _) nq))
            have hbelD := below_drewN hbel nq
            have z4 : (wr.drewN nq).cell? _ = _ := y4
            have z0 : (wr.drewN nq).cell? _ = _ := d0
            have z1 : (wr.drewN nq).cell? _ = _ := d1
            have z2 : (wr.drewN nq).cell? _ = _ := d2
            clear y4 y0 y1 y2 d0 d1 d2 hown hbel
            generalize wr.drewN nq = wd at *
            have hB2 : W.heap.size ≤ (wd.alloc (.cells #[.string y.name, .string y.bytes, .int .i64 ((y.pl.size : Nat) : Int)] 115)).heap.size := by rw [size_alloc]; have := hbelD.size; omega
            go_wp2_with (at_builtin; refine wpList_append_file rfl (.tmp 61) (.tmp 69) rfl W.heap.size u4 n _ (by simp [Act.eval]) (hownD.out.alloc _) wd.heap.size 1 (by simp [Act.eval]) y (by rw [heap_alloc, if_pos rfl]) (by omega) hB2 ?_; intro g7 c7 w7 hown7 hb7)
            go_roundw
            case rel =>
              have e1 : ((F.files.filter (fun y => ltN y.name x.name) ++ [x]) ++ (F.files.take (k + 1)).filter fun y => ltN x.name y.name).length = n + 1 := by rw [HST.out, if_pos HY.out, HN.out]; simp only [List.length_append, List.length_cons, List.length_nil] <;> omega
              have e2 : rc ((F.files.filter (fun y => ltN y.name x.name) ++ [x]) ++ (F.files.take (k + 1)).filter fun y => ltN x.name y.name) = rc ((F.files.filter (fun y => ltN y.name x.name) ++ [x]) ++ (F.files.take k).filter fun y => ltN x.name y.name) ++ y.rcs := by rw [HST.out, if_pos HY.out]; simp only [rc_append, rc_cons, rc_nil, List.append_nil, List.append_assoc]
              exact ⟨k + 1, by omega, by go_num, Lib.hid (by rw [e1, e2]; exact hown7.out), (hbelD.alloc hbelD.size _).trans hb7⟩
            case measure => simp [intOf]; omega
          · have hl2 : (ltN x.name y.name) = false := by simpa using hless
            have HY := Lib.hid hless
            have hb1 : (Op.bytesLess y.name.toList x.name.toList || y.name.toList == x.name.toList) = true := by
              cases e : Op.bytesLess y.name.toList x.name.toList with
              | true => rfl
              | false =>
                rw [Bool.false_or, toList_beq]
                exact decide_eq_true (toList_inj (less_tri e hl2))
            clear hy hless hlen hGl
            go_upto_region 11 with fail
            go_quiet (fail)
            go_wp2_with fail
            exact ⟨⟨k + 1, by omega, by go_num, Lib.hid (by rw [HST.out, if_neg HY.out, List.append_nil]; exact own_below hown.out (below_drewN (Below.refl _ _) nq)), below_drewN hbel nq⟩, by simp [intOf]; omega⟩
        · obtain rfl : q = k := by omega
          have hall : F.files.take q = F.files := by rw [HQ.out, List.take_length]
          rw [hall] at hown
          obtain ⟨oa, oc, rfl⟩ : ∃ oa oc, u4 = .slice oa ((F.files.filter (fun y => ltN y.name x.name) ++ [x]) ++ F.files.filter fun y => ltN x.name y.name).length oc := own_slice hown.out
          obtain ⟨n2, hn2⟩ : ∃ n, n = ((F.files.filter (fun y => ltN y.name x.name) ++ [x]) ++ F.files.filter fun y => ltN x.name y.name).length := ⟨_, rfl⟩
          rw [← hn2] at hown
          rw [← hn2]
          have HN2 := Lib.hid hn2
          clear hn2
          have hf4 : wr.frozen? ⟨b, 4, none⟩ = false := ((World.frozen?_of_block (a := ⟨b, 4, none⟩) (hbel.block b (Nat.lt_of_lt_of_le hbl hbW.size))).trans (World.frozen?_of_block (a := ⟨b, 4, none⟩) (hbW.block b hbl))).trans (H.out.box.free 4)
          clear hall
          go_wp2_with fail
          refine bodyPost_end (results_none rfl _ _ _) rfl ?_
          have hsz : w.heap.size ≤ wr.heap.size := Nat.le_trans hbW.size hbel.size
          have hbe : Below w.heap.size w wr := below_tr hbW hbel
          refine ⟨rfl, fun k => M k ∨ (w.heap.size ≤ k ∧ k < wr.heap.size), ⟨.slice oa n2 oc, kv, L, ?_, HLF.out⟩, fun k hk => hk.elim .inl fun h => .inr h.1, ?_⟩
          · have hbb := H.out.box.eq (hbe.block b hbl)
            have hb4 := hbb.s4 (.slice oa n2 oc)
            have hoc : ∀ k, (Value.slice oa n2 oc).ownBlock = some k → w.heap.size ≤ k ∧ k < wr.heap.size := fun k hk => by
              have := own_at hown.out k hk
              omega
            have hL : (F.files.filter fun y => ltN y.name x.name) ++ x :: (F.files.filter fun y => ltN x.name y.name) = (F.files.filter (fun y => ltN y.name x.name) ++ [x]) ++ F.files.filter fun y => ltN x.name y.name := by rw [List.append_assoc]; rfl
            refine ⟨hb4, ?_, ?_, .inl H.out.mb, fun k hk => ⟨.inr (hoc k hk), fun e => by have := hoc k hk; omega⟩, fun k hk => ?_⟩
            · show World.ownsRow _ 0 _ 3 _ ((F.files.filter fun y => ltN y.name x.name) ++ x :: (F.files.filter fun y => ltN x.name y.name)).length (rc ((F.files.filter fun y => ltN y.name x.name) ++ x :: (F.files.filter fun y => ltN x.name y.name)))
              rw [hL, ← HN2.out]
              exact own_mono (own_eq hown.out fun c hc => by rw [setCell_heap_other _ _ _ _ _ (fun e => by have := hoc c hc; omega)]) (Nat.zero_le _)
            · refine H.out.ints.eq (by rw [size_set]; exact hsz) fun k hk hP => ⟨?_, .inl hP.1, hP.2.1, fun e => by have := hoc k e; omega⟩
              rw [setCell_heap_other _ _ _ _ _ hP.2.1]
              exact hbe.block k hk
            · rw [size_set]
              rcases hk with h | h
              · exact Nat.lt_of_lt_of_le (H.out.lt k h) hsz
              · exact h.2
          · exact (Out.of_below hbe).set (.inl H.out.mb) _ _
end Go.Proofs.Ytmoaecicibjmnaa
