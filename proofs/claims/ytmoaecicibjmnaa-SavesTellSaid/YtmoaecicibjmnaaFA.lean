/- File systems in memory: plain records, the blocks that hold one, what a step may turn. Plain lemmas on worlds, no function of the program. -/
import Derived.WalkKit
import Derived.WalkSpells
import Derived.Lib.Hide
import Derived.Laws.AppendOwn
import Derived.Laws.OwnMore
namespace Go.Proofs.Ytmoaecicibjmnaa
open Go.RowKit

theorem below_tr {w a b : World} (h1 : Below w.heap.size w a) (h2 : Below a.heap.size a b) : Below w.heap.size w b := h1.trans (h2.mono h1.size)
theorem below_drew {w b : World} (h : Below w.drew.heap.size w.drew b) : Below w.heap.size w b := (Below.refl _ _).drew.trans h
theorem plain_of_cell {w : World} {a : Addr} {v : Value} (h : w.cell? a = some v) : a = ⟨a.block, a.off, none⟩ ∧ a.block < w.heap.size := by
  unfold World.cell? at h
  split at h
  · rename_i c e f hc
    by_cases hs : a.spot.isSome = true
    · rw [if_pos hs] at h; cases h
    · refine ⟨?_, (Array.getElem?_eq_some_iff.1 hc).1⟩
      cases a with
      | mk b o s =>
        cases s with
        | none => rfl
        | some _ => exact absurd rfl hs
  · cases h
theorem lt_of_cell {w : World} {b o : Nat} {v : Value} (h : w.cell? ⟨b, o, none⟩ = some v) : b < w.heap.size := (plain_of_cell h).2
theorem add_plain (b o i : Nat) : (⟨b, o, none⟩ : Addr).add i = ⟨b, o + i, none⟩ := by
  unfold Addr.add; split
  · rename_i h; rw [h]; rfl
  · rfl
theorem heap_alloc (w : World) (o : Obj) (k : Nat) : (w.alloc o).heap[k]? = if k = w.heap.size then some o else w.heap[k]? := by
  show (w.heap.push o)[k]? = _
  rw [Array.getElem?_push]
theorem size_alloc (w : World) (o : Obj) : (w.alloc o).heap.size = w.heap.size + 1 := by
  show (w.heap.push o).size = _
  simp
theorem size_set (w : World) (a : Addr) (v : Value) : (w.setCell a v).heap.size = w.heap.size := by simp [World.setCell]
theorem drew_heap (w : World) : w.drew.heap = w.heap := rfl
theorem setCell_heap_other (w : World) (b k : Nat) (v : Value) (c : Nat) (h : c ≠ b) : (w.setCell ⟨b, k, none⟩ v).heap[c]? = w.heap[c]? := by
  simp [World.setCell, Array.getElem?_modify]; intro e; exact absurd e.symm h
theorem setCell_heap_same (w : World) (b k : Nat) (v : Value) (cs : Array Value) (t : TypeId) (h : w.heap[b]? = some (.cells cs t (0, 0))) : (w.setCell ⟨b, k, none⟩ v).heap[b]? = some (.cells (cs.setIfInBounds k v) t (0, 0)) := by
  show (w.heap.modify b _)[b]? = _
  rw [Array.getElem?_modify, if_pos rfl, h]
  rfl

/-! ### A file, and the cells of a list of files -/
structure PF where
  name : ByteArray
  pl : ByteArray
  air : ByteArray
def PF.cs (x : PF) : List Value := [.string x.name, .string x.pl, .string x.air]
abbrev PF.val (x : PF) : Value := .agg #[.string x.name, .string x.pl, .string x.air]
def PF.bytes (x : PF) : ByteArray := x.pl ++ x.air
def PF.none : PF := ⟨ByteArray.empty, ByteArray.empty, ByteArray.empty⟩
def cs (L : List PF) : List Value := L.flatMap PF.cs
theorem cs_nil : cs [] = [] := rfl
theorem cs_cons (x : PF) (L : List PF) : cs (x :: L) = x.cs ++ cs L := by simp [cs]
theorem cs_append (L M : List PF) : cs (L ++ M) = cs L ++ cs M := by simp [cs]
theorem pcs_len (x : PF) : x.cs.length = 3 := rfl
theorem cs_len : ∀ (L : List PF), (cs L).length = L.length * 3
  | [] => rfl
  | x :: L => by rw [cs_cons, List.length_append, cs_len L, pcs_len, List.length_cons]; omega
theorem cs_take : ∀ (L : List PF) (i : Nat), cs (L.take i) = (cs L).take (i * 3)
  | [], i => by simp [cs]
  | x :: L, 0 => by simp [cs]
  | x :: L, i + 1 => by
    rw [List.take_succ_cons, cs_cons, cs_cons, cs_take L i, List.take_append, pcs_len, show (i + 1) * 3 - 3 = i * 3 by omega, List.take_of_length_le (l := x.cs) (by rw [pcs_len]; omega)]
theorem cs_drop : ∀ (L : List PF) (i : Nat), cs (L.drop i) = (cs L).drop (i * 3)
  | [], i => by simp [cs]
  | x :: L, 0 => by simp
  | x :: L, i + 1 => by
    rw [List.drop_succ_cons, cs_cons, cs_drop L i, List.drop_append, pcs_len, show (i + 1) * 3 - 3 = i * 3 by omega, List.drop_of_length_le (l := x.cs) (by rw [pcs_len]; omega), List.nil_append]
theorem cs_get (L : List PF) (i : Nat) (x : PF) (h : L[i]? = some x) (k : Nat) (hk : k < 3) : (cs L)[i * 3 + k]? = x.cs[k]? := by
  have h1 : (cs L).drop (i * 3) = x.cs ++ cs (L.drop (i + 1)) := by
    rw [← cs_drop, List.drop_eq_getElem?_toList_append, h]
    simp [cs_cons]
  have h2 := congrArg (·[k]?) h1
  simp only [List.getElem?_drop] at h2
  rw [h2, List.getElem?_append_left (by rw [pcs_len]; exact hk)]
theorem cs_set (L : List PF) (i : Nat) (hi : i < L.length) (x : PF) : cs (L.set i x) = (((cs L).set (i * 3) (.string x.name)).set (i * 3 + 1) (.string x.pl)).set (i * 3 + 2) (.string x.air) := by
  have h0 := cs_len L
  apply List.ext_getElem?
  intro j
  by_cases hj : j < L.length * 3
  · have hq : j / 3 < L.length := by omega
    have hr : j % 3 < 3 := Nat.mod_lt _ (by omega)
    have he : j = j / 3 * 3 + j % 3 := by omega
    rw [he]
    by_cases hx : j / 3 = i
    · rw [hx, cs_get (L.set i x) i x (by rw [List.getElem?_set_self hi]) _ hr]
      rcases (show j % 3 = 0 ∨ j % 3 = 1 ∨ j % 3 = 2 by omega) with e | e | e
      · rw [e]; simp only [Nat.add_zero]; rw [List.getElem?_set_ne (by omega), List.getElem?_set_ne (by omega), List.getElem?_set_self (by omega)]; rfl
      · rw [e, List.getElem?_set_ne (by omega), List.getElem?_set_self (by rw [List.length_set]; omega)]; rfl
      · rw [e, List.getElem?_set_self (by rw [List.length_set, List.length_set]; omega)]; rfl
    · rw [List.getElem?_set_ne (by omega), List.getElem?_set_ne (by omega), List.getElem?_set_ne (by omega)]
      rw [cs_get (L.set i x) (j / 3) L[j / 3] (by rw [List.getElem?_set_ne (by omega), List.getElem?_eq_getElem hq]) _ hr, cs_get L (j / 3) L[j / 3] (List.getElem?_eq_getElem hq) _ hr]
  · rw [List.getElem?_eq_none (by rw [cs_len, List.length_set]; omega), List.getElem?_eq_none (by simp only [List.length_set]; omega)]
theorem pcs_one (x : PF) : ∀ u ∈ x.cs, u.oneCell' = true := by
  intro u hu
  simp only [PF.cs, List.mem_cons, List.not_mem_nil, or_false] at hu
  rcases hu with rfl | rfl | rfl <;> rfl
theorem cs_one (L : List PF) : ∀ u ∈ cs L, u.oneCell' = true := by
  intro u hu
  obtain ⟨x, _, hx⟩ := List.mem_flatMap.1 hu
  exact pcs_one x u hx

/-! ### A step that turns blocks of M alone -/
structure Out (M : Nat → Prop) (w w' : World) : Prop where
  os : w'.os = w.os
  tape : w'.tape = w.tape
  output : w'.output = w.output
  size : w.heap.size ≤ w'.heap.size
  block : ∀ k, k < w.heap.size → ¬ M k → w'.heap[k]? = w.heap[k]?
theorem Out.refl (M : Nat → Prop) (w : World) : Out M w w := ⟨rfl, rfl, rfl, Nat.le_refl _, fun _ _ _ => rfl⟩
theorem Out.trans {M M' : Nat → Prop} {w a b : World} (h1 : Out M w a) (h2 : Out M' a b) (hM : ∀ k, M' k → M k ∨ w.heap.size ≤ k) : Out M w b :=
  ⟨h2.os.trans h1.os, h2.tape.trans h1.tape, h2.output.trans h1.output, Nat.le_trans h1.size h2.size, fun k hk hn => (h2.block k (Nat.lt_of_lt_of_le hk h1.size) (fun h => by rcases hM k h with h | h; exact hn h; omega)).trans (h1.block k hk hn)⟩
theorem Out.mono {M M' : Nat → Prop} {w a : World} (h : Out M w a) (hM : ∀ k, k < w.heap.size → M k → M' k) : Out M' w a :=
  ⟨h.os, h.tape, h.output, h.size, fun k hk hn => h.block k hk (fun hm => hn (hM k hk hm))⟩
theorem Out.of_below {M : Nat → Prop} {w a : World} (h : Below w.heap.size w a) : Out M w a := ⟨h.os, h.tape, h.output, h.size, fun k hk _ => h.block k hk⟩
theorem Out.below {M : Nat → Prop} {w a : World} (h : Out M w a) {B : Nat} (hB : B ≤ w.heap.size) (hM : ∀ k, M k → B ≤ k) : Below B w a :=
  ⟨h.os, h.tape, h.output, h.size, fun k hk => h.block k (Nat.lt_of_lt_of_le hk hB) (fun hm => by have := hM k hm; omega)⟩
theorem Out.drew {M : Nat → Prop} {w a : World} (h : Out M w a) : Out M w a.drew := ⟨h.os, h.tape, h.output, h.size, h.block⟩
theorem Out.alloc {M : Nat → Prop} {w a : World} (h : Out M w a) (o : Obj) : Out M w (a.alloc o) :=
  ⟨h.os, h.tape, h.output, by rw [size_alloc]; exact Nat.le_succ_of_le h.size, fun k hk hn => by rw [heap_alloc, if_neg (by have := h.size; omega)]; exact h.block k hk hn⟩
theorem Out.set {M : Nat → Prop} {w a : World} (h : Out M w a) {b : Nat} (hb : M b ∨ w.heap.size ≤ b) (k : Nat) (v : Value) : Out M w (a.setCell ⟨b, k, none⟩ v) :=
  ⟨h.os, h.tape, h.output, by rw [size_set]; exact h.size, fun j hj hn => by rw [setCell_heap_other _ _ _ _ _ (fun e => by subst e; rcases hb with hb | hb; exact hn hb; omega)]; exact h.block j hj hn⟩
theorem Out.cell {M : Nat → Prop} {w a : World} (h : Out M w a) {b : Nat} (hb : b < w.heap.size) (hn : ¬ M b) (k : Nat) : a.cell? ⟨b, k, none⟩ = w.cell? ⟨b, k, none⟩ := World.cell?_of_block (h.block b hb hn)

/-! ### A box of six cells -/
def Box6 (w : World) (b : Nat) (t : TypeId) (v0 v1 v2 v3 v4 v5 : Value) : Prop := w.heap[b]? = some (.cells #[v0, v1, v2, v3, v4, v5] t (0, 0))
section
variable {w : World} {b : Nat} {t : TypeId} {v0 v1 v2 v3 v4 v5 : Value}
theorem Box6.c0 (h : Box6 w b t v0 v1 v2 v3 v4 v5) : w.cell? ⟨b, 0, none⟩ = some v0 := by unfold Box6 at h; simp [World.cell?, h]
theorem Box6.c1 (h : Box6 w b t v0 v1 v2 v3 v4 v5) : w.cell? ⟨b, 1, none⟩ = some v1 := by unfold Box6 at h; simp [World.cell?, h]
theorem Box6.c2 (h : Box6 w b t v0 v1 v2 v3 v4 v5) : w.cell? ⟨b, 2, none⟩ = some v2 := by unfold Box6 at h; simp [World.cell?, h]
theorem Box6.c3 (h : Box6 w b t v0 v1 v2 v3 v4 v5) : w.cell? ⟨b, 3, none⟩ = some v3 := by unfold Box6 at h; simp [World.cell?, h]
theorem Box6.c4 (h : Box6 w b t v0 v1 v2 v3 v4 v5) : w.cell? ⟨b, 4, none⟩ = some v4 := by unfold Box6 at h; simp [World.cell?, h]
theorem Box6.c5 (h : Box6 w b t v0 v1 v2 v3 v4 v5) : w.cell? ⟨b, 5, none⟩ = some v5 := by unfold Box6 at h; simp [World.cell?, h]
theorem Box6.free (h : Box6 w b t v0 v1 v2 v3 v4 v5) (k : Nat) : w.frozen? ⟨b, k, none⟩ = false := by unfold Box6 at h; simp [World.frozen?, h]
theorem Box6.lt (h : Box6 w b t v0 v1 v2 v3 v4 v5) : b < w.heap.size := (Array.getElem?_eq_some_iff.1 h).1
theorem Box6.eq {w' : World} (h : Box6 w b t v0 v1 v2 v3 v4 v5) (e : w'.heap[b]? = w.heap[b]?) : Box6 w' b t v0 v1 v2 v3 v4 v5 := e.trans h
theorem Box6.s1 (h : Box6 w b t v0 v1 v2 v3 v4 v5) (v : Value) : Box6 (w.setCell ⟨b, 1, none⟩ v) b t v0 v v2 v3 v4 v5 := setCell_heap_same w b 1 v _ t h
theorem Box6.s2 (h : Box6 w b t v0 v1 v2 v3 v4 v5) (v : Value) : Box6 (w.setCell ⟨b, 2, none⟩ v) b t v0 v1 v v3 v4 v5 := setCell_heap_same w b 2 v _ t h
theorem Box6.s3 (h : Box6 w b t v0 v1 v2 v3 v4 v5) (v : Value) : Box6 (w.setCell ⟨b, 3, none⟩ v) b t v0 v1 v2 v v4 v5 := setCell_heap_same w b 3 v _ t h
theorem Box6.s4 (h : Box6 w b t v0 v1 v2 v3 v4 v5) (v : Value) : Box6 (w.setCell ⟨b, 4, none⟩ v) b t v0 v1 v2 v3 v v5 := setCell_heap_same w b 4 v _ t h
theorem Box6.s5 (h : Box6 w b t v0 v1 v2 v3 v4 v5) (v : Value) : Box6 (w.setCell ⟨b, 5, none⟩ v) b t v0 v1 v2 v3 v4 v := setCell_heap_same w b 5 v _ t h
end

/-! ### A slice of ints, in blocks of M; a row of files -/
def IntsIn (M : Nat → Prop) (w : World) (v : Value) (l : List Int) : Prop :=
  ∃ a c, v = .slice a l.length c ∧ (l ≠ [] → ∃ b o, a = some ⟨b, o, none⟩ ∧ b < w.heap.size ∧ M b ∧ ∀ j, j < l.length → w.cell? ⟨b, o + j, none⟩ = some (.int .i64 (l[j]?.getD 0)))
theorem IntsIn.eq {M M' : Nat → Prop} {w w' : World} {v : Value} {l : List Int} (h : IntsIn M w v l) (hs : w.heap.size ≤ w'.heap.size) (he : ∀ k, k < w.heap.size → M k → w'.heap[k]? = w.heap[k]? ∧ M' k) : IntsIn M' w' v l := by
  obtain ⟨a, c, hv, h⟩ := h
  refine ⟨a, c, hv, fun hne => ?_⟩
  obtain ⟨b, o, ha, hlt, hm, hc⟩ := h hne
  exact ⟨b, o, ha, Nat.lt_of_lt_of_le hlt hs, (he b hlt hm).2, fun j hj => (World.cell?_of_block (a := ⟨b, o + j, none⟩) (he b hlt hm).1).trans (hc j hj)⟩
theorem own_eq {w w' : World} {B : Nat} {e : TypeId} {sz : Nat} {v : Value} {n : Nat} {xs : List Value} (h : w.ownsRow B e sz v n xs) (he : ∀ k, v.ownBlock = some k → w'.heap[k]? = w.heap[k]?) : w'.ownsRow B e sz v n xs := by
  refine ⟨h.1, ?_⟩
  rcases h.2 with h0 | ⟨g, cap, cur, hv, hB, hg, r⟩
  · exact .inl h0
  · exact .inr ⟨g, cap, cur, hv, hB, (he g (by rw [hv]; rfl)).trans hg, r⟩

/-! ### A file system -/
structure FR where
  limit : Int
  starts : Int
  off : Bool
  files : List PF
  left : Int
  keep : List Int

/-- What holds a file system, its parts named. -/
structure FSIn (M : Nat → Prop) (w : World) (b : Nat) (F : FR) (fv kv : Value) : Prop where
  box : Box6 w b 58 (.int .i64 F.limit) (.int .i64 F.starts) (.bool F.off) fv (.int .i64 F.left) kv
  own : w.ownsRow 0 82 3 fv F.files.length (cs F.files)
  ints : IntsIn (fun k => M k ∧ k ≠ b ∧ fv.ownBlock ≠ some k) w kv F.keep
  mb : M b
  mf : ∀ k, fv.ownBlock = some k → M k ∧ k ≠ b
  lt : ∀ k, M k → k < w.heap.size
def FSAt (M : Nat → Prop) (w : World) (b : Nat) (F : FR) : Prop := ∃ fv kv, FSIn M w b F fv kv
theorem FSIn.eq {M : Nat → Prop} {w w' : World} {b : Nat} {F : FR} {fv kv : Value} (h : FSIn M w b F fv kv) (hs : w.heap.size ≤ w'.heap.size) (he : ∀ k, M k → w'.heap[k]? = w.heap[k]?) : FSIn M w' b F fv kv where
  box := h.box.eq (he b h.mb)
  own := own_eq h.own fun k hk => he k (h.mf k hk).1
  ints := h.ints.eq hs fun k _ hm => ⟨he k hm.1, hm⟩
  mb := h.mb
  mf := h.mf
  lt k hk := Nat.lt_of_lt_of_le (h.lt k hk) hs
theorem FSIn.below {M : Nat → Prop} {w w' : World} {b : Nat} {F : FR} {fv kv : Value} (h : FSIn M w b F fv kv) (hb : Below w.heap.size w w') : FSIn M w' b F fv kv := h.eq hb.size fun k hk => hb.block k (h.lt k hk)
theorem FSAt.below {M : Nat → Prop} {w w' : World} {b : Nat} {F : FR} (h : FSAt M w b F) (hb : Below w.heap.size w w') : FSAt M w' b F := by
  obtain ⟨fv, kv, h⟩ := h
  exact ⟨fv, kv, h.below hb⟩
/-- A file system that a step on others' blocks leaves. -/
theorem FSAt.out {M N : Nat → Prop} {w w' : World} {b : Nat} {F : FR} (h : FSAt M w b F) (ho : Out N w w') (hd : ∀ k, M k → ¬ N k) : FSAt M w' b F := by
  obtain ⟨fv, kv, h⟩ := h
  exact ⟨fv, kv, h.eq ho.size fun k hk => ho.block k (h.lt k hk) (hd k hk)⟩
theorem FSAt.lt {M : Nat → Prop} {w : World} {b : Nat} {F : FR} (h : FSAt M w b F) : ∀ k, M k → k < w.heap.size := by
  obtain ⟨fv, kv, h⟩ := h
  exact h.lt
/-- What a step on a file system leaves: it, turned; its blocks, or new ones; all else as it was. -/
def Turned (M : Nat → Prop) (w w' : World) (b : Nat) (F : FR) : Prop := ∃ M', FSAt M' w' b F ∧ (∀ k, M' k → M k ∨ w.heap.size ≤ k) ∧ Out M w w'
theorem Turned.trans {M M' : Nat → Prop} {w a w' : World} {b : Nat} {F : FR} (hM : ∀ k, M' k → M k ∨ w.heap.size ≤ k) (h1 : Out M w a) (h2 : Turned M' a w' b F) : Turned M w w' b F := by
  obtain ⟨N, hf, hN, ho⟩ := h2
  exact ⟨N, hf, fun k hk => (hN k hk).elim (hM k) (fun h => .inr (Nat.le_trans h1.size h)), h1.trans ho hM⟩
theorem Turned.below {M : Nat → Prop} {w w' : World} {b : Nat} {F : FR} (h : FSAt M w b F) (hb : Below w.heap.size w w') : Turned M w w' b F := ⟨M, h.below hb, fun _ hk => .inl hk, Out.of_below hb⟩
end Go.Proofs.Ytmoaecicibjmnaa
