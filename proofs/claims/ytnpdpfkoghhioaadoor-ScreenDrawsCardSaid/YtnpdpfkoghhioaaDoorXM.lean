/- screen: Draw's state. -/
import Derived.Test.YtnpdpfkoghhioaaDoorXL
namespace Go.Proofs.YtnpdpfkoghhioaaDoor
open Go.RowKit

/-- A grid under way: the rows P are laid. -/
structure DI (s : SH) (R C B2 hb GB hc : Nat) (rb ro rc : Nat → Nat) (W1 wr : World) (P : List It) (x y : Int) : Prop where
  own : OwnRows B2 wr hb rb ro rc (cellsOf s P)
  box : Box5 wr GB 37 (.int .i64 (R : Int)) (.int .i64 (C : Int)) (.slice (some ⟨hb, 0, none⟩) R hc) (.int .i64 x) (.int .i64 y)
  bel : Below B2 W1 wr
  lth : hb < GB
  ltr : ∀ j, j < R → rb j < GB
  gb : B2 ≤ GB
  rr : s.rows = (R : Int)
  cc : s.cols = (C : Int)
  r60 : R ≤ 60
  c132 : C ≤ 132
section
variable {s : SH} {R C B2 hb GB hc : Nat} {rb ro rc : Nat → Nat} {W1 wr : World} {P : List It} {x y : Int}
theorem Box5.lt' {w : World} {b : Nat} {t : TypeId} {v0 v1 v2 v3 v4 : Value} (h : Box5 w b t v0 v1 v2 v3 v4) : b < w.heap.size := (Array.getElem?_eq_some_iff.1 h).1
theorem DI.rn (h : DI s R C B2 hb GB hc rb ro rc W1 wr P x y) : s.rows.toNat = R := by rw [h.rr]; rfl
theorem DI.cn (h : DI s R C B2 hb GB hc rb ro rc W1 wr P x y) : s.cols.toNat = C := by rw [h.cc]; rfl
theorem DI.len (h : DI s R C B2 hb GB hc rb ro rc W1 wr P x y) (hP : P.length ≤ R) : (cellsOf s P).length = R := by rw [cells_len s P (by rw [h.rn]; exact hP), h.rn]
theorem DI.blt (h : DI s R C B2 hb GB hc rb ro rc W1 wr P x y) : GB < wr.heap.size := h.box.lt'
theorem DI.later {w' : World} (h : DI s R C B2 hb GB hc rb ro rc W1 wr P x y) (hbel : Below wr.heap.size wr w') : DI s R C B2 hb GB hc rb ro rc W1 w' P x y where
  own := h.own.below hbel (Nat.lt_trans h.lth h.blt) h.own.lt
  box := h.box.below hbel h.blt
  bel := h.bel.trans (hbel.mono (Nat.le_trans h.gb (Nat.le_of_lt h.blt)))
  lth := h.lth
  ltr := h.ltr
  gb := h.gb
  rr := h.rr
  cc := h.cc
  r60 := h.r60
  c132 := h.c132
theorem DI.eq {w' : World} (h : DI s R C B2 hb GB hc rb ro rc W1 wr P x y) (hs : wr.heap.size ≤ w'.heap.size) (he : ∀ k : Nat, k < wr.heap.size → w'.heap[k]? = wr.heap[k]?) (hbl : Below B2 W1 w') : DI s R C B2 hb GB hc rb ro rc W1 w' P x y where
  own := h.own.eq hs (he _ (Nat.lt_trans h.lth h.blt)) (fun j hj => he _ (h.own.lt j hj))
  box := (he GB h.blt).trans h.box
  bel := hbl
  lth := h.lth
  ltr := h.ltr
  gb := h.gb
  rr := h.rr
  cc := h.cc
  r60 := h.r60
  c132 := h.c132
theorem box5_s3 {w : World} {b : Nat} {t : TypeId} {v0 v1 v2 v3 v4 : Value} (h : Box5 w b t v0 v1 v2 v3 v4) (v : Value) : Box5 (w.setCell ⟨b, 3, none⟩ v) b t v0 v1 v2 v v4 := by
  unfold Box5 at *
  show (w.heap.modify b _)[b]? = _
  rw [Array.getElem?_modify, if_pos rfl, h]
  rfl
theorem box5_s4 {w : World} {b : Nat} {t : TypeId} {v0 v1 v2 v3 v4 : Value} (h : Box5 w b t v0 v1 v2 v3 v4) (v : Value) : Box5 (w.setCell ⟨b, 4, none⟩ v) b t v0 v1 v2 v3 v := by
  unfold Box5 at *
  show (w.heap.modify b _)[b]? = _
  rw [Array.getElem?_modify, if_pos rfl, h]
  rfl
theorem DI.cur (h : DI s R C B2 hb GB hc rb ro rc W1 wr P x y) (hP : P.length ≤ R) (x' y' : Int) : DI s R C B2 hb GB hc rb ro rc W1 ((wr.setCell ⟨GB, 3, none⟩ (.int .i64 x')).setCell ⟨GB, 4, none⟩ (.int .i64 y')) P x' y' := by
  have he : ∀ k : Nat, k ≠ GB → ((wr.setCell ⟨GB, 3, none⟩ (.int .i64 x')).setCell ⟨GB, 4, none⟩ (.int .i64 y')).heap[k]? = wr.heap[k]? := fun k hk => by rw [setCell_heap_other _ _ _ _ _ hk, setCell_heap_other _ _ _ _ _ hk]
  have hl := h.len hP
  exact
  { own := h.own.eq (by rw [set_size, set_size]; exact Nat.le_refl _) (he _ (Nat.ne_of_lt h.lth)) (fun j hj => he _ (Nat.ne_of_lt (h.ltr j (by omega))))
    box := box5_s4 (box5_s3 h.box _) _
    bel := (h.bel.setCell (p := ⟨GB, 3, none⟩) h.gb _).setCell (p := ⟨GB, 4, none⟩) h.gb _
    lth := h.lth, ltr := h.ltr, gb := h.gb, rr := h.rr, cc := h.cc, r60 := h.r60, c132 := h.c132 }
/-- A row laid. -/
theorem DI.put {w' : World} (h : DI s R C B2 hb GB hc rb ro rc W1 wr P x y) (hP : P.length < R) (t : List UInt8) (o : Option Nat) (h1 : OwnRows B2 w' hb rb ro rc ((cellsOf s P).set P.length (ovl C t))) (h2 : Out (fun k => k = rb P.length) wr w') : DI s R C B2 hb GB hc rb ro rc W1 w' (P ++ [(t, o)]) x y := by
  have hg : rb P.length ≠ GB := Nat.ne_of_lt (h.ltr _ hP)
  have e := cells_snoc s P (t, o) (by rw [h.rn]; exact hP)
  rw [h.cn] at e
  have hl := h.len (Nat.le_of_lt hP)
  have hlow := h.own.low P.length (by omega)
  exact
  { own := by rw [e]; exact h1
    box := (h2.block GB h.blt (fun e => hg e.symm)).trans h.box
    bel := h.bel.trans (h2.below (Nat.le_trans h.gb (Nat.le_of_lt h.blt)) (fun k hk => by rw [hk]; exact hlow))
    lth := h.lth, ltr := h.ltr, gb := h.gb, rr := h.rr, cc := h.cc, r60 := h.r60, c132 := h.c132 }
theorem DI.row_at (h : DI s R C B2 hb GB hc rb ro rc W1 wr P x y) (hP : P.length < R) : (cellsOf s P)[P.length]? = some (List.replicate C 32) := by
  have := cells_at s P (by rw [h.rn]; exact hP)
  rw [h.cn] at this
  exact this
theorem put_row (h : DI s R C B2 hb GB hc rb ro rc W1 wr P x y) (hP : P.length < R) (t : List UInt8) (o : Option Nat) (ht : t.length ≤ 100000) :
    Calls Tryd.prog 39 #[.agg #[.int .i64 (R : Int), .int .i64 (C : Int), .slice (some ⟨hb, 0, none⟩) R hc, .int .i64 x, .int .i64 y], .int .i64 (P.length : Nat), .string ⟨t.toArray⟩] wr fun e w' => e = .returned (.tuple #[]) ∧ DI s R C B2 hb GB hc rb ro rc W1 w' (P ++ [(t, o)]) x y := by
  have hl := h.len (Nat.le_of_lt hP)
  have h0 := sput_any B2 wr hb rb ro rc (cellsOf s P) h.own hc (R : Int) x y C (by have := h.c132; omega) P.length (by omega) (h.row_at hP) (by have := h.r60; omega) ⟨t.toArray⟩ t rfl ht
  rw [hl] at h0
  refine h0.mono ?_
  rintro e w' ⟨he, h1, h2⟩
  exact ⟨he, h.put hP t o h1 h2⟩
/-- A tilde. -/
theorem DI.tilde (h : DI s R C B2 hb GB hc rb ro rc W1 wr P x y) (hP : P.length < R) (hC : 1 ≤ C) : DI s R C B2 hb GB hc rb ro rc W1 (wr.setCell ⟨rb P.length, ro P.length, none⟩ (.int .u8 126)) (P ++ [([126], none)]) x y := by
  have hl := h.len (Nat.le_of_lt hP)
  have hr : (cellsOf s P)[P.length]?.getD [] = List.replicate C 32 := by rw [h.row_at hP]; rfl
  have h0 := h.own.set P.length 0 (by omega) (by rw [hr, List.length_replicate]; omega) 126
  refine h.put hP [126] none ?_ ((Out.refl (fun k => k = rb P.length) _).set (.inl rfl) _ _)
  have e : putL (cellsOf s P) P.length 0 126 = (cellsOf s P).set P.length (ovl C [126]) := by
    obtain ⟨m, rfl⟩ : ∃ m, C = m + 1 := ⟨C - 1, by omega⟩
    unfold putL
    apply List.ext_getElem?
    intro k
    rw [List.getElem?_modify]
    by_cases hk : P.length = k
    · subst hk
      rw [List.getElem?_set_self (by omega), h.row_at hP]
      simp [ovl, List.replicate_succ]
    · rw [List.getElem?_set_ne hk]
      simp [hk]
  rw [e, Nat.add_zero] at h0
  exact h0
theorem DI.head (h : DI s R C B2 hb GB hc rb ro rc W1 wr P x y) (hP : P.length < R) (hC : 1 ≤ C) : wr.cell? ⟨hb, P.length, none⟩ = some (.slice (some ⟨rb P.length, ro P.length, none⟩) C (rc P.length)) ∧ wr.cell? ⟨rb P.length, ro P.length, none⟩ = some (.int .u8 32) ∧ wr.frozen? ⟨rb P.length, ro P.length, none⟩ = false := by
  have hl := h.len (Nat.le_of_lt hP)
  have hr : (cellsOf s P)[P.length]?.getD [] = List.replicate C 32 := by rw [h.row_at hP]; rfl
  have h0 := h.own.head P.length (by omega)
  have h1 := h.own.cell P.length (by omega) 0 (by rw [hr, List.length_replicate]; omega)
  have h2 := h.own.free P.length (by omega) 0 (by rw [hr, List.length_replicate]; omega)
  rw [hr, List.length_replicate] at h0
  rw [hr, Nat.add_zero] at h1
  rw [Nat.add_zero] at h2
  refine ⟨h0, ?_, h2⟩
  rw [h1, List.getElem?_replicate, if_pos (by omega)]
  rfl
theorem DI.blank (h : DI s R C B2 hb GB hc rb ro rc W1 wr P x y) (hP : P.length < R) : DI s R C B2 hb GB hc rb ro rc W1 wr (P ++ [([], none)]) x y := by
  have hl := h.len (Nat.le_of_lt hP)
  refine h.put hP [] none ?_ (Out.refl _ _)
  have e : (cellsOf s P).set P.length (ovl C []) = cellsOf s P := by
    rw [ovl_nil]
    apply List.ext_getElem?
    intro k
    by_cases hk : P.length = k
    · subst hk; rw [List.getElem?_set_self (by omega), h.row_at hP]
    · rw [List.getElem?_set_ne hk]
  rw [e]; exact h.own
end
/-- A new grid. -/
theorem DI.start {s : SH} {W1 w2 : World} {ha : Option Addr} {gcap : Nat} (hF : Fit s) (h : OwnGrid W1.heap.size w2 (.agg #[.int .i64 s.rows, .int .i64 s.cols, .slice ha (newG s.rows s.cols).cells.length gcap, .int .i64 0, .int .i64 0]) (newG s.rows s.cols)) (hb2 : Below W1.heap.size W1 w2) :
    ∃ hb rb ro rc, ha = some ⟨hb, 0, none⟩ ∧ ∀ W3, W3 = w2.alloc (.cells #[.int .i64 s.rows, .int .i64 s.cols, .slice ha (newG s.rows s.cols).cells.length gcap, .int .i64 0, .int .i64 0] 37) →
      DI s s.rows.toNat s.cols.toNat W1.heap.size hb w2.heap.size gcap rb ro rc W1 W3 [] 0 0 := by
  obtain ⟨ha', hc', hv, h⟩ := h
  have h2 := hF.r2
  have h60 := hF.r60
  have h8 := hF.c8
  have h132 := hF.c132
  have hlen : (newG s.rows s.cols).cells.length = s.rows.toNat := by simp [newG]
  injection hv with hv
  simp only [Array.mk.injEq, List.cons.injEq] at hv
  obtain ⟨_, _, hv, _⟩ := hv
  injection hv with e1 _ e3
  obtain ⟨hb, rb, ro, rc, he, ho⟩ := h (by intro e; rw [e] at hlen; simp at hlen; omega)
  refine ⟨hb, rb, ro, rc, e1.trans he, fun W3 hW3 => ?_⟩
  have hbl : Below w2.heap.size w2 W3 := by rw [hW3]; exact (Below.refl _ _).alloc (Nat.le_refl _) _
  have hhl := ho.head_lt (by intro e; rw [e] at hlen; simp at hlen; omega)
  have hg : cellsOf s [] = (newG s.rows s.cols).cells := by
    have := grid_nil s
    exact congrArg G.cells this
  exact
  { own := by rw [hg]; exact ho.below hbl hhl ho.lt
    box := by
      rw [hW3]; unfold Box5; rw [heap_alloc, if_pos rfl, hlen, e1, he]
      rw [show ((s.rows.toNat : Nat) : Int) = s.rows by omega, show ((s.cols.toNat : Nat) : Int) = s.cols by omega]
    bel := hb2.trans (hbl.mono hb2.size)
    lth := hhl
    ltr := fun j hj => ho.lt j (by rw [hlen]; exact hj)
    gb := hb2.size
    rr := by omega
    cc := by omega
    r60 := by omega
    c132 := by omega }
end Go.Proofs.YtnpdpfkoghhioaaDoor
