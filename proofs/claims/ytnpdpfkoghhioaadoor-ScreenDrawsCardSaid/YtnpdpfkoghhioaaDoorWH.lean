/- wraps.Cells: the cells of a line, and where each byte begins. -/
import Derived.Test.YtnpdpfkoghhioaaDoorWI
import Derived.Deep.RegionWith
namespace Go.Proofs.YtnpdpfkoghhioaaDoor
open Go.RowKit

theorem byteCells_append (a b : List UInt8) : Lib.byteCells (a ++ b) = Lib.byteCells a ++ Lib.byteCells b := by simp [Lib.byteCells]
theorem strCells_mk (b : List UInt8) : Lib.strCells ⟨b.toArray⟩ = Lib.byteCells b := by simp [Lib.strCells, Lib.byteCells]
theorem one_cell (w : World) (v : Value) (t : TypeId) : (w.alloc (.cells #[v] t (0, 0))).cell? ⟨w.heap.size, 0, none⟩ = some v := by
  have h : (w.alloc (.cells #[v] t (0, 0))).heap[w.heap.size]? = some (.cells #[v] t (0, 0)) := heap_alloc_new w _
  unfold World.cell?; rw [h]; rfl

/-- append of one cell to a row of the call's own. -/
theorem app_one {P : Program} {w : World} {ops : Array Oper} {rest : List Oper} {o : Oper} {a : Act} {Q : Exit → Act → World → Prop} (hg : o.guard = none) (s x : Operand) (t : TypeId)
    (hop : o.op = Op.call { callee := Callee.builtin Builtin.append, args := #[s, x], argTypes := #[t, t] })
    (e : TypeId) (z : Value) (bytes : Nat) (ht : P.underlying t = some (.slice e)) (hinfo : (P.info? e).map (fun i => (i.zero, i.size, i.bytes)) = some (some z, 1, bytes)) (hz : z.cells.size = 1)
    (B : Nat) (v : Value) (n : Nat) (xs : List Value) (hs : a.eval s = v) (hown : w.ownsRow B e 1 v n xs)
    (nb c : Nat) (hx : a.eval x = .slice (some ⟨nb, 0, none⟩) 1 c) (u : Value) (hu : w.cell? ⟨nb, 0, none⟩ = some u) (h1 : u.oneCell' = true)
    (hn : n < 1000000) (hby : bytes ≤ 1000) (hB : B ≤ w.heap.size)
    (hK : ∀ g c w', Hid (w'.ownsRow B e 1 (.slice (some ⟨g, 0, none⟩) (n + 1) c) (n + 1) (xs ++ [u])) → Hid (w.grownBy w' v.ownBlock) → Below B w w' → wpList P ops Q rest (a.put o.dst (.slice (some ⟨g, 0, none⟩) (n + 1) c)) w') :
    wpList P ops Q (o :: rest) a w := by
  obtain ⟨i, hi, hzz⟩ := Option.map_eq_some_iff.1 hinfo
  simp only [Prod.mk.injEq] at hzz
  obtain ⟨hz1, hs1, hb1⟩ := hzz
  refine wpList_append_own w hg s x t hop B e i z 1 bytes ht hi hz1 hs1 hb1 hz (by decide) v n xs hs hown ⟨nb, 0, none⟩ 1 c [u] hx rfl
    (fun j u' hj => by cases j with | zero => simp at hj; rw [← hj]; exact hu | succ j => simp at hj) (fun u' hu' => by simp at hu'; rw [hu']; exact h1) (by unfold maxLen; omega) (by have : (n + 1) * bytes ≤ 1000000 * 1000 := Nat.mul_le_mul (by omega) hby; omega) hB ?_
  intro v' w' r1 r2 _
  have hbel : Below B w w' := (Below.refl B w).grown r2 hB fun k hk => (hown.lt k hk).1
  rcases r1.2 with ⟨_, h0⟩ | ⟨g, c', cur, hv, h⟩
  · omega
  · subst hv
    exact hK g c' w' r1 r2 hbel


theorem below_drew' {w b : World} (h : Below w.drew.heap.size w.drew b) : Below w.heap.size w b := (Below.refl _ _).drew.trans h

set_option maxRecDepth 100000 in
set_option maxHeartbeats 4000000 in
theorem cells_any (s : ByteArray) (w : World) (h : TabOK w) (hs : s.size ≤ 100000) :
    Calls Tryd.prog 21 #[.string s] w fun e w' => (∃ v, e = .returned (.tuple #[.string ⟨(cellsTo s.data.toList s.size).toArray⟩, v]) ∧ IntsAt w' v (placesL s.data.toList)) ∧ Below w.heap.size w w' := by
  have HT := Lib.hid h
  clear h
  obtain ⟨l, hl⟩ : ∃ l, l = s.data.toList := ⟨_, rfl⟩
  have hn : l.length = s.size := by rw [hl]; rfl
  rw [← hl]
  have HL := Lib.hid hl
  have HN := Lib.hid hn
  clear hl hn
  obtain ⟨X, hX⟩ : ∃ X, X = cellsTo l s.size := ⟨_, rfl⟩
  rw [← hX]
  have HXF := Lib.hid hX
  clear hX
  go_enter Tryd.func21, Tryd.ntmps21
  go_wp2_with fail
  have hib := Lib.fresh_isBuilder 81 5 w
  generalize hW0 : World.alloc w _ = W0
  have hB0 : Below w.heap.size w W0 := by rw [← hW0]; go_grown
  have hs0 : W0.heap.size = w.heap.size + 1 := by rw [← hW0]; simp
  have HIB : Hid (Lib.IsBuilder 81 5 w.heap.size w.heap.size (Lib.byteCells (cellsTo l 0)) W0) := Lib.hid (by rw [← hW0]; exact hib)
  clear hib hW0 hs0
  go_loopw [3, 8] (fun av i wr => ∃ k : Nat, k ≤ s.size ∧ i = .int .i64 k ∧ Hid (Lib.IsBuilder 81 5 w.heap.size w.heap.size (Lib.byteCells (cellsTo l k)) wr) ∧ Hid (wr.ownsRow w.heap.size 3 1 av k (nums (posTo l k))) ∧ Hid (k = 0 → av = .slice none 0 0) ∧ Below w.heap.size w wr) (fun _ i _ => s.size - (intOf i).toNat)
  case atStart => exact ⟨0, Nat.zero_le _, rfl, HIB, Lib.hid (World.ownsRow_nil _ _ _ _), Lib.hid (fun _ => rfl), hB0⟩
  case round =>
    obtain ⟨k, hk, rfl, hib, hown, hnil, hbel⟩ := hrel
    by_cases hlt : k < s.size
    · obtain ⟨X, hX⟩ : ∃ X, X = cellsTo l k := ⟨_, rfl⟩
      obtain ⟨p, hp⟩ : ∃ p, p = X.length := ⟨_, rfl⟩
      have hlen := cellsTo_len l k (by rw [HN.out]; exact hk)
      rw [← hX, ← hp] at hlen
      have hp1 : p ≤ 1000000 := by omega
      rw [← hX] at hib
      have HX := Lib.hid hX
      have HP := Lib.hid hp
      clear hX hp hlen
      have CL : ∀ w5, Hid (Lib.IsBuilder 81 5 w.heap.size w.heap.size (Lib.byteCells X) w5) → Hid (Calls Tryd.prog 50 #[.pointer (some ⟨w.heap.size, 0, none⟩)] w5 fun e w' => e = .returned (.int .i64 (p : Int)) ∧ w5 = w') := by
        intro w5 h5
        refine Lib.hid ((Tryd.Builder_Len _ _ _ w5 h5.out).mono ?_)
        rintro e w' ⟨rfl, rfl⟩
        rw [Lib.byteCells_length, ← HP.out]
        exact ⟨rfl, rfl⟩
      have hB2 : w.heap.size ≤ (wr.alloc (.cells #[.int .i64 (p : Int)] 3)).heap.size := by have := hbel.size; simp; omega
      have hsz := hbel.size
      go_wp2_with fail
      (with_reducible refine (CL _ hib).out.mono ?_); rintro e w' ⟨rfl, rfl⟩
      go_wp2_with (at_builtin; refine app_one rfl (.tmp 11) (.tmp 13) 46 rfl 3 (.int .i64 0) 8 Tryd.underlying46 (by kernel_rfl) rfl w.heap.size u3 k (nums (posTo l k)) (by simp [Act.eval]) (hown.out.alloc _) wr.heap.size 1 (by simp [Act.eval]) (.int .i64 (p : Int)) (one_cell _ _ _) rfl (by omega) (by decide) hB2 ?_; intro g c w1 hown1 hgr1 hb1)
      have hbw1 : Below w.heap.size wr w1 := ((Below.refl _ _).alloc hsz _).trans hb1
      have hib1 : Lib.IsBuilder 81 5 w.heap.size w.heap.size (Lib.byteCells X) w1 := builder_keeps (builder_below hib.out ((Below.refl _ _).alloc (Nat.le_refl _) _)) (hown.out.alloc _) hgr1.out
      have HIB1 : Hid (Lib.IsBuilder 81 5 w.heap.size w.heap.size (Lib.byteCells X) w1.drew) := Lib.hid hib1
      have hbel1 : Below w.heap.size w w1 := hbel.trans hbw1
      obtain ⟨T, hT⟩ : ∃ T : ByteArray, T = ⟨(shownL s[k] p).toArray⟩ := ⟨_, rfl⟩
      have CS := Lib.hid (shown_any s[k] p w1.drew ((HT.out.later hbel1).later (Below.refl _ _).drew) hp1)
      rw [← hT] at CS
      have hTs : T.size ≤ 8 := by
        have := (shown_len s[k] p).2
        rw [hT]
        show (shownL s[k] p).toArray.size ≤ 8
        rw [List.size_toArray]; exact this
      have HTT := Lib.hid hT
      have CW : ∀ w2, Below w1.drew.heap.size w1.drew w2 → Hid (Calls Tryd.prog 51 #[.pointer (some ⟨w.heap.size, 0, none⟩), .string T] w2 fun e w' => e = .returned (.tuple #[.int .i64 T.size, .nilIface]) ∧ (Lib.BuilderAt 81 5 w.heap.size w.heap.size (.pointer (some ⟨w.heap.size, 0, none⟩)) (Lib.byteCells X ++ Lib.strCells T) w' ∧ Below w.heap.size w2 w' ∧ Keeps w2 w')) := by
        intro w2 hb
        refine Lib.hid (write_any _ _ _ _ w2 (builder_below HIB1.out hb) ?_ ?_)
        · rw [Lib.byteCells_length, ← HP.out]; omega
        · have h1 := hbel1.size
          have h2 : w1.heap.size ≤ w2.heap.size := hb.size
          omega
      clear hT hib1
      have HBW := Lib.hid hbw1
      clear hbw1
      go_region_with (first
        | (go_at_call 50; with_reducible (refine (CL _ HIB1).out.mono ?_); rintro e w' ⟨rfl, rfl⟩)
        | (go_at_call 52; with_reducible (refine CS.out.mono ?_); rintro e w2 ⟨rfl, hb2⟩)
        | (go_at_call 51; with_reducible (refine (CW _ hb2).out.mono ?_); rintro e w3 ⟨rfl, hbu3, hb3, hk3⟩))
      all_goals
        go_wp2_with fail
        refine ⟨⟨k + 1, by omega, by go_num, Lib.hid (.inr ?_), Lib.hid ?_, Lib.hid (fun h => absurd h (Nat.succ_ne_zero k)), ?_⟩, by simp only [intOf]; omega⟩
        · have hk1 : k < l.length := by rw [HN.out]; exact hlt
          have e1 : l[k] = s[k] := by simp only [HL.out]; rfl
          rw [cellsTo_succ l k hk1, ← HX.out, ← HP.out, e1, byteCells_append, ← strCells_mk (shownL s[k] p), ← HTT.out]
          exact hbu3
        · have h2 : nums (posTo l (k + 1)) = nums (posTo l k) ++ [.int .i64 (p : Int)] := by
            rw [posTo_succ, ← HX.out, ← HP.out]; simp [nums]
          rw [h2]
          exact own_keeps hown1.out ((Keeps.of_below (below_drew' hb2)).trans hk3)
        · exact (hbel1.trans ((below_drew' hb2).mono (Nat.le_trans hsz HBW.out.size))).trans hb3
    · obtain rfl : k = s.size := by omega
      have hX := HXF.out
      obtain ⟨p, hp⟩ : ∃ p, p = X.length := ⟨_, rfl⟩
      have hlen := cellsTo_len l s.size (by rw [HN.out]; exact Nat.le_refl _)
      rw [← hX, ← hp] at hlen
      rw [← hX] at hib
      have hsz := hbel.size
      have CS : Hid (Calls Tryd.prog 53 #[.pointer (some ⟨w.heap.size, 0, none⟩)] wr fun e w' => e = .returned (.string ⟨X.toArray⟩) ∧ (Lib.IsBuilderF 81 5 w.heap.size w.heap.size (Lib.byteCells X) w' ∧ Below w.heap.size wr w' ∧ w'.ownsRow w.heap.size 3 1 u3 s.size (nums (posTo l s.size)))) := by
        by_cases h0 : s.size = 0
        · refine Lib.hid ((Tryd.Builder_String_any_f _ _ X wr (Lib.IsBuilderF.of hib.out) hsz).mono ?_)
          rintro e w' ⟨rfl, h1, h2⟩
          refine ⟨rfl, h1, h2, ?_⟩
          rw [hnil.out h0, h0]
          exact World.ownsRow_nil _ _ _ _
        · refine Lib.hid ((string_any _ _ X wr (Lib.IsBuilderF.of hib.out) (by intro e; rw [e] at hp; simp at hp; omega)).mono ?_)
          rintro e w' ⟨rfl, h1, h2, h3⟩
          exact ⟨rfl, h1, h2, own_keeps hown.out h3⟩
      have hp1 : p ≤ 1000000 := by omega
      have HX := Lib.hid hX
      have HP := Lib.hid hp
      clear hX hp hlen hnil
      go_wp2_with fail
      (with_reducible refine CS.out.mono ?_); rintro e w5 ⟨rfl, hib5, hb5, hown5⟩
      have CL : Hid (Calls Tryd.prog 50 #[.pointer (some ⟨w.heap.size, 0, none⟩)] w5 fun e w' => e = .returned (.int .i64 (p : Int)) ∧ w5 = w') := by
        refine Lib.hid ((Tryd.Builder_Len_f _ _ _ w5 hib5).mono ?_)
        rintro e w' ⟨rfl, rfl⟩
        rw [Lib.byteCells_length, ← HP.out]
        exact ⟨rfl, rfl⟩
      have hs5 := hb5.size
      have hB2 : w.heap.size ≤ (w5.alloc (.cells #[.int .i64 (p : Int)] 3)).heap.size := by simp; omega
      have HO5 := Lib.hid hown5
      clear hown5 hib5
      go_wp2_with fail
      (with_reducible refine CL.out.mono ?_); rintro e w' ⟨rfl, rfl⟩
      go_wp2_with (at_builtin; refine app_one rfl (.tmp 23) (.tmp 25) 46 rfl 3 (.int .i64 0) 8 Tryd.underlying46 (by kernel_rfl) rfl w.heap.size u3 s.size (nums (posTo l s.size)) (by simp [Act.eval]) (HO5.out.alloc _) w5.heap.size 1 (by simp [Act.eval]) (.int .i64 (p : Int)) (one_cell _ _ _) rfl (by omega) (by decide) hB2 ?_; intro g c w1 hown1 hgr1 hb1)
      go_ret2
      refine ⟨⟨_, rfl, ?_⟩, (hbel.trans hb5).trans (((Below.refl _ _).alloc (by omega) _).trans hb1)⟩
      refine ints_own (B := w.heap.size) (e := 3) ?_
      rw [← posTo_all, posTo_len, HN.out, posTo_succ, ← HX.out, ← HP.out]
      have h2 : nums (posTo l s.size ++ [p]) = nums (posTo l s.size) ++ [.int .i64 (p : Int)] := by simp [nums]
      rw [h2]
      exact hown1.out
end Go.Proofs.YtnpdpfkoghhioaaDoor
