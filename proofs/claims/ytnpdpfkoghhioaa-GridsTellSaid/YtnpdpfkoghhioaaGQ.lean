/- The chapter's Clone. -/
import Derived.Test.YtnpdpfkoghhioaaGP
namespace Go.Proofs.Ytnpdpfkoghhioaa
open Go.RowKit

theorem run_append_none {P : Program} {w : World} (B : Nat) (t ty e : TypeId) (i : TypeInfo) (ht : P.underlying t = some (.slice e)) (hi : P.info? e = some i)
    (v : Value) (n : Nat) (xs : List Value) (hown : w.ownsRow B e 1 v n xs) (c : Nat) : (Builtin.append_ #[t, t] ty #[v, .slice none 0 c]).run P w = .ok v w := by
  rcases hown.2 with ⟨rfl, rfl⟩ | ⟨g, cap, cur, rfl, _, _, hnc, _⟩
  · simp [Builtin.append_, run_underlying ht, sizeOf, typeInfo, hi, Builtin.lenOf, Builtin.firstCells]
  · simp [Builtin.append_, run_underlying ht, sizeOf, typeInfo, hi, Builtin.lenOf, Builtin.firstCells, hnc, storeCells]

/-- append of a row to a new empty one. -/
theorem wpList_clone_row {P : Program} {w : World} {ops : Array Oper} {rest : List Oper} {o : Oper} {a : Act} {Q : Exit → Act → World → Prop} (hg : o.guard = none) (s x : Operand) (t : TypeId)
    (hop : o.op = Op.call { callee := Callee.builtin Builtin.append, args := #[s, x], argTypes := #[t, t] })
    (e : TypeId) (ht : P.underlying t = some (.slice e)) (hinfo : (P.info? e).map (fun i => (i.zero, i.size, i.bytes)) = some (some (.int .u8 0), 1, 1))
    (B : Nat) (b : Nat) (hs : a.eval s = .slice (some ⟨b, 0, none⟩) 0 0) (hown : w.ownsRow B e 1 (.slice (some ⟨b, 0, none⟩) 0 0) 0 [])
    (B' : Nat) (ra : Option Addr) (z rc : Nat) (hx : a.eval x = .slice ra z rc) (l : List UInt8) (hr : RowAt B' w (.slice ra z rc) l) (hl : l.length ≤ 1000000) (hB : B ≤ w.heap.size)
    (hK : ∀ (g c : Nat) (cur : List Value) (w' : World), Hid (w'.heap[g]? = some (.cells cur.toArray e (0, 0))) → Hid (∀ k, k < l.length → cur[k]? = some (.int .u8 ((l[k]?.getD 0).toNat : Int))) → B ≤ g → Below B w w' → wpList P ops Q rest (a.put o.dst (.slice (some ⟨g, 0, none⟩) z c)) w') :
    wpList P ops Q (o :: rest) a w := by
  obtain ⟨i, hi, hzz⟩ := Option.map_eq_some_iff.1 hinfo
  simp only [Prod.mk.injEq] at hzz
  obtain ⟨hz1, hs1, hb1⟩ := hzz
  obtain ⟨ra', rc', hv, hc⟩ := hr
  injection hv with e1 e2 e3
  subst e1 e2 e3
  have fin : ∀ v' w', w'.ownsRow B e 1 v' l.length (bv l) → v' ≠ .slice none 0 0 → Below B w w' → wpList P ops Q rest (a.put o.dst v') w' := by
    intro v' w' h hne hb
    rcases h.2 with ⟨h0, _⟩ | ⟨g, cap, cur, rfl, hBg, hgg, _, _, _, ht⟩
    · exact absurd h0 hne
    · refine hK g cap cur.toList w' (by rw [Array.toArray_toList]; exact hgg) (fun k hk => ?_) hBg hb
      have h2 : (cur.toList.take (l.length * 1))[k]? = some (.int .u8 ((l[k]?.getD 0).toNat : Int)) := by rw [ht]; simp [bv, hk]
      rw [List.getElem?_take] at h2
      split at h2
      · exact h2
      · cases h2
  cases ra with
  | none =>
    have hl0 : l = [] := by
      by_cases h : l = []
      · exact h
      · obtain ⟨_, _, h2, _⟩ := hc h
        cases h2
    subst hl0
    refine wpList_plain hg fun K hK2 => ?_
    have hrun := run_append_none (P := P) (w := w) B t o.type e i ht hi _ 0 [] hown rc
    unfold Oper.wp
    simp [execOp, hop, resolve, invoke, builtin, hs, hx, hrun, Result.andThen]
    exact hK2 _ _ (fin _ _ hown (by intro h; cases h) (Below.refl _ _))
  | some ad =>
    refine wpList_append_own w hg s x t hop B e i (.int .u8 0) 1 1 ht hi hz1 hs1 hb1 rfl (by decide) _ 0 [] hs hown ad l.length rc (bv l) hx (by simp [bv]) (fun j u hj => ?_) (bv_one l) (by unfold maxLen; omega) (by omega) hB ?_
    · obtain ⟨hjl, rfl⟩ := bv_get l j u hj
      obtain ⟨b2, o2, h2, _, h3⟩ := hc (by intro e; rw [e] at hjl; simp at hjl)
      injection h2 with h2
      subst h2
      rw [add_plain]; exact h3 j hjl
    · intro v' w' r1 r2 r3
      rw [Nat.zero_add, List.nil_append] at r1
      refine fin v' w' r1 (fun h => ?_) ((Below.refl B w).grown r2 hB fun k hk => (hown.lt k hk).1)
      have := r3.1 h
      cases this.1

set_option maxRecDepth 100000 in
set_option maxHeartbeats 4000000 in
theorem rclone_any (v : Value) (g : G) (w : World) (h : GridAt w.heap.size w v g) (hb : Small g) :
    Calls Try.prog 14 #[v] w fun e w' => (∃ v', e = .returned v' ∧ OwnGrid w.heap.size w' v' g) ∧ Below w.heap.size w w' := by
  obtain ⟨r, c, L, x, y⟩ := g
  obtain ⟨cv, rfl, hc⟩ := h
  obtain ⟨hb1, hb2⟩ := hb
  simp only at hb1 hb2 hc
  obtain ⟨a, k0, rfl, hx⟩ := hc
  have Hx := Lib.hid hx
  have Hb2 := Lib.hid hb2
  clear hx hb2
  obtain ⟨n, hn⟩ : ∃ n, n = L.length := ⟨_, rfl⟩
  have H := Lib.hid hn
  rw [← hn] at hb1 ⊢
  clear hn
  go_enter Try.func14, Try.ntmps14
  go_wp2_with fail
  generalize hW0 : World.alloc (World.alloc _ _) _ = W0
  obtain ⟨hsz, hb1', hb2'⟩ : W0.heap.size = w.heap.size + 2 ∧ Box5 W0 w.heap.size 24 (.int .i64 r) (.int .i64 c) (.slice a n k0) (.int .i64 x) (.int .i64 y) ∧
      Box5 W0 (w.heap.size + 1) 24 (.int .i64 0) (.int .i64 0) (.slice none 0 0) (.int .i64 0) (.int .i64 0) := by
    rw [← hW0]
    refine ⟨by rw [size_alloc, size_alloc], ?_, ?_⟩
    · unfold Box5; rw [heap_alloc, if_neg (by rw [size_alloc]; omega), heap_alloc, if_pos rfl]
    · unfold Box5; rw [heap_alloc, if_pos (by rw [size_alloc])]
  have hB0 : Below w.heap.size w W0 := by subst hW0; go_grown
  have K1 := Lib.hid hb1'
  have K2 := Lib.hid hb2'
  clear hb1' hb2' hW0
  go_loopw [3, 4] (fun lv i wr => ∃ k : Nat, ∃ rb rc : Nat → Nat, k ≤ n ∧ i = .int .i64 k ∧ Hid (Built W0.heap.size wr lv (L.take k) rb rc) ∧ Below W0.heap.size W0 wr) (fun _ i _ => n - (intOf i).toNat)
  case atStart => exact ⟨0, fun _ => 0, fun _ => 0, Nat.zero_le _, rfl, Lib.hid (Built.nil _ _), Below.refl _ _⟩
  case round =>
    obtain ⟨k, rb, rc, hk, rfl, hbu, hbel⟩ := hrel
    have q1 := K1.out.below hbel (by omega)
    have p2 := q1.c2
    by_cases h : k < n
    · obtain ⟨b, o, rfl, s1, hr⟩ := Hx.out (by intro e; rw [H.out, e] at h; simp at h)
      have hl : k < L.length := by rw [← H.out]; exact h
      obtain ⟨rv, q, hrow⟩ := hr k hl
      have hbel' : Below w.heap.size w wr := hB0.trans (hbel.mono (by omega))
      have hq := (hbel'.cell (p := ⟨b, o + k, none⟩) s1).trans q
      have hq2 := fun ob => (((hbel'.alloc hbel'.size ob)).cell (p := ⟨b, o + k, none⟩) s1).trans q
      have hp2 := fun ob => ((q1.alloc' ob)).c2
      obtain ⟨l, hll⟩ : ∃ l, l = L[k]?.getD [] := ⟨_, rfl⟩
      have Hll := Lib.hid hll
      rw [← hll] at hrow
      have hsmall : l.length ≤ 1000000 := Hb2.out _ (by rw [hll, List.getElem?_eq_getElem hl, Option.getD_some]; exact List.getElem_mem hl)
      clear hr hll q
      have hrow2 := fun ob => hrow.below (hbel'.alloc hbel'.size ob)
      obtain ⟨ra, rcp, rfl, hrc⟩ := hrow
      clear hrc
      obtain ⟨z, hz⟩ : ∃ z, z = l.length := ⟨_, rfl⟩
      have Hz := Lib.hid hz
      rw [← hz] at hq
      simp only [← hz] at hrow2 hq2
      rw [← hz] at hsmall
      have hsmall2 := Lib.hid (show l.length ≤ 1000000 by rw [← hz]; exact hsmall)
      clear hz
      have Hrow2 := Lib.hid hrow2
      clear hrow2
      have hown1 := Lib.hid (World.ownsRow_made (e := 5) (size := 1) (base := wr.heap.size) wr #[] 0 (Nat.le_refl _) (by unfold maxLen; omega) rfl)
      have hB1 : wr.heap.size ≤ (wr.alloc (.cells #[] 5)).heap.size := by rw [size_alloc]; omega
      have hwr : W0.heap.size ≤ wr.heap.size := hbel.size
      have hlt : (L.take k).length = k := by rw [List.length_take]; omega
      have Hlt := Lib.hid hlt
      clear hlt
      go_wp2_with (first | (at_builtin; refine wpList_clone_row rfl (.tmp 13) (.tmp 18) 32 rfl 5 rfl (by kernel_rfl) wr.heap.size wr.heap.size (by simp [Act.eval]) hown1.out w.heap.size ra z rcp (by simp [Act.eval]) l (Hrow2.out _) hsmall2.out hB1 ?_; intro g c6 cur w6 hg6 hcur6 hBg6 hb6; have hh := (Below.refl wr.heap.size wr).alloc (Nat.le_refl _) (.cells #[] 5) |>.trans hb6; have hs6 := hb6.size; have hown2 := Lib.hid (ownsRow_len (hbu.out.later hh).head Hlt.out (.cells #[.slice (some ⟨g, 0, none⟩) z c6] 32)); have hB2 : W0.heap.size ≤ (w6.alloc (.cells #[.slice (some ⟨g, 0, none⟩) z c6] 32)).heap.size := by rw [size_alloc]; omega) | (at_builtin; refine wpList_append_one rfl (.tmp 12) (.tmp 20) 22 rfl 32 (.slice none 0 0) 24 (by kernel_rfl) (by kernel_rfl) rfl W0.heap.size u3 k _ (by simp [Act.eval]) hown2.out w6.heap.size 1 (by simp [Act.eval]) (.slice (some ⟨g, 0, none⟩) z c6) (new_one _ _ _) rfl (by omega) (by decide) hB2 ?_; intro g7 c7 w7 hown7 hgr7 hb7))
      have htk : L.take (k + 1) = L.take k ++ [l] := by rw [List.take_add_one, Hll.out, List.getElem?_eq_getElem hl]; rfl
      obtain ⟨rb2, rc2, hsn⟩ : ∃ rb2 rc2, Built W0.heap.size w7 (.slice (some ⟨g7, 0, none⟩) (k + 1) c7) (L.take (k + 1)) rb2 rc2 := by
        rw [htk]
        refine ⟨_, _, Built.snoc (W := wr) (W1 := w6) hbu.out hwr hh (.cells #[.slice (some ⟨g, 0, none⟩) z c6] 32) g c6 cur l hg6.out hBg6 hcur6.out ?_ hgr7.out⟩
        have hx := hown7.out
        rw [Hlt.out, ← Hz.out]
        rw [Hlt.out] at hx
        exact hx
      have HSN := Lib.hid hsn
      clear hsn htk
      go_roundw
      case rel =>
        exact ⟨k + 1, rb2, rc2, by omega, by go_num, HSN, (hbel.trans ((hh.alloc (by omega) _).mono (by omega))).trans (hb7.mono (by omega))⟩
      case measure => simp [intOf]; omega
    · obtain rfl : k = n := by omega
      obtain ⟨ha, hc, hv, ho⟩ := hbu.out.own
      rw [List.take_of_length_le (by rw [← H.out]; omega), ← H.out] at hv
      rw [List.take_of_length_le (by rw [← H.out]; omega)] at ho
      subst hv
      have Ho := Lib.hid ho
      clear ho
      have q2 := Lib.hid (K2.out.below hbel (by omega))
      have q1' := Lib.hid q1
      have hbel' : Below w.heap.size w wr := hB0.trans (hbel.mono (by omega))
      clear p2 hbu
      have a0 := q1.c0
      have a1 := q1.c1
      have a2 := q1.c2
      have a3 := q1.c3
      have a4 := q1.c4
      have d2 := q1.free 2
      have b0 := q2.out.c0
      have b1 := q2.out.c1
      have b2 := q2.out.c2
      have b3' := q2.out.c3
      have b4 := q2.out.c4
      have f0 := q2.out.free 0
      have f1 := q2.out.free 1
      have f2 := q2.out.free 2
      have f3 := q2.out.free 3
      have f4 := q2.out.free 4
      clear q1
      go_wp2_with fail
      generalize hW' : World.setCell (World.setCell (World.setCell (World.setCell (World.setCell _ _ _) _ _) _ _) _ _) _ _ = W'
      have hbox : Box5 W' (w.heap.size + 1) 24 (.int .i64 r) (.int .i64 c) (.slice ha k hc) (.int .i64 x) (.int .i64 y) := by rw [← hW']; exact (q2.out.other _ _ _ (by omega)).sets _ _ _ _ _
      have hoth : ∀ c, c ≠ w.heap.size + 1 → c ≠ w.heap.size → W'.heap[c]? = wr.heap[c]? := fun c hc hc2 => by rw [← hW', sets_other _ _ _ _ _ _ _ _ hc, setCell_heap_other _ _ _ _ _ hc2]
      have hbelW : Below w.heap.size w W' := by rw [← hW']; exact Below_sets (Below_setCell hbel' _ _ _ (Nat.le_refl _)) _ (by omega) _ _ _ _ _
      have hsW : W'.heap.size = wr.heap.size := by rw [← hW']; simp [World.setCell]
      clear hW' f0 f1 f2 f3 f4 b0 b1 b2 b3' b4 a0 a1 a2 a3 a4 d2
      have a0 := hbox.c0
      have a1 := hbox.c1
      have a2 := hbox.c2
      have a3 := hbox.c3
      have a4 := hbox.c4
      have Hoth := Lib.hid hoth
      clear hoth
      (try simp only [Exit.inBlock, Exit.then])
      refine bodyPost_ret (by simp [results, Try.results14, go_sem, a0, a1, a2, a3, a4]; try rfl) rfl ?_
      refine ⟨⟨_, rfl, ?_⟩, hbelW⟩
      refine ⟨ha, hc, by simp [← H.out], fun hne => ?_⟩
      obtain ⟨hbk, rb', ro', rc', e, hr⟩ := Ho.out hne
      exact ⟨hbk, rb', ro', rc', e, (hr.frame (w' := W') (fun c hc1 _ => Hoth.out c (by omega) (by omega)) (by omega)).mono (by omega)⟩
end Go.Proofs.Ytnpdpfkoghhioaa
