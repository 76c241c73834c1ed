/- What is told of each file: all, Names, Unsynced, Size. -/
import Derived.Test.YtmoaecicibjmnaaFU
namespace Go.Proofs.Ytmoaecicibjmnaa
open Go.RowKit

theorem own_below {w w' : World} {B : Nat} {e : TypeId} {sz : Nat} {v : Value} {n : Nat} {xs : List Value} (h : w.ownsRow B e sz v n xs) (hb : Below w.heap.size w w') : w'.ownsRow B e sz v n xs :=
  own_eq h fun k hk => hb.block k (h.lt k hk).2
theorem new_one (w : World) (v : Value) (t : TypeId) : (w.alloc (.cells #[v] t (0, 0))).cell? ⟨w.heap.size, 0, none⟩ = some v := by
  rw [cell_at (by rw [heap_alloc, if_pos rfl])]; rfl
/-- append of one cell to a row of the call's own. -/
theorem wpList_append_one {P : Program} {w : World} {ops : Array Oper} {rest : List Oper} {o : Oper} {a : Act} {Q : Exit → Act → World → Prop} (hg : o.guard = none) (s x : Operand) (t : TypeId)
    (hop : o.op = Op.call { callee := Callee.builtin Builtin.append, args := #[s, x], argTypes := #[t, t] })
    (e : TypeId) (z : Value) (bytes : Nat) (ht : P.underlying t = some (.slice e)) (hinfo : (P.info? e).map (fun i => (i.zero, i.size, i.bytes)) = some (some z, 1, bytes)) (hz : z.cells.size = 1)
    (B : Nat) (v : Value) (n : Nat) (xs : List Value) (hs : a.eval s = v) (hown : w.ownsRow B e 1 v n xs)
    (nb c : Nat) (hx : a.eval x = .slice (some ⟨nb, 0, none⟩) 1 c) (u : Value) (hu : w.cell? ⟨nb, 0, none⟩ = some u) (h1 : u.oneCell' = true)
    (hn : n < 1000000) (hby : bytes ≤ 1000) (hB : B ≤ w.heap.size)
    (hK : ∀ g c w', Hid (w'.ownsRow B e 1 (.slice (some ⟨g, 0, none⟩) (n + 1) c) (n + 1) (xs ++ [u])) → Hid (w.grownBy w' v.ownBlock) → Below B w w' → wpList P ops Q rest (a.put o.dst (.slice (some ⟨g, 0, none⟩) (n + 1) c)) w') :
    wpList P ops Q (o :: rest) a w := by
  obtain ⟨i, hi, hzz⟩ := Option.map_eq_some_iff.1 hinfo
  simp only [Prod.mk.injEq] at hzz
  obtain ⟨hz1, hs1, hb1⟩ := hzz
  refine wpList_append_own w hg s x t hop B e i z 1 bytes ht hi hz1 hs1 hb1 hz (by decide) v n xs hs hown ⟨nb, 0, none⟩ 1 c [u] hx rfl
    (fun j u' hj => by cases j with | zero => simp at hj; rw [← hj]; exact hu | succ j => simp at hj) (fun u' hu' => by simp at hu'; rw [hu']; exact h1) (by unfold maxLen; omega) (by have : (n + 1) * bytes ≤ 1000000 * 1000 := Nat.mul_le_mul (by omega) hby; omega) hB ?_
  intro v' w' r1 r2 _
  have hbel : Below B w w' := (Below.refl B w).grown r2 hB fun k hk => (hown.lt k hk).1
  rcases r1.2 with ⟨_, h0⟩ | ⟨g, c', cur, hv, h⟩
  · omega
  · subst hv
    exact hK g c' w' r1 r2 hbel

set_option maxHeartbeats 4000000 in
set_option maxRecDepth 100000 in
theorem all_int {M : Nat → Prop} {w : World} {b : Nat} {F : FR} (h : FSAt M w b F) (hG : Sound F) (g : Nat) (eg : ∀ args w, (callFunc g args).run Try.prog w = .ok (.enter g args) w) (f : PF → Int)
    (hc : ∀ x ∈ F.files, ∀ w1, Calls Try.prog g #[x.val] w1 fun e w' => e = .returned (.int .i64 (f x)) ∧ Below w1.heap.size w1 w') :
    Calls Try.prog 45 #[.pointer (some ⟨b, 0, none⟩), .func (.func g) #[] #[]] w fun e w' => (∃ v, e = .returned v ∧ w'.ownsRow w.heap.size 3 1 v F.files.length (F.files.map fun x => Value.int .i64 (f x))) ∧ Below w.heap.size w w' := by
  obtain ⟨fv, kv, h⟩ := h
  have H := Lib.hid h
  have HC := Lib.hid hc
  have c3 := h.box.c3
  have hbl := h.box.lt
  have hcnt := hG.cnt
  obtain ⟨fa, fc, rfl⟩ : ∃ fa fc, fv = .slice fa F.files.length fc := own_slice h.own
  obtain ⟨q, hq⟩ : ∃ q, q = F.files.length := ⟨_, rfl⟩
  have HQ := Lib.hid hq
  rw [← hq] at c3 hcnt ⊢
  clear hc hG h hq
  go_enter Try.func45, Try.ntmps45
  go_wp2_with fail
  go_loopw [15, 5, 7] (fun i out _ wr => ∃ k : Nat, k ≤ q ∧ i = .int .i64 (k : Nat) ∧ Hid (wr.ownsRow w.heap.size 3 1 out k ((F.files.take k).map fun x => Value.int .i64 (f x))) ∧ Below w.heap.size w wr) (fun i _ _ _ => q - (intOf i).toNat)
  case atStart => exact ⟨0, Nat.zero_le _, rfl, Lib.hid (World.ownsRow_nil _ _ _ _), Below.refl _ _⟩
  case round =>
    obtain ⟨k, hkq, rfl, hown, hbel⟩ := hrel
    by_cases hlt : k < q
    · obtain ⟨x, hx⟩ := get_of_lt F.files k (by rw [← HQ.out]; exact hlt)
      obtain ⟨g1, cap, he, h1, h2, hg1, hcell, hfr⟩ := own_files (H.out.below hbel).own (by intro e; rw [e] at hx; simp at hx)
      injection he with e1 e2 e3
      subst e1 e3
      clear e2 hfr
      obtain ⟨d0, d1, d2⟩ := hcell k x hx
      have C1 := fun w1 => Lib.hid (HC.out x (List.mem_of_getElem? hx) w1)
      have hts : (F.files.take (k + 1)).map (fun x => Value.int .i64 (f x)) = (F.files.take k).map (fun x => Value.int .i64 (f x)) ++ [Value.int .i64 (f x)] := by
        rw [List.take_add_one, hx, List.map_append]; rfl
      obtain ⟨z, hz⟩ : ∃ z, z = f x := ⟨_, rfl⟩
      rw [← hz] at hts
      simp only [← hz] at C1
      have HTS := Lib.hid hts
      clear hcell hx hts hz
      go_wp2_with fail
      (with_reducible refine (C1 _).out.mono ?_); rintro e w4 ⟨rfl, hb4⟩
      have hown4 := Lib.hid (own_below (hown.out.alloc (.cells #[.string x.name, .string x.pl, .string x.air] 82)) hb4)
      have hb5 : Below w.heap.size w w4 := (hbel.alloc hbel.size _).trans (hb4.mono (by rw [size_alloc]; have := hbel.size; omega))
      have hB2 : w.heap.size ≤ (w4.alloc (.cells #[.int .i64 z] 3)).heap.size := by rw [size_alloc]; have := hb5.size; omega
      go_wp2_with (at_builtin; refine wpList_append_one rfl (.tmp 19) (.tmp 23) 33 rfl 3 (.int .i64 0) 8 (by kernel_rfl) (by kernel_rfl) rfl w.heap.size u5 k _ (by simp [Act.eval]) (hown4.out.alloc _) w4.heap.size 1 (by simp [Act.eval]) (.int .i64 z) (new_one _ _ _) rfl (by omega) (by decide) hB2 ?_; intro g7 c7 w7 hown7 hgr7 hb7)
      go_roundw
      case rel => exact ⟨k + 1, by omega, by go_num, Lib.hid (by rw [HTS.out]; exact hown7.out), (hb5.alloc hb5.size _).trans hb7⟩
      case measure => simp [intOf]; omega
    · obtain rfl : k = q := by omega
      go_wp2_with fail
      go_ret
      refine ⟨⟨_, rfl, ?_⟩, hbel⟩
      have := hown.out
      rw [List.take_of_length_le (by rw [HQ.out]; exact Nat.le_refl _)] at this
      exact this
set_option maxHeartbeats 4000000 in
set_option maxRecDepth 100000 in
theorem all_string {M : Nat → Prop} {w : World} {b : Nat} {F : FR} (h : FSAt M w b F) (hG : Sound F) (g : Nat) (eg : ∀ args w, (callFunc g args).run Try.prog w = .ok (.enter g args) w) (f : PF → ByteArray)
    (hc : ∀ x ∈ F.files, ∀ w1, Calls Try.prog g #[x.val] w1 fun e w' => e = .returned (.string (f x)) ∧ Below w1.heap.size w1 w') :
    Calls Try.prog 48 #[.pointer (some ⟨b, 0, none⟩), .func (.func g) #[] #[]] w fun e w' => (∃ v, e = .returned v ∧ w'.ownsRow w.heap.size 9 1 v F.files.length (F.files.map fun x => Value.string (f x))) ∧ Below w.heap.size w w' := by
  obtain ⟨fv, kv, h⟩ := h
  have H := Lib.hid h
  have HC := Lib.hid hc
  have c3 := h.box.c3
  have hbl := h.box.lt
  have hcnt := hG.cnt
  obtain ⟨fa, fc, rfl⟩ : ∃ fa fc, fv = .slice fa F.files.length fc := own_slice h.own
  obtain ⟨q, hq⟩ : ∃ q, q = F.files.length := ⟨_, rfl⟩
  have HQ := Lib.hid hq
  rw [← hq] at c3 hcnt ⊢
  clear hc hG h hq
  go_enter Try.func48, Try.ntmps48
  go_wp2_with fail
  go_loopw [15, 5, 7] (fun i out _ wr => ∃ k : Nat, k ≤ q ∧ i = .int .i64 (k : Nat) ∧ Hid (wr.ownsRow w.heap.size 9 1 out k ((F.files.take k).map fun x => Value.string (f x))) ∧ Below w.heap.size w wr) (fun i _ _ _ => q - (intOf i).toNat)
  case atStart => exact ⟨0, Nat.zero_le _, rfl, Lib.hid (World.ownsRow_nil _ _ _ _), Below.refl _ _⟩
  case round =>
    obtain ⟨k, hkq, rfl, hown, hbel⟩ := hrel
    by_cases hlt : k < q
    · obtain ⟨x, hx⟩ := get_of_lt F.files k (by rw [← HQ.out]; exact hlt)
      obtain ⟨g1, cap, he, h1, h2, hg1, hcell, hfr⟩ := own_files (H.out.below hbel).own (by intro e; rw [e] at hx; simp at hx)
      injection he with e1 e2 e3
      subst e1 e3
      clear e2 hfr
      obtain ⟨d0, d1, d2⟩ := hcell k x hx
      have C1 := fun w1 => Lib.hid (HC.out x (List.mem_of_getElem? hx) w1)
      have hts : (F.files.take (k + 1)).map (fun x => Value.string (f x)) = (F.files.take k).map (fun x => Value.string (f x)) ++ [Value.string (f x)] := by
        rw [List.take_add_one, hx, List.map_append]; rfl
      obtain ⟨z, hz⟩ : ∃ z, z = f x := ⟨_, rfl⟩
      rw [← hz] at hts
      simp only [← hz] at C1
      have HTS := Lib.hid hts
      clear hcell hx hts hz
      go_wp2_with fail
      (with_reducible refine (C1 _).out.mono ?_); rintro e w4 ⟨rfl, hb4⟩
      have hown4 := Lib.hid (own_below (hown.out.alloc (.cells #[.string x.name, .string x.pl, .string x.air] 82)) hb4)
      have hb5 : Below w.heap.size w w4 := (hbel.alloc hbel.size _).trans (hb4.mono (by rw [size_alloc]; have := hbel.size; omega))
      have hB2 : w.heap.size ≤ (w4.alloc (.cells #[.string z] 9)).heap.size := by rw [size_alloc]; have := hb5.size; omega
      go_wp2_with (at_builtin; refine wpList_append_one rfl (.tmp 19) (.tmp 23) 30 rfl 9 (.string ByteArray.empty) 16 (by kernel_rfl) (by kernel_rfl) rfl w.heap.size u5 k _ (by simp [Act.eval]) (hown4.out.alloc _) w4.heap.size 1 (by simp [Act.eval]) (.string z) (new_one _ _ _) rfl (by omega) (by decide) hB2 ?_; intro g7 c7 w7 hown7 hgr7 hb7)
      go_roundw
      case rel => exact ⟨k + 1, by omega, by go_num, Lib.hid (by rw [HTS.out]; exact hown7.out), (hb5.alloc hb5.size _).trans hb7⟩
      case measure => simp [intOf]; omega
    · obtain rfl : k = q := by omega
      go_wp2_with fail
      go_ret
      refine ⟨⟨_, rfl, ?_⟩, hbel⟩
      have := hown.out
      rw [List.take_of_length_le (by rw [HQ.out]; exact Nat.le_refl _)] at this
      exact this
end Go.Proofs.Ytmoaecicibjmnaa
