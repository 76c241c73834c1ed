/- FilesTell: what its walk needs. -/
import Derived.Test.YtmoaecicibjmnaaRK
import Derived.Test.YtmoaecicibjmnaaKJ
import Derived.Deep.DeepAppendRoom
namespace Go.Proofs.Ytmoaecicibjmnaa
open Go.RowKit

theorem setX_keep (F : FR) (n : ByteArray) (f : PF → PF) : (setX F n f).keep = F.keep := by unfold setX; split <;> rfl
theorem doneF_keep {F F2 : FR} (h : F2.keep = F.keep) : (doneF F F2).keep = F.keep := by
  unfold doneF; split; rfl; split <;> exact h
theorem with_keep (F : FR) (d : DoR) : (withF F d).keep = F.keep ∨ (withF F d).keep = d.K := by
  unfold withF
  split
  · left; unfold syncF; split; exact doneF_keep (setX_keep _ _ _); rfl
  · left; unfold syncF; split; exact doneF_keep (setX_keep _ _ _); rfl
  · left; unfold cutF; split; exact doneF_keep (setX_keep _ _ _); rfl
  · left; unfold renameF; split; exact doneF_keep rfl; rfl
  · left; unfold removeF; split; exact doneF_keep rfl; rfl
  · left; unfold crashG; split <;> rfl
  · left; unfold startF; split <;> rfl
  · left; unfold startF; split <;> rfl
  · unfold failF; split; exact .inl rfl; exact .inr rfl
  · left; unfold appF; split
    · rfl
    · have hx : (appX F d.A d.S).keep = F.keep := (appX_left F d.A d.S).2.2.2.2
      unfold doneA; split; exact hx; split <;> exact hx
theorem grown_refl (w : World) (g : Nat) : w.grownBy w (some g) := ⟨rfl, rfl, rfl, Nat.le_refl _, fun _ _ _ => rfl⟩
set_option maxRecDepth 100000 in
set_option maxHeartbeats 2000000 in
/-- append of numbers to a row of the call's own that has room, as a step of a region that draws. -/
theorem step_append_ints {P : Nat → Prop} {ops : Array Oper} {o : Oper} {a : Act} {w : World} {K : Act → World → Prop} {Q : Exit → Act → World → Prop} {E : Prop}
    (hgd : o.guard = none) (s x : Operand) (hop : o.op = Op.call { callee := Callee.builtin Builtin.append, args := #[s, x], argTypes := #[33, 33] })
    (B g n cap : Nat) (xs : List Value) (hs : a.eval s = .slice (some ⟨g, 0, none⟩) n cap) (hown : w.ownsRow B 3 1 (.slice (some ⟨g, 0, none⟩) n cap) n xs)
    (av : Option Addr) (l : List Int) (c m : Nat) (hx : a.eval x = .slice av m c) (hm : l.length = m) (hl : IntsIn P w (.slice av m c) l) (r : Nat) (hr : n + m = r) (hroom : r ≤ cap)
    (hK : ∀ w', Hid (w'.ownsRow B 3 1 (.slice (some ⟨g, 0, none⟩) r cap) r (xs ++ intVs l)) → w.grownBy w' (some g) → K (a.put o.dst (.slice (some ⟨g, 0, none⟩) r cap)) w') :
    if Region.wanted o (yielded ops a.tmps) = true then Oper.wp Try.prog o a w K Q else E := by
  have hw : Region.wanted o (yielded ops a.tmps) = true := by simp [Region.wanted, hgd]
  rw [if_pos hw]
  subst hr
  subst hm
  obtain ⟨a', c', hv, hc⟩ := hl
  injection hv with e1 e2 e3
  subst e1 e3
  cases av with
  | none =>
    have h0 : l = [] := by
      by_cases hne : l = []
      · exact hne
      · obtain ⟨_, _, h1, _⟩ := hc hne; cases h1
    subst h0
    have hrun : (Builtin.append_ #[33, 33] o.type #[.slice (some ⟨g, 0, none⟩) n cap, .slice none 0 c]).run Try.prog w = .ok (.slice (some ⟨g, 0, none⟩) n cap) w := by
      have hnc : n ≤ cap := by simpa using hroom
      simp [Builtin.append_, go_sem, hnc]
    have h2 := hK w (by simpa [intVs] using Lib.hid hown) (grown_refl w g)
    unfold Oper.wp execOp
    simp only [List.length_nil] at hx h2
    simp only [hop, resolve, invoke, builtin, Sem.run_bind, Sem.run_pure, Result.andThen_ok, List.map_toArray, List.map_cons, List.map_nil, hs, hx, hrun]
    exact h2
  | some ad =>
    obtain ⟨i0, hi0, hz⟩ := Option.map_eq_some_iff.1 (show (Try.prog.info? 3).map (fun i => (i.zero, i.size, i.bytes)) = some (some (.int .i64 0), 1, 8) by kernel_rfl)
    simp only [Prod.mk.injEq] at hz
    obtain ⟨hz1, hz2, hz3⟩ := hz
    refine wp_append_own_spare w s x 33 hop B 3 i0 1 (by kernel_rfl) hi0 hz2 g n cap xs hs hown ad l.length c (intVs l) hx (by rw [intVs, List.length_map, Nat.mul_one]) ?_ (intVs_one l) hroom ?_
    · intro j u hj
      have hjl : j < l.length := by have := (List.getElem?_eq_some_iff.1 hj).1; rwa [intVs, List.length_map] at this
      obtain ⟨kb, ko, he, hlt, _, hcell⟩ := hc (by intro e; rw [e] at hjl; simp at hjl)
      injection he with he
      subst he
      rw [add_plain, hcell j hjl]
      simp [intVs, hjl] at hj
      simp [hjl, hj]
    · intro w' h2 h3
      exact hK w' (Lib.hid h2) h3
/-- The row of numbers with one more behind them. -/
theorem row99 {B g p : Nat} {w : World} {l : List Int} (h : w.ownsRow B 3 1 (.slice (some ⟨g, 0, none⟩) (p + 1) (p + 1)) (p + 1) (([] ++ intVs l) ++ intVs [99])) (hl : l.length = p) :
    ∃ cur, w.heap[g]? = some (.cells cur 3 (0, 0)) ∧ cur.size = p + 1 ∧ IntsIn (fun k => k = g) w (.slice (some ⟨g, 0, none⟩) p (p + 1)) l ∧ w.cell? ⟨g, p, none⟩ = some (.int .i64 99) := by
  subst hl
  rcases h.2 with ⟨h0, _⟩ | ⟨g', cap, cur, hv, _, hg, _, _, hcs, ht⟩
  · cases h0
  · cases hv
    have hc : cur.toList = intVs l ++ intVs [99] := by
      rw [List.take_of_length_le (by rw [Array.length_toList]; omega)] at ht
      simpa using ht
    have hj : ∀ j, w.cell? ⟨g, j, none⟩ = (intVs l ++ intVs [99])[j]? := fun j => by rw [cell_at hg j, ← Array.getElem?_toList, hc]
    refine ⟨cur, hg, by omega, ⟨_, _, rfl, fun _ => ⟨g, 0, rfl, (Array.getElem?_eq_some_iff.1 hg).1, rfl, fun j hjl => ?_⟩⟩, ?_⟩
    · rw [hj, Nat.zero_add, List.getElem?_append_left (by rw [intVs, List.length_map]; exact hjl)]
      simp [intVs, hjl]
    · rw [hj, List.getElem?_append_right (by rw [intVs, List.length_map]; exact Nat.le_refl _)]
      simp [intVs]
set_option maxRecDepth 100000 in
/-- make of a row of numbers. -/
theorem make_ints (w : World) (p : Nat) (hp : p ≤ 1000) : ∃ w', (Instr.makeSlice 33 (.int .i64 0) (.int .i64 ((p : Int) + 1))).run Try.prog w = .ok (.slice (some ⟨w.heap.size, 0, none⟩) 0 (p + 1)) w' ∧
    Hid (w'.ownsRow w.heap.size 3 1 (.slice (some ⟨w.heap.size, 0, none⟩) 0 (p + 1)) 0 []) ∧ Below w.heap.size w w' := by
  obtain ⟨i0, hi0, hz⟩ := Option.map_eq_some_iff.1 (show (Try.prog.info? 3).map (fun i => (i.zero, i.size, i.bytes)) = some (some (.int .i64 0), 1, 8) by kernel_rfl)
  simp only [Prod.mk.injEq] at hz
  obtain ⟨hz1, hz2, hz3⟩ := hz
  obtain ⟨w', h1, h2, h3⟩ := run_make_own (P := Try.prog) w w.heap.size 33 3 i0 _ 1 (by kernel_rfl) hi0 hz1 hz2 .i64 .i64 (p + 1) (by rw [hz3]; omega) (by unfold maxLen; omega) (Nat.le_refl _)
  exact ⟨w', h1, Lib.hid h2, (Below.refl _ _).grown h3 (Nat.le_refl _) fun k hk => by cases hk⟩
theorem ints_99 (w : World) (t : TypeId) : IntsIn (fun k => k = w.heap.size) (w.alloc (.cells #[.int .i64 99] t)) (.slice (some ⟨w.heap.size, 0, none⟩) 1 1) [99] :=
  ⟨_, 1, rfl, fun _ => ⟨_, 0, rfl, by rw [size_alloc]; exact Nat.lt_succ_self _, rfl, fun j hj => by
    have hj : j < 1 := hj
    obtain rfl : j = 0 := by omega
    rw [cell_at (by rw [heap_alloc, if_pos rfl])]
    rfl⟩⟩
end Go.Proofs.Ytmoaecicibjmnaa
