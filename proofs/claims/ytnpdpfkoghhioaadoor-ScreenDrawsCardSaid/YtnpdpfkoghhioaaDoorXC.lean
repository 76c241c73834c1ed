/- Rows that a call appends to a list of rows: plain lemmas on worlds, no function of the program. -/
import Derived.Test.YtnpdpfkoghhioaaDoorXB
namespace Go.Proofs.YtnpdpfkoghhioaaDoor
open Go.RowKit

/-- A slice of texts. -/
def TextsAt (w : World) (v : Value) (T : List ByteArray) : Prop :=
  ∃ a c, v = .slice a T.length c ∧ (T ≠ [] → ∃ b o, a = some ⟨b, o, none⟩ ∧ b < w.heap.size ∧ ∀ j, (h : j < T.length) → w.cell? ⟨b, o + j, none⟩ = some (.string T[j]))


/-- append of one cell to a row of the call's own. -/
theorem wpList_append_one {P : Program} {w : World} {ops : Array Oper} {rest : List Oper} {o : Oper} {a : Act} {Q : Exit → Act → World → Prop} (hg : o.guard = none) (s x : Operand) (t : TypeId)
    (hop : o.op = Op.call { callee := Callee.builtin Builtin.append, args := #[s, x], argTypes := #[t, t] })
    (e : TypeId) (z : Value) (bytes : Nat) (ht : P.underlying t = some (.slice e)) (hinfo : (P.info? e).map (fun i => (i.zero, i.size, i.bytes)) = some (some z, 1, bytes)) (hz : z.cells.size = 1)
    (B : Nat) (v : Value) (n : Nat) (xs : List Value) (hs : a.eval s = v) (hown : w.ownsRow B e 1 v n xs)
    (nb c : Nat) (hx : a.eval x = .slice (some ⟨nb, 0, none⟩) 1 c) (u : Value) (hu : w.cell? ⟨nb, 0, none⟩ = some u) (h1 : u.oneCell' = true)
    (hn : n < 1000000) (hby : bytes ≤ 1000) (hB : B ≤ w.heap.size)
    (hK : ∀ g c w', Hid (w'.ownsRow B e 1 (.slice (some ⟨g, 0, none⟩) (n + 1) c) (n + 1) (xs ++ [u])) → Hid (w.grownBy w' v.ownBlock) → Below B w w' → wpList P ops Q rest (a.put o.dst (.slice (some ⟨g, 0, none⟩) (n + 1) c)) w') :
    wpList P ops Q (o :: rest) a w := by
  obtain ⟨i, hi, hzz⟩ := Option.map_eq_some_iff.1 hinfo
  simp only [Prod.mk.injEq] at hzz
  obtain ⟨hz1, hs1, hb1⟩ := hzz
  refine wpList_append_own w hg s x t hop B e i z 1 bytes ht hi hz1 hs1 hb1 hz (by decide) v n xs hs hown ⟨nb, 0, none⟩ 1 c [u] hx rfl
    (fun j u' hj => by cases j with | zero => simp at hj; rw [← hj]; exact hu | succ j => simp at hj) (fun u' hu' => by simp at hu'; rw [hu']; exact h1) (by unfold maxLen; omega) (by have : (n + 1) * bytes ≤ 1000000 * 1000 := Nat.mul_le_mul (by omega) hby; omega) hB ?_
  intro v' w' r1 r2 _
  have hbel : Below B w w' := (Below.refl B w).grown r2 hB fun k hk => (hown.lt k hk).1
  rcases r1.2 with ⟨_, h0⟩ | ⟨g, c', cur, hv, h⟩
  · omega
  · subst hv
    exact hK g c' w' r1 r2 hbel

/-- A list of rows that the call has built: the header v, row j alone in its block rb j. -/
structure Built (B : Nat) (w : World) (v : Value) (L : List (List UInt8)) (rb rc : Nat → Nat) : Prop where
  head : w.ownsRow B 44 1 v L.length ((List.range L.length).map fun j => .slice (some ⟨rb j, 0, none⟩) (L[j]?.getD []).length (rc j))
  row : ∀ j, j < L.length → ∃ cur : List Value, w.heap[rb j]? = some (.cells cur.toArray 5 (0, 0)) ∧ ∀ k, k < (L[j]?.getD []).length → cur[k]? = some (.int .u8 (((L[j]?.getD [])[k]?.getD 0).toNat : Int))
  low : ∀ j, j < L.length → B ≤ rb j
  inj : ∀ i j, i < L.length → j < L.length → i ≠ j → rb i ≠ rb j

theorem Built.nil (B : Nat) (w : World) : Built B w (.slice none 0 0) [] (fun _ => 0) (fun _ => 0) :=
  ⟨World.ownsRow_nil _ _ _ _, fun _ hj => absurd hj (Nat.not_lt_zero _), fun _ hj => absurd hj (Nat.not_lt_zero _), fun _ _ hi => absurd hi (Nat.not_lt_zero _)⟩
theorem Built.lt {B : Nat} {w : World} {v : Value} {L : List (List UInt8)} {rb rc : Nat → Nat} (h : Built B w v L rb rc) (j : Nat) (hj : j < L.length) : rb j < w.heap.size := by
  obtain ⟨cur, hc, _⟩ := h.row j hj
  exact (Array.getElem?_eq_some_iff.1 hc).1
theorem ownsRow_later {w w' : World} {B : Nat} {e : TypeId} {sz : Nat} {v : Value} {n : Nat} {xs : List Value} (h : w.ownsRow B e sz v n xs) (hb : Below w.heap.size w w') : w'.ownsRow B e sz v n xs := by
  refine ⟨h.1, ?_⟩
  rcases h.2 with h0 | ⟨g, cap, cur, hv, hB, hg, r⟩
  · exact .inl h0
  · exact .inr ⟨g, cap, cur, hv, hB, (hb.block g (Array.getElem?_eq_some_iff.1 hg).1).trans hg, r⟩
theorem Built.later {B : Nat} {w w' : World} {v : Value} {L : List (List UInt8)} {rb rc : Nat → Nat} (h : Built B w v L rb rc) (hb : Below w.heap.size w w') : Built B w' v L rb rc where
  head := ownsRow_later h.head hb
  row j hj := by
    obtain ⟨cur, h1, h2⟩ := h.row j hj
    exact ⟨cur, (hb.block _ (h.lt j hj)).trans h1, h2⟩
  low := h.low
  inj := h.inj
theorem ownBlock_type {w : World} {B : Nat} {e : TypeId} {sz : Nat} {v : Value} {n : Nat} {xs : List Value} (h : w.ownsRow B e sz v n xs) {k : Nat} {t : TypeId} {cs : Array Value} (hk : w.heap[k]? = some (.cells cs t (0, 0))) (hne : e ≠ t) : some k ≠ v.ownBlock := by
  intro hv
  rcases h.2 with ⟨rfl, _⟩ | ⟨g, cap, cur, rfl, _, hg, _⟩
  · simp [Value.ownBlock] at hv
  · simp [Value.ownBlock] at hv
    subst hv
    rw [hk] at hg
    injection hg with hg
    injection hg with _ h2
    exact hne h2.symm
theorem snoc_get (L : List (List UInt8)) (r : List UInt8) (j : Nat) (hj : j < L.length) : (L ++ [r])[j]?.getD [] = L[j]?.getD [] := by rw [List.getElem?_append_left hj]
theorem snoc_last (L : List (List UInt8)) (r : List UInt8) : (L ++ [r])[L.length]?.getD [] = r := by rw [List.getElem?_append_right (Nat.le_refl _)]; simp

theorem Built.snoc {B : Nat} {W W1 W2 : World} {v v' : Value} {L : List (List UInt8)} {rb rc : Nat → Nat} (h : Built B W v L rb rc) (hB : B ≤ W.heap.size) (hbel : Below W.heap.size W W1) (o : Obj)
    (g c : Nat) (cur : List Value) (r : List UInt8) (hg : W1.heap[g]? = some (.cells cur.toArray 5 (0, 0))) (hge : W.heap.size ≤ g) (hcur : ∀ k, k < r.length → cur[k]? = some (.int .u8 ((r[k]?.getD 0).toNat : Int)))
    (hown : W2.ownsRow B 44 1 v' (L.length + 1) (((List.range L.length).map fun j => .slice (some ⟨rb j, 0, none⟩) (L[j]?.getD []).length (rc j)) ++ [.slice (some ⟨g, 0, none⟩) r.length c]))
    (hgr : (W1.alloc o).grownBy W2 v.ownBlock) : Built B W2 v' (L ++ [r]) (fun j => if j = L.length then g else rb j) (fun j => if j = L.length then c else rc j) := by
  have h1 := h.later hbel
  have hlen : (L ++ [r]).length = L.length + 1 := by simp
  have hgl : g < W1.heap.size := (Array.getElem?_eq_some_iff.1 hg).1
  have key : ∀ (k : Nat) (cs : Array Value), W1.heap[k]? = some (Obj.cells cs 5 (0, 0)) → W2.heap[k]? = some (Obj.cells cs 5 (0, 0)) := by
    intro k cs hk
    have hkl : k < W1.heap.size := (Array.getElem?_eq_some_iff.1 hk).1
    have h2 : (W1.alloc o).heap[k]? = some (Obj.cells cs 5 (0, 0)) := by rw [heap_alloc, if_neg (by omega)]; exact hk
    rw [hgr.block k (by rw [size_alloc]; omega) (ownBlock_type (h1.head.alloc o) h2 (by decide))]
    exact h2
  refine ⟨?_, fun j hj => ?_, fun j hj => ?_, fun i j hi hj hne => ?_⟩
  · rw [hlen, List.range_succ, List.map_append]
    have e1 : (List.range L.length).map (fun j => Value.slice (some ⟨if j = L.length then g else rb j, 0, none⟩) ((L ++ [r])[j]?.getD []).length (if j = L.length then c else rc j)) = (List.range L.length).map fun j => .slice (some ⟨rb j, 0, none⟩) (L[j]?.getD []).length (rc j) := by
      refine List.map_congr_left fun j hj => ?_
      have hj := List.mem_range.1 hj
      rw [if_neg (by omega), if_neg (by omega), snoc_get L r j hj]
    rw [e1]
    simp only [List.map_cons, List.map_nil, if_pos, snoc_last]
    exact hown
  · rw [hlen] at hj
    by_cases hjn : j = L.length
    · subst hjn
      simp only [if_pos, snoc_last]
      exact ⟨cur, key _ _ hg, hcur⟩
    · obtain ⟨cu, q1, q2⟩ := h1.row j (by omega)
      simp only [if_neg hjn]
      rw [snoc_get L r j (by omega)]
      exact ⟨cu, key _ _ q1, q2⟩
  · rw [hlen] at hj
    by_cases hjn : j = L.length
    · simp only [if_pos hjn]; omega
    · simp only [if_neg hjn]; exact h.low j (by omega)
  · rw [hlen] at hi hj
    have hl := fun j hj => h.lt j hj
    by_cases hin : i = L.length
    · by_cases hjn : j = L.length
      · omega
      · simp only [if_pos hin, if_neg hjn]
        have := hl j (by omega); omega
    · by_cases hjn : j = L.length
      · simp only [if_neg hin, if_pos hjn]
        have := hl i (by omega); omega
      · simp only [if_neg hin, if_neg hjn]
        exact h.inj i j (by omega) (by omega) hne

theorem Built.own {B : Nat} {w : World} {v : Value} {L : List (List UInt8)} {rb rc : Nat → Nat} (h : Built B w v L rb rc) :
    ∃ ha hc, v = .slice ha L.length hc ∧ (L ≠ [] → ∃ hb rb ro rc, ha = some ⟨hb, 0, none⟩ ∧ OwnRows B w hb rb ro rc L) := by
  rcases h.head.2 with ⟨rfl, h0⟩ | ⟨g, cap, cu, hv, hBg, hgg, hnc, _, hcs, htake⟩
  · exact ⟨none, 0, by rw [h0], fun hne => absurd (List.eq_nil_of_length_eq_zero h0) hne⟩
  · subst hv
    refine ⟨_, _, rfl, fun hne => ⟨g, rb, fun _ => 0, rc, rfl, ?_⟩⟩
    refine { head := fun j hj => ?_, base := hBg, low := h.low, lt := h.lt, off := fun j hj => ?_, cell := fun j hj k hk => ?_, free := fun j hj k hk => ?_, apart := fun i j hi hj hne he => absurd he (h.inj i j hi hj hne) }
    · refine row_cell (cur := cu.toList) (t := 44) (by rw [Array.toArray_toList]; exact hgg) ?_
      have h2 : (cu.toList.take (L.length * 1))[j]? = some (.slice (some ⟨rb j, 0, none⟩) (L[j]?.getD []).length (rc j)) := by rw [htake]; simp [hj]
      rw [List.getElem?_take] at h2
      split at h2
      · exact h2
      · cases h2
    · obtain ⟨cur, q1, _⟩ := h.row j hj
      intro e
      rw [e] at q1
      exact ownBlock_type h.head q1 (by decide) rfl
    · obtain ⟨cur, q1, q2⟩ := h.row j hj
      rw [Nat.zero_add]
      exact row_cell q1 (q2 k hk)
    · obtain ⟨cur, q1, _⟩ := h.row j hj
      simp [World.frozen?, q1]
end Go.Proofs.YtnpdpfkoghhioaaDoor
