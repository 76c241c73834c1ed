/- (*FS).Append. -/
import Derived.Test.YtmoaecicibjmnaaFV
import Derived.Test.YtmoaecicibjmnaaHQ
import Derived.Shelf.Abstract
namespace Go.Proofs.Ytmoaecicibjmnaa
open Go.RowKit

/-- Three new blocks of one cell. -/
theorem three_new (w : World) (v u z : Value) (t s r : TypeId) : ∃ W, ((w.alloc (.cells #[v] t)).alloc (.cells #[u] s)).alloc (.cells #[z] r) = W ∧ Below w.heap.size w W ∧ W.heap.size = w.heap.size + 3 ∧ W.cell? ⟨w.heap.size, 0, none⟩ = some v ∧ W.cell? ⟨w.heap.size + 1, 0, none⟩ = some u ∧ W.cell? ⟨w.heap.size + 1 + 1, 0, none⟩ = some z := by
  have h1 : (((w.alloc (.cells #[v] t)).alloc (.cells #[u] s)).alloc (.cells #[z] r)).heap[w.heap.size]? = some (.cells #[v] t (0, 0)) := by rw [heap_alloc, if_neg (by simp only [size_alloc]; omega), heap_alloc, if_neg (by simp only [size_alloc]; omega), heap_alloc, if_pos rfl]
  have h2 : (((w.alloc (.cells #[v] t)).alloc (.cells #[u] s)).alloc (.cells #[z] r)).heap[w.heap.size + 1]? = some (.cells #[u] s (0, 0)) := by rw [heap_alloc, if_neg (by simp only [size_alloc]; omega), heap_alloc, if_pos (by simp only [size_alloc])]
  have h3 : (((w.alloc (.cells #[v] t)).alloc (.cells #[u] s)).alloc (.cells #[z] r)).heap[w.heap.size + 1 + 1]? = some (.cells #[z] r (0, 0)) := by rw [heap_alloc, if_pos (by simp only [size_alloc])]
  exact ⟨_, rfl, (((Below.refl _ _).alloc (Nat.le_refl _) _).alloc (by rw [size_alloc]; omega) _).alloc (by rw [size_alloc, size_alloc]; omega) _, by simp only [size_alloc], cell_at h1 0, cell_at h2 0, cell_at h3 0⟩
/-- There is no room for so much more. -/
def fullB (F : FR) (n s : ByteArray) : Bool := (!isAt F.files n && decide (F.files.length = 32)) || decide (F.limit - (total F.files : Int) < (s.size : Int))
def appE (F : FR) (n s : ByteArray) : Int := if F.off = true then 51 else if namedB n = false then 2 else if fullB F n s = true then 50 else if F.left = 0 then 51 else 0
def appF (F : FR) (n s : ByteArray) : FR := if F.off = true ∨ namedB n = false ∨ fullB F n s = true then F else doneA (appX F n s)
set_option maxHeartbeats 4000000 in
set_option maxRecDepth 100000 in
theorem append_any {M : Nat → Prop} {b : Nat} {F : FR} (w : World) (h : FSAt M w b F) (hG : Sound F) (n s : ByteArray) (hsz : s.size ≤ 9223372036854775807) :
    Calls Try.prog 23 #[.pointer (some ⟨b, 0, none⟩), .string n, .string s] w fun e w' => e = .returned (.int .i64 (appE F n s)) ∧ Turned M w w' b (appF F n s) := by
  have hmf : ∀ (fn : Fn) (first cap : Array Value) (w : World), (Instr.makeFunc fn first cap).run Try.prog w = .ok (.func fn first cap) w := fun _ _ _ _ => rfl
  have H := Lib.hid h
  have HG := Lib.hid hG
  obtain ⟨R, hR⟩ : ∃ R, R = appF F n s := ⟨_, rfl⟩
  obtain ⟨E, hE⟩ : ∃ E, E = appE F n s := ⟨_, rfl⟩
  have HR := Lib.hid hR
  have HE := Lib.hid hE
  rw [← hR, ← hE]
  clear h hG hR hE
  go_enter Try.func23, Try.ntmps23
  go_upto_region 1 with fail
  obtain ⟨W, hW, hbW, hsW, x3, x4, x5⟩ := three_new w (.pointer (some ⟨b, 0, none⟩)) (.string n) (.string s) 25 9 9
  rw [hW]
  clear hW
  have C1 := Lib.hid (on_any (H.out.below hbW) HG.out.lim)
  unfold onE at C1
  by_cases ho : F.off = true
  · rw [if_pos ho] at C1
    have HE2 : Hid (E = 51) := Lib.hid (by rw [HE.out, appE, if_pos ho])
    have HR2 : Hid (R = F) := Lib.hid (by rw [HR.out, appF, if_pos (.inl ho)])
    clear ho
    go_wp2_with fail
    (with_reducible refine C1.out.mono ?_); rintro e w2 ⟨rfl, rfl⟩
    go_wp2_with fail
    go_ret
    exact ⟨by rw [HE2.out]; rfl, by rw [HR2.out]; exact Turned.below H.out hbW⟩
  · rw [if_neg ho] at C1
    have HO := Lib.hid ho
    have C2 := fun w1 => Lib.hid (named_any n w1)
    by_cases hnm : namedB n = true
    · rw [hnm] at C2
      have HNM := Lib.hid hnm
      clear hnm ho
      go_wp2_with fail
      (with_reducible refine C1.out.mono ?_); rintro e w2 ⟨rfl, rfl⟩
      go_wp2_with fail
      (with_reducible refine (C2 _).out.mono ?_); rintro e w2' ⟨rfl, rfl⟩
      have C3 := Lib.hid (at_any (H.out.below hbW) HG.out n)
      go_wp2_with fail
      (with_reducible refine C3.out.mono ?_); rintro e w3 ⟨rfl, hb3⟩
      go_upto_region 7 with fail
      obtain ⟨W2, hW2, hbW2, hsW2, y8, y9⟩ := two_new w3 (.int .i64 (place F.files n : Nat)) (.bool (isAt F.files n)) 3 4
      rw [hW2]
      clear hW2 C1 C2 C3
      have hB := below_tr (below_tr hbW hb3) hbW2
      have z3 := cell_later hbW2 (cell_later hb3 x3)
      have z4 := cell_later hbW2 (cell_later hb3 x4)
      have z5 := cell_later hbW2 (cell_later hb3 x5)
      have hc0 := (H.out.below hB)
      obtain ⟨fv, kv, hfi⟩ := hc0
      have c0 := hfi.box.c0
      have c3 := hfi.box.c3
      have hbl := hfi.box.lt
      have nM : ∀ k, w.heap.size ≤ k → ¬ M k := fun k hk hm => by have := H.out.lt k hm; omega
      obtain ⟨fa, fc, rfl⟩ := own_slice hfi.own
      have hs3 := hb3.size
      have hp1 := fun (p : Ext W2) (o : Nat) => p.cell w.heap.size o (by omega)
      have hp2 := fun (p : Ext W2) (o : Nat) => p.cell (w.heap.size + 1 + 1) o (by omega)
      have hp3 := fun (p : Ext W2) (o : Nat) => p.cell (w3.heap.size + 1) o (by omega)
      have hp4 := fun (p : Ext W2) (o : Nat) => p.cell b o hbl
      have C5 : ∀ w1, Below W2.heap.size W2 w1 → Hid (Calls Try.prog 16 #[.pointer (some ⟨b, 0, none⟩)] w1 fun e w' => e = .returned (.int .i64 (total F.files : Nat)) ∧ Below w1.heap.size w1 w') := fun w1 hb => Lib.hid (size_any ((H.out.below hB).below hb) HG.out)
      obtain ⟨T, hT⟩ : ∃ T, T = total F.files := ⟨_, rfl⟩
      obtain ⟨L, hL⟩ : ∃ L, L = F.limit := ⟨_, rfl⟩
      obtain ⟨q0, hq0⟩ : ∃ q0, q0 = F.files.length := ⟨_, rfl⟩
      obtain ⟨ia, hia⟩ : ∃ ia, ia = isAt F.files n := ⟨_, rfl⟩
      have hT20 : (T : Int) ≤ L := by rw [hT, hL]; exact HG.out.sum
      have hL20 : L ≤ 1048576 := by rw [hL]; exact HG.out.lim2
      have HFB : fullB F n s = ((!ia && decide (q0 = 32)) || decide (L - (T : Int) < (s.size : Int))) := by rw [fullB, ← hia, ← hq0, ← hT, ← hL]
      have HFB' := Lib.hid HFB
      have HSAF : fullB F n s = false → Sound (appX F n s) := fun hf => by
        rw [HFB] at hf
        simp only [Bool.or_eq_false_iff, decide_eq_false_iff_not] at hf
        refine HG.out.app n s HNM.out (fun h0 => ?_) (by omega)
        rw [← hia] at h0
        rw [h0] at hf
        have := hf.1
        simp at this
        rw [← hq0]; exact this
      have HSAF' := Lib.hid HSAF
      have HIA := Lib.hid hia
      rw [← hq0] at c3
      rw [← hL] at c0
      rw [← hia] at y9
      simp only [← hT] at C5
      clear HFB HSAF hia hq0 hL hT hfi
      cases ia with
      | true =>
        have HI : Hid (isAt F.files n = true) := Lib.hid (HIA.out.symm)
        by_cases hfu : L - (T : Int) < (s.size : Int)
        · have HFU : Hid (fullB F n s = true) := Lib.hid (by rw [HFB'.out]; simp [hfu])
          have HE2 : Hid (E = 50) := Lib.hid (by rw [HE.out, appE, if_neg HO.out, if_neg (by rw [HNM.out]; decide), if_pos HFU.out])
          have HR2 : Hid (R = F) := Lib.hid (by rw [HR.out, appF, if_pos (.inr (.inr HFU.out))])
          have hd : decide (L - (T : Int) < (s.size : Int)) = true := by simp [hfu]
          refine wp_region_class (by kernel_rfl) (by kernel_rfl) ?_
          repeat (go_big_quiet_step (first | (go_at_call 16; with_reducible exact Calls.ext (C5 _ (Subtype.property _)).out)))
          refine wpQuiet_nil ?_
          intro _ hw'
          obtain ⟨q, hw''⟩ := hw'
          subst hw''
          go_wp2_with fail
          go_ret
          exact ⟨by rw [HE2.out]; rfl, by rw [HR2.out]; exact Turned.below H.out (below_tr hB q.2)⟩
        · have HFU0 : fullB F n s = false := by rw [HFB'.out]; simp; omega
          have HFU : Hid (¬ fullB F n s = true) := Lib.hid (by rw [HFU0]; decide)
          have HSA := Lib.hid (HSAF'.out HFU0)
          clear HFU0
          have hs20 : s.size ≤ 1048576 := by omega
          have HE2 : Hid (E = (if F.left = 0 then 51 else 0)) := Lib.hid (by rw [HE.out, appE, if_neg HO.out, if_neg (by rw [HNM.out]; decide), if_neg HFU.out])
          have HR2 : Hid (R = doneA (appX F n s)) := Lib.hid (by rw [HR.out, appF, if_neg (by rintro (h | h | h); exact HO.out h; rw [HNM.out] at h; cases h; exact HFU.out h)])
          have hd : decide (L - (T : Int) < (s.size : Int)) = false := by simp; omega
          refine wp_region_class (by kernel_rfl) (by kernel_rfl) ?_
          repeat (go_big_quiet_step (first | (go_at_call 16; with_reducible exact Calls.ext (C5 _ (Subtype.property _)).out)))
          refine wpQuiet_nil ?_
          intro _ hw'
          obtain ⟨q, hw''⟩ := hw'
          subst hw''
          have hq2 := q.2
          have hB3 := below_tr hB hq2
          have u3 := cell_later hq2 z3
          have u4 := cell_later hq2 z4
          have u5 := cell_later hq2 z5
          have u8 := cell_later hq2 y8
          have u9 := cell_later hq2 y9
          have hst : ∀ w1, Below q.1.heap.size q.1 w1 → Calls Try.prog 57 #[.pointer (some ⟨w3.heap.size + 1, 0, none⟩), .pointer (some ⟨w.heap.size, 0, none⟩), .pointer (some ⟨w3.heap.size, 0, none⟩), .pointer (some ⟨w.heap.size + 1, 0, none⟩), .pointer (some ⟨w.heap.size + 1 + 1, 0, none⟩)] w1 fun e w' => e = .returned (.tuple #[]) ∧ Turned M w1 w' b (appX F n s) := fun w1 hb1 => by
            obtain ⟨x, hx, _⟩ := isAt_get HI.out
            have e : appX F n s = putF F (place F.files n) (addX x s) := by unfold appX; rw [if_pos HI.out, setX, hx]
            rw [e]
            have hxs := HG.out.size (List.mem_of_getElem? hx)
            exact append1_old w1 ((H.out.below hB3).below hb1) s hx (by omega) (by have := place_le F.files n; have := HG.out.cnt; omega) (cell_later hb1 u9) (cell_later hb1 u3) (cell_later hb1 u8) (cell_later hb1 u5)
          have C6 := do_first (M := M) q.1 (H.out.below hB3) 57 #[.pointer (some ⟨w3.heap.size + 1, 0, none⟩), .pointer (some ⟨w.heap.size, 0, none⟩), .pointer (some ⟨w3.heap.size, 0, none⟩), .pointer (some ⟨w.heap.size + 1, 0, none⟩), .pointer (some ⟨w.heap.size + 1 + 1, 0, none⟩)] (enters_of Try.func57 (by kernel_rfl) rfl) (appX F n s) (appX_left F n s).1 HSA.out (by rw [(appX_left F n s).2.1]; cases e : F.off; rfl; exact absurd e HO.out) hst
          rw [(appX_left F n s).1, ← HE2.out, ← HR2.out] at C6
          have C7 := Lib.hid C6
          clear C6 hst
          go_wp2_with fail
          (with_reducible refine C7.out.mono ?_); rintro e w6 ⟨rfl, ht6⟩
          have HT := Lib.hid ht6
          clear ht6
          go_wp2_with fail
          go_ret
          exact ⟨rfl, Turned.trans (fun k hk => .inl hk) (Out.of_below hB3) HT.out⟩
      | false =>
        have HI : Hid (isAt F.files n = false) := Lib.hid (HIA.out.symm)
        by_cases hq32 : q0 = 32
        · have HFU : Hid (fullB F n s = true) := Lib.hid (by rw [HFB'.out]; simp [hq32])
          have HE2 : Hid (E = 50) := Lib.hid (by rw [HE.out, appE, if_neg HO.out, if_neg (by rw [HNM.out]; decide), if_pos HFU.out])
          have HR2 : Hid (R = F) := Lib.hid (by rw [HR.out, appF, if_pos (.inr (.inr HFU.out))])
          have hd2 : ((q0 : Int) == 32) = true := by simp; omega
          clear hq32
          refine wp_region_class (by kernel_rfl) (by kernel_rfl) ?_
          repeat (go_big_quiet_step (first | (go_at_call 16; with_reducible exact Calls.ext (C5 _ (Subtype.property _)).out)))
          refine wpQuiet_nil ?_
          intro _ hw'
          obtain ⟨q, hw''⟩ := hw'
          subst hw''
          go_wp2_with fail
          go_ret
          exact ⟨by rw [HE2.out]; rfl, by rw [HR2.out]; exact Turned.below H.out (below_tr hB q.2)⟩
        · have hd2 : ((q0 : Int) == 32) = false := by simp; omega
          by_cases hfu : L - (T : Int) < (s.size : Int)
          · have HFU : Hid (fullB F n s = true) := Lib.hid (by rw [HFB'.out]; simp [hfu])
            have HE2 : Hid (E = 50) := Lib.hid (by rw [HE.out, appE, if_neg HO.out, if_neg (by rw [HNM.out]; decide), if_pos HFU.out])
            have HR2 : Hid (R = F) := Lib.hid (by rw [HR.out, appF, if_pos (.inr (.inr HFU.out))])
            have hd : decide (L - (T : Int) < (s.size : Int)) = true := by simp [hfu]
            refine wp_region_class (by kernel_rfl) (by kernel_rfl) ?_
            repeat (go_big_quiet_step (first | (go_at_call 16; with_reducible exact Calls.ext (C5 _ (Subtype.property _)).out)))
            refine wpQuiet_nil ?_
            intro _ hw'
            obtain ⟨q, hw''⟩ := hw'
            subst hw''
            go_wp2_with fail
            go_ret
            exact ⟨by rw [HE2.out]; rfl, by rw [HR2.out]; exact Turned.below H.out (below_tr hB q.2)⟩
          · have HFU0 : fullB F n s = false := by rw [HFB'.out]; simp [hq32]; omega
            have HFU : Hid (¬ fullB F n s = true) := Lib.hid (by rw [HFU0]; decide)
            have HSA := Lib.hid (HSAF'.out HFU0)
            clear HFU0
            have hs20 : s.size ≤ 1048576 := by omega
            have HE2 : Hid (E = (if F.left = 0 then 51 else 0)) := Lib.hid (by rw [HE.out, appE, if_neg HO.out, if_neg (by rw [HNM.out]; decide), if_neg HFU.out])
            have HR2 : Hid (R = doneA (appX F n s)) := Lib.hid (by rw [HR.out, appF, if_neg (by rintro (h | h | h); exact HO.out h; rw [HNM.out] at h; cases h; exact HFU.out h)])
            have hd : decide (L - (T : Int) < (s.size : Int)) = false := by simp; omega
            refine wp_region_class (by kernel_rfl) (by kernel_rfl) ?_
            repeat (go_big_quiet_step (first | (go_at_call 16; with_reducible exact Calls.ext (C5 _ (Subtype.property _)).out)))
            refine wpQuiet_nil ?_
            intro _ hw'
            obtain ⟨q, hw''⟩ := hw'
            subst hw''
            have hq2 := q.2
            have hB3 := below_tr hB hq2
            have u3 := cell_later hq2 z3
            have u4 := cell_later hq2 z4
            have u5 := cell_later hq2 z5
            have u8 := cell_later hq2 y8
            have u9 := cell_later hq2 y9
            have hst : ∀ w1, Below q.1.heap.size q.1 w1 → Calls Try.prog 57 #[.pointer (some ⟨w3.heap.size + 1, 0, none⟩), .pointer (some ⟨w.heap.size, 0, none⟩), .pointer (some ⟨w3.heap.size, 0, none⟩), .pointer (some ⟨w.heap.size + 1, 0, none⟩), .pointer (some ⟨w.heap.size + 1 + 1, 0, none⟩)] w1 fun e w' => e = .returned (.tuple #[]) ∧ Turned M w1 w' b (appX F n s) := fun w1 hb1 => by
              have e : appX F n s = putF (insF F (place F.files n) (noX n)) (place F.files n) (addX (noX n) s) := by unfold appX; rw [if_neg (by rw [HI.out]; decide)]
              rw [e]
              exact append1_new w1 ((H.out.below hB3).below hb1) n s hs20 (place_le _ _) (by have := HG.out.cnt; omega) (cell_later hb1 u9) (cell_later hb1 u3) (cell_later hb1 u8) (cell_later hb1 u4) (cell_later hb1 u5) (nM _ (Nat.le_refl _)) (nM _ (by omega)) (nM _ (by omega)) (nM _ (by omega))
            have C6 := do_first (M := M) q.1 (H.out.below hB3) 57 #[.pointer (some ⟨w3.heap.size + 1, 0, none⟩), .pointer (some ⟨w.heap.size, 0, none⟩), .pointer (some ⟨w3.heap.size, 0, none⟩), .pointer (some ⟨w.heap.size + 1, 0, none⟩), .pointer (some ⟨w.heap.size + 1 + 1, 0, none⟩)] (enters_of Try.func57 (by kernel_rfl) rfl) (appX F n s) (appX_left F n s).1 HSA.out (by rw [(appX_left F n s).2.1]; cases e : F.off; rfl; exact absurd e HO.out) hst
            rw [(appX_left F n s).1, ← HE2.out, ← HR2.out] at C6
            have C7 := Lib.hid C6
            clear C6 hst
            go_wp2_with fail
            (with_reducible refine C7.out.mono ?_); rintro e w6 ⟨rfl, ht6⟩
            have HT := Lib.hid ht6
            clear ht6
            go_wp2_with fail
            go_ret
            exact ⟨rfl, Turned.trans (fun k hk => .inl hk) (Out.of_below hB3) HT.out⟩
    · have hnf : namedB n = false := by cases e : namedB n; rfl; exact absurd e hnm
      rw [hnf] at C2
      have HE2 : Hid (E = 2) := Lib.hid (by rw [HE.out, appE, if_neg HO.out, if_pos hnf])
      have HR2 : Hid (R = F) := Lib.hid (by rw [HR.out, appF, if_pos (.inr (.inl hnf))])
      clear hnm hnf ho
      go_wp2_with fail
      (with_reducible refine C1.out.mono ?_); rintro e w2 ⟨rfl, rfl⟩
      go_wp2_with fail
      (with_reducible refine (C2 _).out.mono ?_); rintro e w2' ⟨rfl, rfl⟩
      go_wp2_with fail
      go_ret
      exact ⟨by rw [HE2.out]; rfl, by rw [HR2.out]; exact Turned.below H.out hbW⟩
end Go.Proofs.Ytmoaecicibjmnaa
