/- (*FS).Crash. -/
import Derived.Test.YtmoaecicibjmnaaFE
import Derived.Deep.CutRange
import Derived.BigQuiet
import Derived.Deep.QuietTactic
import Derived.WalkSmall
namespace Go.Proofs.Ytmoaecicibjmnaa
open Go.RowKit

/-- What a crash leaves of a file of whose air so much is kept. -/
def cr (x : PF) (k : Int) : PF := ⟨x.name, x.pl ++ x.air.extract 0 (min k.toNat x.air.size), ByteArray.empty⟩
def keepAt (keep : List Int) (i : Nat) : Int := keep[i]?.getD 0
def crashTo (L : List PF) (keep : List Int) (m : Nat) : List PF := L.mapIdx fun j x => if j < m then cr x (keepAt keep j) else x
def crashL (L : List PF) (keep : List Int) : List PF := crashTo L keep L.length
def crashF (F : FR) (keep : List Int) : FR := { F with off := true, left := -1, files := crashL F.files keep }
theorem crashTo_len (L : List PF) (keep : List Int) (m : Nat) : (crashTo L keep m).length = L.length := by simp [crashTo]
theorem crashTo_zero (L : List PF) (keep : List Int) : crashTo L keep 0 = L := by
  unfold crashTo
  apply List.ext_getElem?
  intro i
  rw [List.getElem?_mapIdx]
  cases L[i]? <;> simp
theorem crashTo_get (L : List PF) (keep : List Int) (m i : Nat) (x : PF) (h : L[i]? = some x) : (crashTo L keep m)[i]? = some (if i < m then cr x (keepAt keep i) else x) := by
  unfold crashTo
  rw [List.getElem?_mapIdx, h]; rfl
theorem crashTo_succ (L : List PF) (keep : List Int) (m : Nat) (x : PF) (h : L[m]? = some x) : (crashTo L keep m).set m (cr x (keepAt keep m)) = crashTo L keep (m + 1) := by
  have hm := (List.getElem?_eq_some_iff.1 h).1
  apply List.ext_getElem?
  intro i
  by_cases e : i = m
  · subst e
    rw [List.getElem?_set_self (by rw [crashTo_len]; exact hm), crashTo_get L keep (i + 1) i x h, if_pos (Nat.lt_succ_self i)]
  · rw [List.getElem?_set_ne (Ne.symm e)]
    unfold crashTo
    rw [List.getElem?_mapIdx, List.getElem?_mapIdx]
    cases L[i]? with
    | none => rfl
    | some y =>
      simp only [Option.map_some]
      by_cases h1 : i < m
      · rw [if_pos h1, if_pos (by omega)]
      · rw [if_neg h1, if_neg (by omega)]

theorem own_n {w : World} {B : Nat} {t : TypeId} {sz g n m cap : Nat} {xs : List Value} (h : w.ownsRow B t sz (.slice (some ⟨g, 0, none⟩) n cap) m xs) : n = m := by
  rcases h.2 with ⟨h0, _⟩ | ⟨_, _, _, h0, _⟩
  · cases h0
  · injection h0
/-- A store into a file's platter and its air. -/
theorem own_store {w : World} {g n cap : Nat} {L : List PF} (h : w.ownsRow 0 82 3 (.slice (some ⟨g, 0, none⟩) n cap) L.length (cs L)) (i : Nat) (x : PF) (hx : L[i]? = some x) (p a : ByteArray) :
    ((w.setCell ⟨g, i * 3 + 1, none⟩ (.string p)).setCell ⟨g, i * 3 + 2, none⟩ (.string a)).ownsRow 0 82 3 (.slice (some ⟨g, 0, none⟩) n cap) (L.set i ⟨x.name, p, a⟩).length (cs (L.set i ⟨x.name, p, a⟩)) := by
  have hi := (List.getElem?_eq_some_iff.1 hx).1
  obtain rfl := own_n h
  have h1 := ((h.stored (i * 3 + 1) (.string p)).1.stored (i * 3 + 2) (.string a)).1
  rw [List.length_set, cs_set L i hi]
  have e : (cs L).set (i * 3) (.string x.name) = cs L := by
    have h2 := cs_get L i x hx 0 (by omega)
    rw [Nat.add_zero] at h2
    apply List.ext_getElem?
    intro j
    by_cases hj : j = i * 3
    · subst hj
      have h3 := (List.getElem?_eq_some_iff.1 h2).1
      rw [List.getElem?_set_self h3, h2]; rfl
    · rw [List.getElem?_set_ne (Ne.symm hj)]
  rw [e]
  exact h1
theorem IntsIn.at {M : Nat → Prop} {w : World} {v : Value} {l : List Int} (h : IntsIn M w v l) {i : Nat} (hi : i < l.length) :
    ∃ b o c, v = .slice (some ⟨b, o, none⟩) l.length c ∧ b < w.heap.size ∧ M b ∧ w.cell? ⟨b, o + i, none⟩ = some (.int .i64 (keepAt l i)) := by
  obtain ⟨a, c, rfl, h⟩ := h
  obtain ⟨b, o, rfl, h1, h2, h3⟩ := h (by intro e; rw [e] at hi; simp at hi)
  exact ⟨b, o, c, rfl, h1, h2, h3 i hi⟩
theorem IntsIn.val {M : Nat → Prop} {w : World} {v : Value} {l : List Int} (h : IntsIn M w v l) : ∃ a c, v = .slice a l.length c := by
  obtain ⟨a, c, rfl, _⟩ := h
  exact ⟨a, c, rfl⟩

/-- A file system whose box and list are turned, its keep left. -/
theorem FSIn.turn {M : Nat → Prop} {w w' : World} {b : Nat} {F : FR} {fv kv : Value} (h : FSIn M w b F fv kv) (F' : FR) (hk : F'.keep = F.keep)
    (hb : Box6 w' b 58 (.int .i64 F'.limit) (.int .i64 F'.starts) (.bool F'.off) fv (.int .i64 F'.left) kv) (ho : w'.ownsRow 0 82 3 fv F'.files.length (cs F'.files))
    (hs : w.heap.size ≤ w'.heap.size) (he : ∀ c, M c → c ≠ b → fv.ownBlock ≠ some c → w'.heap[c]? = w.heap[c]?) : FSIn M w' b F' fv kv where
  box := hb
  own := ho
  ints := by rw [hk]; exact h.ints.eq hs fun c _ hm => ⟨he c hm.1 hm.2.1 hm.2.2, hm⟩
  mb := h.mb
  mf := h.mf
  lt c hc := Nat.lt_of_lt_of_le (h.lt c hc) hs
set_option maxRecDepth 100000 in
theorem crash_off {M : Nat → Prop} {w : World} {b : Nat} {F : FR} (h : FSAt M w b F) (hG : Sound F) (ho : F.off = true) (v : Value) :
    Calls Try.prog 36 #[.pointer (some ⟨b, 0, none⟩), v] w fun e w' => e = .returned (.int .i64 51) ∧ w' = w := by
  have C1 := Lib.hid (on_any h hG.lim)
  unfold onE at C1
  rw [if_pos ho] at C1
  clear h hG ho
  go_enter Try.func36, Try.ntmps36
  go_wp2_with fail
  (with_reducible refine C1.out.mono ?_); rintro e w2 ⟨rfl, rfl⟩
  go_wp2_with fail
  go_ret
  exact ⟨rfl, rfl⟩
set_option maxHeartbeats 4000000 in
set_option maxRecDepth 100000 in
theorem crash_in {M : Nat → Prop} {w : World} {b : Nat} {F : FR} {fv kv : Value} (h : FSIn M w b F fv kv) (hG : Sound F) (ho : F.off = false) {v : Value} {keep : List Int} (hk : IntsIn (fun k => k ≠ b ∧ fv.ownBlock ≠ some k) w v keep) (_hk2 : keep.length ≤ 9223372036854775807) :
    Calls Try.prog 36 #[.pointer (some ⟨b, 0, none⟩), v] w fun e w' => e = .returned (.int .i64 0) ∧ FSIn M w' b (crashF F keep) fv kv ∧ Out M w w' := by
  have C1 := Lib.hid (on_any ⟨fv, kv, h⟩ hG.lim)
  unfold onE at C1
  rw [if_neg (by rw [ho]; decide)] at C1
  obtain ⟨ka, kc, rfl⟩ := hk.val
  have HK := Lib.hid hk
  have H := Lib.hid h
  have HG := Lib.hid hG
  have c3 := h.box.c3
  have c2 := h.box.c2
  have c4 := h.box.c4
  have f0 := h.box.free
  obtain ⟨fa, fc, rfl⟩ : ∃ fa fc, fv = .slice fa F.files.length fc := by
    rcases h.own.2 with ⟨rfl, h0⟩ | ⟨g, cap, cur, rfl, _⟩
    · exact ⟨none, 0, by rw [h0]⟩
    · exact ⟨_, _, rfl⟩
  obtain ⟨q, hq⟩ : ∃ q, q = F.files.length := ⟨_, rfl⟩
  have HQ := Lib.hid hq
  have hq32 : q ≤ 32 := by rw [hq]; exact hG.cnt
  obtain ⟨u, hu⟩ : ∃ u, u = keep.length := ⟨_, rfl⟩
  have HU := Lib.hid hu
  rw [← hu] at _hk2 ⊢
  rw [← hq] at c3
  clear hq hu h hG ho hk
  go_enter Try.func36, Try.ntmps36
  go_wp2_with fail
  (with_reducible refine C1.out.mono ?_); rintro e w2 ⟨rfl, rfl⟩
  go_wp2_with fail
  generalize hW3 : World.setCell (World.setCell w2 _ _) _ _ = W3
  obtain ⟨F0, hF0⟩ : ∃ F0 : Nat → FR, F0 = fun k => { F with off := true, left := -1, files := crashTo F.files keep k } := ⟨_, rfl⟩
  have HF0 := Lib.hid hF0
  have h0 : FSIn M W3 b (F0 0) (.slice fa F.files.length fc) kv := by
    rw [← hW3, hF0]
    refine H.out.turn _ rfl ((H.out.box.s2 _).s4 _) ?_ (by rw [size_set, size_set]; exact Nat.le_refl _) (fun c _ hc _ => by rw [setCell_heap_other _ _ _ _ _ hc, setCell_heap_other _ _ _ _ _ hc])
    simp only [crashTo_zero]
    exact own_eq H.out.own fun c hc => by rw [setCell_heap_other _ _ _ _ _ (H.out.mf c hc).2, setCell_heap_other _ _ _ _ _ (H.out.mf c hc).2]
  have ho0 : Out (fun c => c = b ∨ (Value.slice fa F.files.length fc).ownBlock = some c) w2 W3 := by
    rw [← hW3]
    exact ((Out.refl _ _).set (.inl (.inl rfl)) _ _).set (.inl (.inl rfl)) _ _
  have H0 := Lib.hid h0
  have HO0 := Lib.hid ho0
  clear hF0 h0 ho0 hW3 c2 c3 c4 f0 C1
  go_loopw [25, 6, 7, 8] (fun i _ _ _ wr => ∃ k : Nat, k ≤ q ∧ i = .int .i64 (k : Nat) ∧ Hid (FSIn M wr b (F0 k) (.slice fa F.files.length fc) kv) ∧ Hid (Out (fun c => c = b ∨ (Value.slice fa F.files.length fc).ownBlock = some c) w2 wr)) (fun i _ _ _ _ => q - (intOf i).toNat)
  case atStart => exact ⟨0, Nat.zero_le _, rfl, H0, HO0⟩
  case round =>
    obtain ⟨k, hkq, rfl, hf, hout⟩ := hrel
    have c3 := hf.out.box.c3
    rw [← HQ.out] at c3
    by_cases hlt : k < q
    · obtain ⟨x, hx⟩ := get_of_lt F.files k (by rw [← HQ.out]; exact hlt)
      have hL : (F0 k).files[k]? = some x := by rw [HF0.out]; show (crashTo F.files keep k)[k]? = _; rw [crashTo_get _ _ _ _ _ hx, if_neg (Nat.lt_irrefl k)]
      obtain ⟨g, cap, he, h1, h2, hg, hc, hfr⟩ := own_files hf.out.own (by intro e; rw [e] at hL; simp at hL)
      injection he with e1 e2 e3
      subst e1 e3
      clear e2
      obtain ⟨d0, d1, d2⟩ := hc k x hL
      have hsz := HG.out.size (List.mem_of_getElem? hx)
      have HX := Lib.hid hx
      have HL := Lib.hid hL
      obtain ⟨n, hn⟩ : ∃ n, n = x.air.size := ⟨_, rfl⟩
      obtain ⟨m, hm⟩ : ∃ m, m = min (keepAt keep k).toNat n := ⟨_, rfl⟩
      have HN := Lib.hid hn
      have HM := Lib.hid hm
      clear hc hx hL hm
      go_upto_if 37 with fail
      go_cut [8] from 37 to 66 (fun s8 wx => s8 = .int .i64 (m : Nat) ∧ Below wr.heap.size wr wx)
      case first =>
        by_cases hku : k < u
        · obtain ⟨kb, ko, kc', he, hkb, hkm, hcell⟩ := HK.out.at (i := k) (by rw [← HU.out]; exact hku)
          injection he with e1 e2 e3
          subst e1 e3
          clear e2
          rw [← hout.out.cell hkb (by rintro (e | e); exact hkm.1 e; exact hkm.2 e)] at hcell
          obtain ⟨z, hz⟩ : ∃ z, z = keepAt keep k := ⟨_, rfl⟩
          rw [← hz] at hcell
          have HZ := Lib.hid hz
          obtain ⟨air, hair⟩ : ∃ air, air = x.air := ⟨_, rfl⟩
          rw [← hair] at d2
          have hn' : n = air.size := by rw [hair]; exact HN.out
          clear hz hair hn
          go_upto_region 11 with fail
          go_quiet (fail)
          go_wp2_with fail
          all_goals
            go_meet
            refine ⟨?_, below_drewN (Below.refl _ _) _⟩
            rw [HM.out, ← HZ.out, hn']
            congr 1
            omega
        · go_wp2_with fail
          go_meet
          case rel =>
            refine ⟨?_, Below.refl _ _⟩
            have : keepAt keep k = 0 := by unfold keepAt; rw [List.getElem?_eq_none (by rw [← HU.out]; omega)]; rfl
            rw [HM.out, this]; simp
      case rest =>
        obtain ⟨rfl, hbx⟩ := hcut
        obtain ⟨w5, rfl⟩ : ∃ w5 : World, w5 = wc := ⟨_, rfl⟩
        have hf5 := Lib.hid (hf.out.below hbx)
        have ho5 := Lib.hid (hout.out.trans (Out.of_below (M := fun _ => False) hbx) (fun _ h => h.elim))
        have f5 : ∀ j, w5.frozen? ⟨g, j, none⟩ = false := fun j => (hbx.frozen (p := ⟨g, j, none⟩) hg).trans (hfr j)
        rw [← hbx.cell (p := ⟨g, k * 3, none⟩) hg] at d0
        rw [← hbx.cell (p := ⟨g, k * 3 + 1, none⟩) hg] at d1
        rw [← hbx.cell (p := ⟨g, k * 3 + 2, none⟩) hg] at d2
        have hx6 : (x.air.extract 0 m).size = m := by rw [ByteArray.size_extract, HM.out, HN.out]; omega
        have hm6 : m ≤ x.air.size := by rw [HM.out, HN.out]; omega
        have hps : ¬ 9223372036854775807 < x.pl.size + m := by omega
        clear hfr hf hout c3
        go_upto_region 12 with fail
        go_region
        go_wp2_with fail
        go_roundw
        case rel =>
          refine ⟨k + 1, by omega, by go_num, Lib.hid ?_, Lib.hid ?_⟩
          · have hgb : g ≠ b := (hf5.out.mf g rfl).2
            have hst := own_store hf5.out.own k x HL.out (x.pl ++ x.air.extract 0 m) ByteArray.empty
            have e : (F0 k).files.set k ⟨x.name, x.pl ++ x.air.extract 0 m, ByteArray.empty⟩ = (F0 (k + 1)).files := by
              rw [HF0.out]
              show (crashTo F.files keep k).set k _ = crashTo F.files keep (k + 1)
              rw [← crashTo_succ F.files keep k x HX.out, HM.out, HN.out]; rfl
            rw [e] at hst
            refine hf5.out.turn _ (by rw [HF0.out]) ?_ hst (by rw [drew_heap, size_set, size_set]; exact Nat.le_refl _) (fun c _ _ hc => ?_)
            · have hb5 := hf5.out.box.eq (w' := (((w5.setCell ⟨g, k * 3 + 1, none⟩ (.string (x.pl ++ x.air.extract 0 m))).setCell ⟨g, k * 3 + 2, none⟩ (.string ⟨#[]⟩)).drew)) (by rw [drew_heap, setCell_heap_other _ _ _ _ _ (Ne.symm hgb), setCell_heap_other _ _ _ _ _ (Ne.symm hgb)])
              rw [HF0.out] at hb5 ⊢
              exact hb5
            · have hcg : c ≠ g := fun e => hc (by rw [e]; rfl)
              rw [drew_heap, setCell_heap_other _ _ _ _ _ hcg, setCell_heap_other _ _ _ _ _ hcg]
          · exact ((ho5.out.set (.inl (.inr rfl)) _ _).set (.inl (.inr rfl)) _ _).drew
        case measure => simp [intOf]; omega
    · obtain rfl : k = q := by omega
      go_wp2_with fail
      go_ret
      refine ⟨rfl, ?_, hout.out.mono ?_⟩
      · have e : F0 k = crashF F keep := by rw [HF0.out, HQ.out]; rfl
        rw [← e]; exact hf.out
      · rintro c _ (rfl | hc)
        · exact H.out.mb
        · exact (H.out.mf c hc).1
end Go.Proofs.Ytmoaecicibjmnaa
