/- Steps through a region that draws its order, one by one, by the library's laws; the operation at hand is found in the row as it is written. Plain laws for FilesRoom: what is refused for want of room changes nothing; how many bytes may be stays. does: the walk. -/
import Derived.Test.YtmoaecicibjmnaaFU
import Derived.Deep.RegionHeld3
import Derived.RegionTactic
namespace Go.Proofs.Ytmoaecicibjmnaa
open Go.RowKit

/-- Number i of a row, by walking along it: what it yields is the operation as it is written. -/
def pickOp : List Oper → Nat → Option Oper
  | [], _ => none
  | o :: _, 0 => some o
  | _ :: l, n + 1 => pickOp l n
theorem pickOp_at : ∀ (l : List Oper) (i : Nat) {o : Oper}, pickOp l i = some o → l.toArray[i]? = some o := by
  intro l
  induction l with
  | nil => intro i o h; cases h
  | cons a l ih =>
    intro i o h
    cases i with
    | zero => simpa [pickOp] using h
    | succ n => simpa [pickOp] using ih n h
section
variable {P : Program} {l : List Oper} {Q : Exit → Act → World → Prop} {md : Region.Mode} {S : World → Prop}
/-- The operation number i comes first: its value is known in every world that meets S. -/
theorem hTake {i : Nat} {oi : Oper} {v : Value} {fuel : Nat} {listed : Array Bool} {a : Act} {w : World} (hi : pickOp l i = some oi)
    (hs : Region.noSelect l.toArray = true) (hf : Region.free md l.toArray listed i = true) (hr : (Region.ready md l.toArray listed).contains i = true)
    (hQ : ∀ c a w, Q (.panic c) (a.put oi.dst v) w → Q (.panic c) a w) (hw : Region.wanted oi (yielded l.toArray a.tmps) = true)
    (hy : ∀ w, S w → (execOp a.eval oi).run P w = .ok (.value v) w) (hS : S w)
    (h : wpAnyH P md l.toArray Q S fuel (listed.setIfInBounds i true) (a.put oi.dst v) w) : wpAnyH P md l.toArray Q S (fuel + 1) listed a w :=
  wpAnyH_take (pickOp_at l i hi) hs hf hr hQ (Or.inl ⟨hw, hy⟩) hS h
/-- Nobody wants the operation number i. -/
theorem hSkip {i : Nat} {oi : Oper} {fuel : Nat} {listed : Array Bool} {a : Act} {w : World} (hi : pickOp l i = some oi)
    (hs : Region.noSelect l.toArray = true) (hf : Region.free md l.toArray listed i = true) (hr : (Region.ready md l.toArray listed).contains i = true)
    (hQ : ∀ c a w, Q (.panic c) (a.put oi.dst undef) w → Q (.panic c) a w) (hw : Region.wanted oi (yielded l.toArray a.tmps) = false) (hS : S w)
    (h : wpAnyH P md l.toArray Q S fuel (listed.setIfInBounds i true) (a.put oi.dst undef) w) : wpAnyH P md l.toArray Q S (fuel + 1) listed a w :=
  wpAnyH_take (pickOp_at l i hi) hs hf hr hQ (Or.inr ⟨hw, rfl⟩) hS h
/-- The operation number i alone may come up. -/
theorem hOne {i : Nat} {oi : Oper} {fuel : Nat} {listed : Array Bool} {a : Act} {w : World} (hi : pickOp l i = some oi)
    (hr : Region.ready md l.toArray listed = [i])
    (h : ∀ K' : Act → World → Prop, Shut (∀ a w, S w → (S w → wpAnyH P md l.toArray Q S fuel (listed.setIfInBounds i true) a w) → K' a w) → if Region.wanted oi (yielded l.toArray a.tmps) = true then Oper.wp P oi a w K' Q else K' (a.put oi.dst undef) w) :
    wpAnyH P md l.toArray Q S (fuel + 1) listed a w :=
  wpAnyH_ready hr (by simp) (AllReadyH.cons (pickOp_at l i hi) h AllReadyH.nil)
/-- Two may come up. -/
theorem hTwo {i j : Nat} {oi oj : Oper} {fuel : Nat} {listed : Array Bool} {a : Act} {w : World} (hi : pickOp l i = some oi) (hj : pickOp l j = some oj)
    (hr : Region.ready md l.toArray listed = [i, j])
    (h : ∀ K' : Act → World → Prop, Shut (∀ a w, S w → (S w → wpAnyH P md l.toArray Q S fuel (listed.setIfInBounds i true) a w) → K' a w) → if Region.wanted oi (yielded l.toArray a.tmps) = true then Oper.wp P oi a w K' Q else K' (a.put oi.dst undef) w)
    (h' : ∀ K' : Act → World → Prop, Shut (∀ a w, S w → (S w → wpAnyH P md l.toArray Q S fuel (listed.setIfInBounds j true) a w) → K' a w) → if Region.wanted oj (yielded l.toArray a.tmps) = true then Oper.wp P oj a w K' Q else K' (a.put oj.dst undef) w) :
    wpAnyH P md l.toArray Q S (fuel + 1) listed a w :=
  wpAnyH_ready hr (by simp) (AllReadyH.cons (pickOp_at l i hi) h (AllReadyH.cons (pickOp_at l j hj) h' AllReadyH.nil))
end
end Go.Proofs.Ytmoaecicibjmnaa

namespace Go.Proofs.Ytmoaecicibjmnaa
open Go.RowKit

theorem hasE_cases (F : FR) (n : ByteArray) : hasE F n = 0 ∨ hasE F n = 51 ∨ hasE F n = 4 := by
  unfold hasE; split; simp; split <;> simp
theorem with_full {F : FR} {d : DoR} (h : withE F d = 50) : withF F d = F := by
  have hs : ∀ n, strokeE F n ≠ 50 := fun n => by
    unfold strokeE; rcases hasE_cases F n with e | e | e <;> rw [e] <;> simp <;> split <;> omega
  unfold withE at h
  unfold withF
  split at h
  · exact absurd h (hs _)
  · exact absurd h (hs _)
  · exfalso; revert h; unfold cutE; rcases hasE_cases F d.A with e | e | e <;> rw [e] <;> simp
    split; omega; split <;> omega
  · exfalso; revert h; unfold renE; rcases hasE_cases F d.A with e | e | e <;> rw [e] <;> simp
    split; split <;> omega; omega
  · exact absurd h (hs _)
  · exfalso; revert h; unfold crashE; split <;> omega
  · exfalso; revert h; unfold startE; split <;> omega
  · exfalso; revert h; unfold startE; split <;> omega
  · exfalso; revert h; unfold failE; split; omega; split <;> omega
  · unfold appE at h
    unfold appF
    split at h
    · omega
    · split at h
      · omega
      · split at h
        · rename_i hf; rw [if_pos (.inr (.inr hf))]
        · split at h <;> omega
theorem setX_limit (F : FR) (n : ByteArray) (f : PF → PF) : (setX F n f).limit = F.limit := by unfold setX; split <;> rfl
theorem doneF_limit {F F2 : FR} (h : F2.limit = F.limit) : (doneF F F2).limit = F.limit := by
  unfold doneF; split; rfl; split <;> exact h
theorem with_limit (F : FR) (d : DoR) : (withF F d).limit = F.limit := by
  unfold withF
  split
  · unfold syncF; split; exact doneF_limit (setX_limit _ _ _); rfl
  · unfold syncF; split; exact doneF_limit (setX_limit _ _ _); rfl
  · unfold cutF; split; exact doneF_limit (setX_limit _ _ _); rfl
  · unfold renameF; split; exact doneF_limit rfl; rfl
  · unfold removeF; split; exact doneF_limit rfl; rfl
  · unfold crashG; split <;> rfl
  · unfold startF; split <;> rfl
  · unfold startF; split <;> rfl
  · unfold failF; split <;> rfl
  · unfold appF; split
    · rfl
    · have hx : (appX F d.A d.S).limit = F.limit := (appX_left F d.A d.S).2.2.1
      unfold doneA; split; exact hx; split <;> exact hx
def namesL (F : FR) : List ByteArray := F.files.map PF.name
/-- A slice of texts, in blocks of P. -/
def TextsIn (P : Nat → Prop) (w : World) (v : Value) (T : List ByteArray) : Prop :=
  ∃ a c, v = .slice a T.length c ∧ (T ≠ [] → ∃ b o, a = some ⟨b, o, none⟩ ∧ b < w.heap.size ∧ P b ∧ ∀ j, (h : j < T.length) → w.cell? ⟨b, o + j, none⟩ = some (.string T[j]))
theorem TextsIn.at {P : Nat → Prop} {w : World} {v : Value} {T : List ByteArray} (h : TextsIn P w v T) : TextsAt w v T := by
  obtain ⟨a, c, hv, h⟩ := h
  exact ⟨a, c, hv, fun hne => by obtain ⟨b, o, h1, h2, _, h3⟩ := h hne; exact ⟨b, o, h1, h2, h3⟩⟩
theorem TextsIn.eq {P P' : Nat → Prop} {w w' : World} {v : Value} {T : List ByteArray} (h : TextsIn P w v T) (hs : w.heap.size ≤ w'.heap.size) (he : ∀ k, k < w.heap.size → P k → w'.heap[k]? = w.heap[k]? ∧ P' k) : TextsIn P' w' v T := by
  obtain ⟨a, c, rfl, h⟩ := h
  refine ⟨a, c, rfl, fun hne => ?_⟩
  obtain ⟨b, o, ha, hb, hp, hc⟩ := h hne
  exact ⟨b, o, ha, Nat.lt_of_lt_of_le hb hs, (he b hb hp).2, fun j hj => (World.cell?_of_block (a := ⟨b, _, none⟩) (he b hb hp).1).trans (hc j hj)⟩
theorem TextsIn.below {P : Nat → Prop} {w w' : World} {v : Value} {T : List ByteArray} (h : TextsIn P w v T) (hb : Below w.heap.size w w') : TextsIn P w' v T := h.eq hb.size fun k hk hp => ⟨hb.block k hk, hp⟩
theorem TextsIn.val {P : Nat → Prop} {w : World} {v : Value} {T : List ByteArray} (h : TextsIn P w v T) : ∃ a c, v = .slice a T.length c := by obtain ⟨a, c, h, _⟩ := h; exact ⟨a, c, h⟩
/-- The texts that a row of them has. -/
theorem texts_in {B : Nat} {e : TypeId} {w : World} {v : Value} {T : List ByteArray} (h : w.ownsRow B e 1 v T.length (T.map Value.string)) : TextsIn (fun k => B ≤ k) w v T := by
  rcases h.2 with ⟨rfl, h0⟩ | ⟨g, cap, cu, rfl, hBg, hgg, _, _, _, _⟩
  · exact ⟨none, 0, by rw [h0], fun hne => absurd (List.eq_nil_of_length_eq_zero h0) hne⟩
  · refine ⟨_, _, rfl, fun _ => ⟨g, 0, rfl, (Array.getElem?_eq_some_iff.1 hgg).1, hBg, fun j hj => ?_⟩⟩
    rw [Nat.zero_add, h.cellAt j (by omega), List.getElem?_map, List.getElem?_eq_getElem hj]; rfl
theorem names_in {B : Nat} {e : TypeId} {w : World} {v : Value} {l : List PF} (h : w.ownsRow B e 1 v l.length (l.map fun x => Value.string x.name)) : TextsIn (fun k => B ≤ k) w v (l.map PF.name) := by
  refine texts_in (e := e) ?_
  rw [List.length_map, List.map_map]; exact h
theorem TextsAt.eq {w w' : World} {v : Value} {T : List ByteArray} (h : TextsAt w v T) (hs : w.heap.size ≤ w'.heap.size) (he : ∀ k, k < w.heap.size → w'.heap[k]? = w.heap[k]?) : TextsAt w' v T := by
  obtain ⟨a, c, rfl, h⟩ := h
  refine ⟨a, c, rfl, fun hne => ?_⟩
  obtain ⟨b, o, ha, hb, hc⟩ := h hne
  exact ⟨b, o, ha, Nat.lt_of_lt_of_le hb hs, fun j hj => (World.cell?_of_block (a := ⟨b, _, none⟩) (he b hb)).trans (hc j hj)⟩
theorem TextsAt.below {w w' : World} {v : Value} {T : List ByteArray} (h : TextsAt w v T) (hb : Below w.heap.size w w') : TextsAt w' v T := h.eq hb.size fun k hk => hb.block k hk
/-- The names rise: as the program compares them. -/
theorem rising_names {F : FR} (hG : Sound F) {k : Nat} {x y : PF} (hx : F.files[k]? = some x) (hy : F.files[k + 1]? = some y) : ltN x.name y.name = true := rising_get hG.asc (Nat.lt_succ_self k) hx hy
end Go.Proofs.Ytmoaecicibjmnaa

namespace Go.Proofs.Ytmoaecicibjmnaa
open Go.RowKit

theorem Turned.ex {M : Nat → Prop} {w w' : World} {b : Nat} {F : FR} (h : Turned M w w' b F) : ∃ M', FSAt M' w' b F ∧ (∀ k, M' k → M k ∨ w.heap.size ≤ k) ∧ Out M w w' := h
theorem ds_unsynced {M : Nat → Prop} {b k : Nat} (w : World) (h : FSAt M w b (dsF (k + 1))) (hk : k = 4) :
    Calls Try.prog 33 #[.pointer (some ⟨b, 0, none⟩)] w fun e w' => (∃ v, e = .returned v ∧ IntsIn (fun k => w.heap.size ≤ k) w' v [5, 2]) ∧ Below w.heap.size w w' := by
  subst hk
  refine (unsynced_any h (ds_sound 5)).mono ?_
  rintro e w' ⟨⟨v, rfl, ho⟩, hb⟩
  refine ⟨⟨v, rfl, ?_⟩, hb⟩
  have e1 : (dsF 5).files.map (fun x => Value.int .i64 ((x.air.size : Nat) : Int)) = intVs [5, 2] := by
    have := congrArg (fun l => l.map fun (n : Nat) => Value.int .i64 (n : Int)) ds_air
    simp only [List.map_map] at this
    exact this
  have e2 : (dsF 5).files.length = [(5 : Int), 2].length := by decide +kernel
  rw [e1, e2] at ho
  exact ints_of_own ho
theorem ints_new (w : World) (t : TypeId) : IntsIn (fun k => w.heap.size ≤ k) (w.alloc (.cells #[.int .i64 5, .int .i64 2] t)) (.slice (some ⟨w.heap.size, 0, none⟩) 2 2) [5, 2] :=
  ⟨_, 2, rfl, fun _ => ⟨_, 0, rfl, by rw [size_alloc]; exact Nat.lt_succ_self _, Nat.le_refl _, fun j hj => by
    have hj : j < 2 := hj
    rw [cell_at (by rw [heap_alloc, if_pos rfl])]
    rcases (show j = 0 ∨ j = 1 by omega) with rfl | rfl <;> rfl⟩⟩
theorem IntsIn.below {B : Nat} {w w' : World} {v : Value} {l : List Int} (h : IntsIn (fun k => B ≤ k) w v l) (hb : Below w.heap.size w w') : IntsIn (fun _ => True) w' v l := h.eq hb.size fun k hk _ => ⟨hb.block k hk, trivial⟩
set_option maxRecDepth 100000 in
set_option maxHeartbeats 8000000 in
theorem does_any (w : World) : Calls Try.prog 20 #[] w fun e w' => e = .returned (.bool true) ∧ Below w.heap.size w w' := by
  go_enter Try.func20, Try.ntmps20
  go_upto_region 3 with fail
  refine name_world (P := fun W => Code.wp _ _ _ _ W) _ (fun W hW => ?_)
  obtain ⟨hB, hs, hD, hC⟩ := ds_world w W hW
  clear hW
  have C1 := Lib.hid (new_any 10 W (by omega) (by omega))
  have HD := Lib.hid hD
  have HC := Lib.hid hC
  clear hD hC
  go_wp2_with fail
  (with_reducible refine C1.out.mono ?_); rintro e w1 ⟨b, rfl, M, hf, hM, hb1⟩
  have HF := Lib.hid hf
  have HM := Lib.hid hM
  clear hf hM C1
  go_wp2_with fail
  go_loopw [5] (fun i wr => ∃ k : Nat, k ≤ 11 ∧ i = .int .i64 (k : Nat) ∧ ∃ M, Hid (FSAt M wr b (dsF k)) ∧ Hid (∀ k, M k → W.heap.size ≤ k) ∧ Below W.heap.size W wr) (fun i _ => 11 - (intOf i).toNat)
  case atStart => exact ⟨0, Nat.zero_le _, rfl, M, HF, HM, hb1⟩
  case round =>
    obtain ⟨k, hk, rfl, M, HF, HM, hbel⟩ := hrel
    by_cases hlt : k < 11
    · obtain ⟨d, hd⟩ : ∃ d, dsL[k]? = some d := ⟨_, List.getElem?_eq_getElem (show k < dsL.length from hlt)⟩
      obtain ⟨n, hn⟩ : ∃ n, dsW[k]? = some n := ⟨_, List.getElem?_eq_getElem (show k < dsW.length from hlt)⟩
      have hE : withE (dsF k) d = n := by
        have h1 := congrArg (fun l => l[k]?) ds_want
        simp only [List.getElem?_map, List.getElem?_range hlt, Option.map_some, hd, Option.getD_some, hn] at h1
        injection h1
      obtain ⟨la, lc, hlv, hlr⟩ := HD.out
      injection hlv with hla e11 e12
      clear e11 e12
      obtain ⟨lb, lo, hlb, hlt1, ⟨hlp, hlp2⟩, hlr2⟩ := hlr (by decide +kernel)
      clear hlr
      rw [← hla] at hlb
      injection hlb with hlb
      injection hlb with hb1' hb2' hb3'
      clear hb3'
      subst hb1' hb2'
      obtain ⟨kv, hkv, q0, q1, q2, q3, q4, q5⟩ := hlr2 k d hd
      have qn := HC.out k n hn
      clear hlr2 hla
      obtain ⟨ka, kc, rfl⟩ := hkv.val
      have hnM : ∀ x, x < W.heap.size → ¬ M x := fun x hx hm => by have := HM.out x hm; omega
      have hN3 : w.heap.size + 1 + 1 + 1 < W.heap.size := by omega
      have e := fun i => World.cell?_of_block (a := ⟨w.heap.size + 1 + 1, i, none⟩) (hbel.block _ hlt1)
      have e' := fun i => World.cell?_of_block (a := ⟨w.heap.size + 1 + 1 + 1, i, none⟩) (hbel.block _ hN3)
      have KS0 : ∀ w', Out M wr w' → (w'.cell? ⟨w.heap.size + 1 + 1, k * 6, none⟩ = some (.int .u8 (d.what : Int)) ∧ w'.cell? ⟨w.heap.size + 1 + 1, k * 6 + 1, none⟩ = some (.string d.A) ∧ w'.cell? ⟨w.heap.size + 1 + 1, k * 6 + 2, none⟩ = some (.string d.B) ∧ w'.cell? ⟨w.heap.size + 1 + 1, k * 6 + 3, none⟩ = some (.string d.S) ∧ w'.cell? ⟨w.heap.size + 1 + 1, k * 6 + 4, none⟩ = some (.int .i64 d.N) ∧ w'.cell? ⟨w.heap.size + 1 + 1, k * 6 + 5, none⟩ = some (.slice ka d.K.length kc) ∧ w'.cell? ⟨w.heap.size + 1 + 1 + 1, k, none⟩ = some (.int .i64 n)) ∧ Out M wr w' := fun w' ho => by
        have f := fun i => ho.cell (Nat.lt_of_lt_of_le hlt1 hbel.size) (hnM _ hlt1) i
        have f' := fun i => ho.cell (Nat.lt_of_lt_of_le hN3 hbel.size) (hnM _ hN3) i
        rw [Nat.zero_add] at q0 q1 q2 q3 q4 q5
        exact ⟨⟨(f _).trans ((e _).trans q0), (f _).trans ((e _).trans q1), (f _).trans ((e _).trans q2), (f _).trans ((e _).trans q3), (f _).trans ((e _).trans q4), (f _).trans ((e _).trans q5), (f' _).trans ((e' _).trans qn)⟩, ho⟩
      have hdd : d.what < 256 ∧ d.S.size ≤ 9223372036854775807 ∧ d.K.length ≤ 1000000 := by
        have h0 : dsL.all fun d => decide (d.what < 256 ∧ d.S.size ≤ 9223372036854775807 ∧ d.K.length ≤ 1000000) := by decide +kernel
        exact of_decide_eq_true (List.all_eq_true.1 h0 d (List.mem_of_getElem? hd))
      have hkv' : IntsIn (fun x => ¬ M x) wr.drew (.slice ka d.K.length kc) d.K := hkv.eq hbel.size fun x hx _ => ⟨hbel.block x hx, hnM x hx⟩
      have CW0 := with_any wr.drew (HF.out.out (Out.refl (fun _ => False) _).drew (fun _ _ h => h)) (ds_sound k) ⟨_, rfl, hkv'⟩ hdd.1 hdd.2.1 hdd.2.2
      rw [hE, ← dsF_succ k d hd] at CW0
      have CW := Lib.hid CW0
      clear CW0
      have KS := Lib.hid KS0
      clear KS0
      have hd5 : k = 4 → (dsF (k + 1)).files.map (fun x => x.air.size) = [5, 2] := fun h => by subst h; exact ds_air
      have HD5 := Lib.hid hd5
      have enn : (n == n) = true := by simp
      clear e e' hkv q0 q1 q2 q3 q4 q5 qn hkv' hdd hE hnM hd5
      generalize d.what = dw at *
      by_cases h4 : k = 4
      · have g1 : ((k : Int) == 4) = true := by simp; omega
        have g2 : decide ((k : Int) = 4) = true := by simp; omega
        have H4 := Lib.hid h4
        clear h4
        go_upto_region 9 with fail
        refine wp_region_held_drew (S := (fun w' => (w'.cell? ⟨w.heap.size + 1 + 1, k * 6, none⟩ = some (.int .u8 (dw : Int)) ∧ w'.cell? ⟨w.heap.size + 1 + 1, k * 6 + 1, none⟩ = some (.string d.A) ∧ w'.cell? ⟨w.heap.size + 1 + 1, k * 6 + 2, none⟩ = some (.string d.B) ∧ w'.cell? ⟨w.heap.size + 1 + 1, k * 6 + 3, none⟩ = some (.string d.S) ∧ w'.cell? ⟨w.heap.size + 1 + 1, k * 6 + 4, none⟩ = some (.int .i64 d.N) ∧ w'.cell? ⟨w.heap.size + 1 + 1, k * 6 + 5, none⟩ = some (.slice ka d.K.length kc) ∧ w'.cell? ⟨w.heap.size + 1 + 1 + 1, k, none⟩ = some (.int .i64 n)) ∧ Out M wr w')) (by kernel_rfl) (KS.out _ (Out.refl _ _).drew) (fun hH => ?_)
        (refine hTake (i := 0) (v := ?_) rfl (by kernel_rfl) (by kernel_rfl) (by kernel_rfl) (fun _ _ _ h => h) (by kernel_rfl) ?_ (by assumption) ?_; rotate_left; focus (intro w' hS'; (try dsimp only at hS'); go_split_ands; (try go_simp); (try (with_reducible rfl)); done); try simp only [Act.put, List.setIfInBounds_toArray, List.set_cons_zero, List.set_cons_succ]); (refine hTake (i := 1) (v := ?_) rfl (by kernel_rfl) (by kernel_rfl) (by kernel_rfl) (fun _ _ _ h => h) (by kernel_rfl) ?_ (by assumption) ?_; rotate_left; focus (intro w' hS'; (try dsimp only at hS'); go_split_ands; (try go_simp); (try (with_reducible rfl)); done); try simp only [Act.put, List.setIfInBounds_toArray, List.set_cons_zero, List.set_cons_succ]); (refine hTake (i := 2) (v := ?_) rfl (by kernel_rfl) (by kernel_rfl) (by kernel_rfl) (fun _ _ _ h => h) (by kernel_rfl) ?_ (by assumption) ?_; rotate_left; focus (intro w' hS'; (try dsimp only at hS'); go_split_ands; (try go_simp); (try (with_reducible rfl)); done); try simp only [Act.put, List.setIfInBounds_toArray, List.set_cons_zero, List.set_cons_succ]); (refine hTake (i := 3) (v := ?_) rfl (by kernel_rfl) (by kernel_rfl) (by kernel_rfl) (fun _ _ _ h => h) (by kernel_rfl) ?_ (by assumption) ?_; rotate_left; focus (intro w' hS'; (try dsimp only at hS'); go_split_ands; (try go_simp); (try (with_reducible rfl)); done); try simp only [Act.put, List.setIfInBounds_toArray, List.set_cons_zero, List.set_cons_succ]); (refine hTake (i := 4) (v := ?_) rfl (by kernel_rfl) (by kernel_rfl) (by kernel_rfl) (fun _ _ _ h => h) (by kernel_rfl) ?_ (by assumption) ?_; rotate_left; focus (intro w' hS'; (try dsimp only at hS'); go_split_ands; (try go_simp); (try (with_reducible rfl)); done); try simp only [Act.put, List.setIfInBounds_toArray, List.set_cons_zero, List.set_cons_succ]); (refine hTake (i := 6) (v := ?_) rfl (by kernel_rfl) (by kernel_rfl) (by kernel_rfl) (fun _ _ _ h => h) (by kernel_rfl) ?_ (by assumption) ?_; rotate_left; focus (intro w' hS'; (try dsimp only at hS'); go_split_ands; (try go_simp); (try (with_reducible rfl)); done); try simp only [Act.put, List.setIfInBounds_toArray, List.set_cons_zero, List.set_cons_succ]); (refine hTake (i := 7) (v := ?_) rfl (by kernel_rfl) (by kernel_rfl) (by kernel_rfl) (fun _ _ _ h => h) (by kernel_rfl) ?_ (by assumption) ?_; rotate_left; focus (intro w' hS'; (try dsimp only at hS'); go_split_ands; (try go_simp); (try (with_reducible rfl)); done); try simp only [Act.put, List.setIfInBounds_toArray, List.set_cons_zero, List.set_cons_succ]); (refine hTake (i := 8) (v := ?_) rfl (by kernel_rfl) (by kernel_rfl) (by kernel_rfl) (fun _ _ _ h => h) (by kernel_rfl) ?_ (by assumption) ?_; rotate_left; focus (intro w' hS'; (try dsimp only at hS'); go_split_ands; (try go_simp); (try (with_reducible rfl)); done); try simp only [Act.put, List.setIfInBounds_toArray, List.set_cons_zero, List.set_cons_succ]); (refine hTake (i := 9) (v := ?_) rfl (by kernel_rfl) (by kernel_rfl) (by kernel_rfl) (fun _ _ _ h => h) (by kernel_rfl) ?_ (by assumption) ?_; rotate_left; focus (intro w' hS'; (try dsimp only at hS'); go_split_ands; (try go_simp); (try (with_reducible rfl)); done); try simp only [Act.put, List.setIfInBounds_toArray, List.set_cons_zero, List.set_cons_succ])
        refine hOne (i := 5) rfl (by kernel_rfl) (fun K hK => ?_)
        go_simp
        refine CW.out.mono ?_
        rintro e w3 ⟨rfl, M3, hf3, hM3, ho3⟩
        have HF3 := Lib.hid hf3
        have HM3 := Lib.hid hM3
        have ho4 := Out.trans (Out.drew (Out.refl _ _)) ho3 (fun k hk => .inl hk)
        clear hf3 hM3 ho3
        go_wp2_with fail
        refine hK.out _ _ (KS.out _ ho4) (fun hH => ?_)
        clear hK K
        (refine hTake (i := 10) (v := ?_) rfl (by kernel_rfl) (by kernel_rfl) (by kernel_rfl) (fun _ _ _ h => h) (by kernel_rfl) ?_ (by assumption) ?_; rotate_left; focus (intro w' hS'; (try dsimp only at hS'); go_split_ands; (try go_simp); (try (with_reducible rfl)); done); try simp only [Act.put, List.setIfInBounds_toArray, List.set_cons_zero, List.set_cons_succ]); (refine hTake (i := 11) (v := ?_) rfl (by kernel_rfl) (by kernel_rfl) (by kernel_rfl) (fun _ _ _ h => h) (by kernel_rfl) ?_ (by assumption) ?_; rotate_left; focus (intro w' hS'; (try dsimp only at hS'); go_split_ands; (try go_simp); (try (with_reducible rfl)); done); try simp only [Act.put, List.setIfInBounds_toArray, List.set_cons_zero, List.set_cons_succ]); (refine hTake (i := 12) (v := ?_) rfl (by kernel_rfl) (by kernel_rfl) (by kernel_rfl) (fun _ _ _ h => h) (by kernel_rfl) ?_ (by assumption) ?_; rotate_left; focus (intro w' hS'; (try dsimp only at hS'); go_split_ands; (try go_simp); (try (with_reducible rfl)); done); try simp only [Act.put, List.setIfInBounds_toArray, List.set_cons_zero, List.set_cons_succ]); (refine hTake (i := 13) (v := ?_) rfl (by kernel_rfl) (by kernel_rfl) (by kernel_rfl) (fun _ _ _ h => h) (by kernel_rfl) ?_ (by assumption) ?_; rotate_left; focus (intro w' hS'; (try dsimp only at hS'); go_split_ands; (try go_simp); (try (with_reducible rfl)); done); try simp only [Act.put, List.setIfInBounds_toArray, List.set_cons_zero, List.set_cons_succ]); (refine hTake (i := 14) (v := ?_) rfl (by kernel_rfl) (by kernel_rfl) (by kernel_rfl) (fun _ _ _ h => h) (by kernel_rfl) ?_ (by assumption) ?_; rotate_left; focus (intro w' hS'; (try dsimp only at hS'); go_split_ands; (try go_simp); (try (with_reducible rfl)); done); try simp only [Act.put, List.setIfInBounds_toArray, List.set_cons_zero, List.set_cons_succ]); (refine hTake (i := 15) (v := ?_) rfl (by kernel_rfl) (by kernel_rfl) (by kernel_rfl) (fun _ _ _ h => h) (by kernel_rfl) ?_ (by assumption) ?_; rotate_left; focus (intro w' hS'; (try dsimp only at hS'); go_split_ands; (try go_simp); (try (with_reducible rfl)); done); try simp only [Act.put, List.setIfInBounds_toArray, List.set_cons_zero, List.set_cons_succ])
        refine hTwo (i := 16) (j := 17) rfl rfl (by kernel_rfl) (fun K hK => ?_) (fun K hK => ?_)
        · go_simp
          refine (ds_unsynced w3 HF3.out H4.out).mono ?_
          rintro e w5 ⟨⟨v5, rfl, hi5⟩, hb5⟩
          have HI5 := Lib.hid hi5
          clear hi5
          go_wp2_with fail
          have ho5 := ho4.trans (Out.of_below hb5) (fun k hk => .inl hk)
          refine hK.out _ _ (KS.out _ ho5) (fun hH => ?_)
          clear hK K
          refine hOne (i := 17) rfl (by kernel_rfl) (fun K hK => ?_)
          go_simp
          have hb6 : Below w5.heap.size w5 (w5.alloc (.cells #[.int .i64 5, .int .i64 2] 3)) := (Below.refl _ _).alloc (Nat.le_refl _) _
          have ho6 := ho5.trans (Out.of_below hb6) (fun k hk => .inl hk)
          refine hK.out _ _ (KS.out _ ho6) (fun hH => ?_)
          clear hK K
          refine hOne (i := 18) rfl (by kernel_rfl) (fun K hK => ?_)
          go_simp
          refine (numbers_any _ _ _ _ _ (HI5.out.below hb6) (ints_new _ _) (by decide) (by decide)).mono ?_
          rintro e w7 ⟨rfl, hb7⟩
          go_wp2_with fail
          have ho7 := ho6.trans (Out.of_below hb7) (fun k hk => .inl hk)
          refine hK.out _ _ (KS.out _ ho7) (fun hH => ?_)
          clear hK K
          (refine hTake (i := 19) (v := ?_) rfl (by kernel_rfl) (by kernel_rfl) (by kernel_rfl) (fun _ _ _ h => h) (by kernel_rfl) ?_ (by assumption) ?_; rotate_left; focus (intro w' hS'; (try dsimp only at hS'); go_split_ands; (try go_simp); (try (with_reducible rfl)); done); try simp only [Act.put, List.setIfInBounds_toArray, List.set_cons_zero, List.set_cons_succ]); (refine hTake (i := 20) (v := ?_) rfl (by kernel_rfl) (by kernel_rfl) (by kernel_rfl) (fun _ _ _ h => h) (by kernel_rfl) ?_ (by assumption) ?_; rotate_left; focus (intro w' hS'; (try dsimp only at hS'); go_split_ands; (try go_simp); (try (with_reducible rfl)); done); try simp only [Act.put, List.setIfInBounds_toArray, List.set_cons_zero, List.set_cons_succ]); (refine hTake (i := 21) (v := ?_) rfl (by kernel_rfl) (by kernel_rfl) (by kernel_rfl) (fun _ _ _ h => h) (by kernel_rfl) ?_ (by assumption) ?_; rotate_left; focus (intro w' hS'; (try dsimp only at hS'); go_split_ands; (try go_simp); (try (with_reducible rfl)); done); try simp only [Act.put, List.setIfInBounds_toArray, List.set_cons_zero, List.set_cons_succ])
          refine wpAnyH_done (by kernel_rfl) ?_ _
          go_wp2_with fail
          refine ⟨⟨k + 1, by omega, by go_num, M3, Lib.hid (((HF3.out.below hb5).below hb6).below hb7), Lib.hid (fun x hx => ?_), hbel.trans (ho7.below hbel.size HM.out)⟩, ?_⟩
          · rcases HM3.out x hx with h | h
            · exact HM.out x h
            · exact Nat.le_trans hbel.size h
          · simp [intOf]; omega
        · go_simp
          have hb5 : Below w3.heap.size w3 (w3.alloc (.cells #[.int .i64 5, .int .i64 2] 3)) := (Below.refl _ _).alloc (Nat.le_refl _) _
          have ho5 := ho4.trans (Out.of_below hb5) (fun k hk => .inl hk)
          refine hK.out _ _ (KS.out _ ho5) (fun hH => ?_)
          clear hK K
          refine hOne (i := 16) rfl (by kernel_rfl) (fun K hK => ?_)
          go_simp
          refine (ds_unsynced (w3.alloc (.cells #[.int .i64 5, .int .i64 2] 3)) (HF3.out.below hb5) H4.out).mono ?_
          rintro e w6 ⟨⟨v5, rfl, hi5⟩, hb6⟩
          have HI5 := Lib.hid hi5
          clear hi5
          go_wp2_with fail
          have ho6 := ho5.trans (Out.of_below hb6) (fun k hk => .inl hk)
          refine hK.out _ _ (KS.out _ ho6) (fun hH => ?_)
          clear hK K
          refine hOne (i := 18) rfl (by kernel_rfl) (fun K hK => ?_)
          go_simp
          refine (numbers_any _ _ _ _ _ HI5.out ((ints_new w3 _).below hb6) (by decide) (by decide)).mono ?_
          rintro e w7 ⟨rfl, hb7⟩
          go_wp2_with fail
          have ho7 := ho6.trans (Out.of_below hb7) (fun k hk => .inl hk)
          refine hK.out _ _ (KS.out _ ho7) (fun hH => ?_)
          clear hK K
          (refine hTake (i := 19) (v := ?_) rfl (by kernel_rfl) (by kernel_rfl) (by kernel_rfl) (fun _ _ _ h => h) (by kernel_rfl) ?_ (by assumption) ?_; rotate_left; focus (intro w' hS'; (try dsimp only at hS'); go_split_ands; (try go_simp); (try (with_reducible rfl)); done); try simp only [Act.put, List.setIfInBounds_toArray, List.set_cons_zero, List.set_cons_succ]); (refine hTake (i := 20) (v := ?_) rfl (by kernel_rfl) (by kernel_rfl) (by kernel_rfl) (fun _ _ _ h => h) (by kernel_rfl) ?_ (by assumption) ?_; rotate_left; focus (intro w' hS'; (try dsimp only at hS'); go_split_ands; (try go_simp); (try (with_reducible rfl)); done); try simp only [Act.put, List.setIfInBounds_toArray, List.set_cons_zero, List.set_cons_succ]); (refine hTake (i := 21) (v := ?_) rfl (by kernel_rfl) (by kernel_rfl) (by kernel_rfl) (fun _ _ _ h => h) (by kernel_rfl) ?_ (by assumption) ?_; rotate_left; focus (intro w' hS'; (try dsimp only at hS'); go_split_ands; (try go_simp); (try (with_reducible rfl)); done); try simp only [Act.put, List.setIfInBounds_toArray, List.set_cons_zero, List.set_cons_succ])
          refine wpAnyH_done (by kernel_rfl) ?_ _
          go_wp2_with fail
          refine ⟨⟨k + 1, by omega, by go_num, M3, Lib.hid (((HF3.out.below hb5).below hb6).below hb7), Lib.hid (fun x hx => ?_), hbel.trans (ho7.below hbel.size HM.out)⟩, ?_⟩
          · rcases HM3.out x hx with h | h
            · exact HM.out x h
            · exact Nat.le_trans hbel.size h
          · simp [intOf]; omega
      · have g1 : ((k : Int) == 4) = false := by simp; omega
        have g2 : ¬ ((k : Int) = 4) := by omega
        go_upto_region 9 with fail
        refine wp_region_held_drew (S := (fun w' => (w'.cell? ⟨w.heap.size + 1 + 1, k * 6, none⟩ = some (.int .u8 (dw : Int)) ∧ w'.cell? ⟨w.heap.size + 1 + 1, k * 6 + 1, none⟩ = some (.string d.A) ∧ w'.cell? ⟨w.heap.size + 1 + 1, k * 6 + 2, none⟩ = some (.string d.B) ∧ w'.cell? ⟨w.heap.size + 1 + 1, k * 6 + 3, none⟩ = some (.string d.S) ∧ w'.cell? ⟨w.heap.size + 1 + 1, k * 6 + 4, none⟩ = some (.int .i64 d.N) ∧ w'.cell? ⟨w.heap.size + 1 + 1, k * 6 + 5, none⟩ = some (.slice ka d.K.length kc) ∧ w'.cell? ⟨w.heap.size + 1 + 1 + 1, k, none⟩ = some (.int .i64 n)) ∧ Out M wr w')) (by kernel_rfl) (KS.out _ (Out.refl _ _).drew) (fun hH => ?_)
        (refine hTake (i := 0) (v := ?_) rfl (by kernel_rfl) (by kernel_rfl) (by kernel_rfl) (fun _ _ _ h => h) (by kernel_rfl) ?_ (by assumption) ?_; rotate_left; focus (intro w' hS'; (try dsimp only at hS'); go_split_ands; (try go_simp); (try (with_reducible rfl)); done); try simp only [Act.put, List.setIfInBounds_toArray, List.set_cons_zero, List.set_cons_succ]); (refine hTake (i := 1) (v := ?_) rfl (by kernel_rfl) (by kernel_rfl) (by kernel_rfl) (fun _ _ _ h => h) (by kernel_rfl) ?_ (by assumption) ?_; rotate_left; focus (intro w' hS'; (try dsimp only at hS'); go_split_ands; (try go_simp); (try (with_reducible rfl)); done); try simp only [Act.put, List.setIfInBounds_toArray, List.set_cons_zero, List.set_cons_succ]); (refine hTake (i := 2) (v := ?_) rfl (by kernel_rfl) (by kernel_rfl) (by kernel_rfl) (fun _ _ _ h => h) (by kernel_rfl) ?_ (by assumption) ?_; rotate_left; focus (intro w' hS'; (try dsimp only at hS'); go_split_ands; (try go_simp); (try (with_reducible rfl)); done); try simp only [Act.put, List.setIfInBounds_toArray, List.set_cons_zero, List.set_cons_succ]); (refine hTake (i := 3) (v := ?_) rfl (by kernel_rfl) (by kernel_rfl) (by kernel_rfl) (fun _ _ _ h => h) (by kernel_rfl) ?_ (by assumption) ?_; rotate_left; focus (intro w' hS'; (try dsimp only at hS'); go_split_ands; (try go_simp); (try (with_reducible rfl)); done); try simp only [Act.put, List.setIfInBounds_toArray, List.set_cons_zero, List.set_cons_succ]); (refine hTake (i := 4) (v := ?_) rfl (by kernel_rfl) (by kernel_rfl) (by kernel_rfl) (fun _ _ _ h => h) (by kernel_rfl) ?_ (by assumption) ?_; rotate_left; focus (intro w' hS'; (try dsimp only at hS'); go_split_ands; (try go_simp); (try (with_reducible rfl)); done); try simp only [Act.put, List.setIfInBounds_toArray, List.set_cons_zero, List.set_cons_succ]); (refine hTake (i := 6) (v := ?_) rfl (by kernel_rfl) (by kernel_rfl) (by kernel_rfl) (fun _ _ _ h => h) (by kernel_rfl) ?_ (by assumption) ?_; rotate_left; focus (intro w' hS'; (try dsimp only at hS'); go_split_ands; (try go_simp); (try (with_reducible rfl)); done); try simp only [Act.put, List.setIfInBounds_toArray, List.set_cons_zero, List.set_cons_succ]); (refine hTake (i := 7) (v := ?_) rfl (by kernel_rfl) (by kernel_rfl) (by kernel_rfl) (fun _ _ _ h => h) (by kernel_rfl) ?_ (by assumption) ?_; rotate_left; focus (intro w' hS'; (try dsimp only at hS'); go_split_ands; (try go_simp); (try (with_reducible rfl)); done); try simp only [Act.put, List.setIfInBounds_toArray, List.set_cons_zero, List.set_cons_succ]); (refine hTake (i := 8) (v := ?_) rfl (by kernel_rfl) (by kernel_rfl) (by kernel_rfl) (fun _ _ _ h => h) (by kernel_rfl) ?_ (by assumption) ?_; rotate_left; focus (intro w' hS'; (try dsimp only at hS'); go_split_ands; (try go_simp); (try (with_reducible rfl)); done); try simp only [Act.put, List.setIfInBounds_toArray, List.set_cons_zero, List.set_cons_succ]); (refine hTake (i := 9) (v := ?_) rfl (by kernel_rfl) (by kernel_rfl) (by kernel_rfl) (fun _ _ _ h => h) (by kernel_rfl) ?_ (by assumption) ?_; rotate_left; focus (intro w' hS'; (try dsimp only at hS'); go_split_ands; (try go_simp); (try (with_reducible rfl)); done); try simp only [Act.put, List.setIfInBounds_toArray, List.set_cons_zero, List.set_cons_succ])
        refine hOne (i := 5) rfl (by kernel_rfl) (fun K hK => ?_)
        go_simp
        refine CW.out.mono ?_
        rintro e w3 ⟨rfl, M3, hf3, hM3, ho3⟩
        have HF3 := Lib.hid hf3
        have HM3 := Lib.hid hM3
        have ho4 := Out.trans (Out.drew (Out.refl _ _)) ho3 (fun k hk => .inl hk)
        clear hf3 hM3 ho3
        go_wp2_with fail
        refine hK.out _ _ (KS.out _ ho4) (fun hH => ?_)
        clear hK K
        (refine hTake (i := 10) (v := ?_) rfl (by kernel_rfl) (by kernel_rfl) (by kernel_rfl) (fun _ _ _ h => h) (by kernel_rfl) ?_ (by assumption) ?_; rotate_left; focus (intro w' hS'; (try dsimp only at hS'); go_split_ands; (try go_simp); (try (with_reducible rfl)); done); try simp only [Act.put, List.setIfInBounds_toArray, List.set_cons_zero, List.set_cons_succ]); (refine hTake (i := 11) (v := ?_) rfl (by kernel_rfl) (by kernel_rfl) (by kernel_rfl) (fun _ _ _ h => h) (by kernel_rfl) ?_ (by assumption) ?_; rotate_left; focus (intro w' hS'; (try dsimp only at hS'); go_split_ands; (try go_simp); (try (with_reducible rfl)); done); try simp only [Act.put, List.setIfInBounds_toArray, List.set_cons_zero, List.set_cons_succ]); (refine hTake (i := 12) (v := ?_) rfl (by kernel_rfl) (by kernel_rfl) (by kernel_rfl) (fun _ _ _ h => h) (by kernel_rfl) ?_ (by assumption) ?_; rotate_left; focus (intro w' hS'; (try dsimp only at hS'); go_split_ands; (try go_simp); (try (with_reducible rfl)); done); try simp only [Act.put, List.setIfInBounds_toArray, List.set_cons_zero, List.set_cons_succ]); (refine hTake (i := 13) (v := ?_) rfl (by kernel_rfl) (by kernel_rfl) (by kernel_rfl) (fun _ _ _ h => h) (by kernel_rfl) ?_ (by assumption) ?_; rotate_left; focus (intro w' hS'; (try dsimp only at hS'); go_split_ands; (try go_simp); (try (with_reducible rfl)); done); try simp only [Act.put, List.setIfInBounds_toArray, List.set_cons_zero, List.set_cons_succ]); (refine hTake (i := 14) (v := ?_) rfl (by kernel_rfl) (by kernel_rfl) (by kernel_rfl) (fun _ _ _ h => h) (by kernel_rfl) ?_ (by assumption) ?_; rotate_left; focus (intro w' hS'; (try dsimp only at hS'); go_split_ands; (try go_simp); (try (with_reducible rfl)); done); try simp only [Act.put, List.setIfInBounds_toArray, List.set_cons_zero, List.set_cons_succ])
        (refine hSkip (i := 15) rfl (by kernel_rfl) (by kernel_rfl) (by kernel_rfl) (fun _ _ _ h => h) (by kernel_rfl) (by assumption) ?_; try simp only [Act.put, List.setIfInBounds_toArray, List.set_cons_zero, List.set_cons_succ]); (refine hSkip (i := 16) rfl (by kernel_rfl) (by kernel_rfl) (by kernel_rfl) (fun _ _ _ h => h) (by kernel_rfl) (by assumption) ?_; try simp only [Act.put, List.setIfInBounds_toArray, List.set_cons_zero, List.set_cons_succ]); (refine hSkip (i := 17) rfl (by kernel_rfl) (by kernel_rfl) (by kernel_rfl) (fun _ _ _ h => h) (by kernel_rfl) (by assumption) ?_; try simp only [Act.put, List.setIfInBounds_toArray, List.set_cons_zero, List.set_cons_succ]); (refine hSkip (i := 18) rfl (by kernel_rfl) (by kernel_rfl) (by kernel_rfl) (fun _ _ _ h => h) (by kernel_rfl) (by assumption) ?_; try simp only [Act.put, List.setIfInBounds_toArray, List.set_cons_zero, List.set_cons_succ]); (refine hSkip (i := 19) rfl (by kernel_rfl) (by kernel_rfl) (by kernel_rfl) (fun _ _ _ h => h) (by kernel_rfl) (by assumption) ?_; try simp only [Act.put, List.setIfInBounds_toArray, List.set_cons_zero, List.set_cons_succ]); (refine hTake (i := 20) (v := ?_) rfl (by kernel_rfl) (by kernel_rfl) (by kernel_rfl) (fun _ _ _ h => h) (by kernel_rfl) ?_ (by assumption) ?_; rotate_left; focus (intro w' hS'; (try dsimp only at hS'); go_split_ands; (try go_simp); (try (with_reducible rfl)); done); try simp only [Act.put, List.setIfInBounds_toArray, List.set_cons_zero, List.set_cons_succ]); (refine hTake (i := 21) (v := ?_) rfl (by kernel_rfl) (by kernel_rfl) (by kernel_rfl) (fun _ _ _ h => h) (by kernel_rfl) ?_ (by assumption) ?_; rotate_left; focus (intro w' hS'; (try dsimp only at hS'); go_split_ands; (try go_simp); (try (with_reducible rfl)); done); try simp only [Act.put, List.setIfInBounds_toArray, List.set_cons_zero, List.set_cons_succ])
        refine wpAnyH_done (by kernel_rfl) ?_ _
        go_wp2_with fail
        case roundEnd =>
          refine ⟨⟨k + 1, by omega, by go_num, M3, HF3, Lib.hid (fun x hx => ?_), hbel.trans (ho4.below hbel.size HM.out)⟩, ?_⟩
          · rcases HM3.out x hx with h | h
            · exact HM.out x h
            · exact Nat.le_trans hbel.size h
          · simp [intOf]; omega
    · obtain rfl : k = 11 := by omega
      have CA := Lib.hid (read_any HF.out (ds_sound 11) (tx [97]))
      rw [ds_ra, ds_a] at CA
      go_wp2_with fail
      (with_reducible refine CA.out.mono ?_); rintro e w5 ⟨rfl, hb5⟩
      have CB := Lib.hid (read_any (HF.out.below hb5) (ds_sound 11) (tx [98]))
      rw [ds_rb, ds_b] at CB
      go_wp2_with fail
      (with_reducible refine CB.out.mono ?_); rintro e w6 ⟨rfl, hb6⟩
      have CS := Lib.hid (starts_any ((HF.out.below hb5).below hb6))
      rw [ds_st] at CS
      go_wp2_with fail
      (with_reducible refine CS.out.mono ?_); rintro e w7 ⟨rfl, rfl⟩
      go_wp2_with fail
      go_ret
      exact ⟨rfl, hB.trans ((hbel.mono hB.size).trans ((hb5.mono (Nat.le_trans hB.size hbel.size)).trans (hb6.mono (Nat.le_trans (Nat.le_trans hB.size hbel.size) hb5.size))))⟩
end Go.Proofs.Ytmoaecicibjmnaa
