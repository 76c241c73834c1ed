/- held: what each file has. -/
import Derived.Test.YtmoaecicibjmnaaKL
namespace Go.Proofs.Ytmoaecicibjmnaa
open Go.RowKit

theorem place_self {L : List PF} (hL : Rising L) {k : Nat} {x : PF} (hx : L[k]? = some x) : place L x.name = k := by
  refine place_eq L x.name k (Nat.le_of_lt (List.getElem?_eq_some_iff.1 hx).1) (fun t y ht hy => rising_get hL ht hy hx) fun y hy => ?_
  rw [hx] at hy
  injection hy with hy
  subst hy
  exact ltN_irr _
theorem isAt_self {L : List PF} (hL : Rising L) {k : Nat} {x : PF} (hx : L[k]? = some x) : isAt L x.name = true := by
  unfold isAt
  rw [place_self hL hx, hx]
  simp
theorem read_self {F : FR} (hG : Sound F) (ho : F.off = false) {k : Nat} {x : PF} (hx : F.files[k]? = some x) : hasE F x.name = 0 ∧ readS F x.name = x.bytes := by
  have h0 : hasE F x.name = 0 := by unfold hasE; rw [if_neg (by rw [ho]; simp), if_pos (isAt_self hG.asc hx)]
  refine ⟨h0, ?_⟩
  unfold readS
  rw [if_pos h0, place_self hG.asc hx, hx]

set_option maxRecDepth 100000 in
set_option maxHeartbeats 8000000 in
theorem held_any {M : Nat → Prop} {b : Nat} {F : FR} (w : World) (h : FSAt M w b F) (hG : Sound F) (ho : F.off = false) :
    Calls Try.prog 35 #[.pointer (some ⟨b, 0, none⟩)] w fun e w' => (∃ v, e = .returned v ∧ TextsIn (fun k => w.heap.size ≤ k) w' v (F.files.map PF.bytes)) ∧ Below w.heap.size w w' := by
  have H := Lib.hid h
  have HG := Lib.hid hG
  have HO := Lib.hid ho
  have CN := Lib.hid (names_any h hG)
  have hcnt := hG.cnt
  obtain ⟨q, hq⟩ : ∃ q, q = F.files.length := ⟨_, rfl⟩
  have HQ := Lib.hid hq
  rw [← hq] at hcnt
  clear h hG ho hq
  go_enter Try.func35, Try.ntmps35
  go_wp2_with fail
  (with_reducible refine CN.out.mono ?_); rintro e w2 ⟨⟨nv, rfl, hn⟩, hb2⟩
  have HT := Lib.hid (names_in hn)
  obtain ⟨na, nc, hnv, _⟩ := HT.out
  subst hnv
  have hl : (F.files.map PF.name).length = q := by rw [List.length_map]; exact HQ.out.symm
  rw [hl] at HT ⊢
  clear hn CN hl
  go_wp2_with fail
  go_loopw [5, 3] (fun i out wr => ∃ k : Nat, k ≤ q ∧ i = .int .i64 (k : Nat) ∧ Hid (wr.ownsRow w2.heap.size 9 1 out k ((F.files.take k).map fun x => Value.string x.bytes)) ∧ Below w2.heap.size w2 wr) (fun i _ _ => q - (intOf i).toNat)
  case atStart => exact ⟨0, Nat.zero_le _, rfl, Lib.hid (World.ownsRow_nil _ _ _ _), Below.refl _ _⟩
  case round =>
    obtain ⟨k, hkq, rfl, hown, hbel⟩ := hrel
    by_cases hlt : k < q
    · obtain ⟨x, hx⟩ := get_of_lt F.files k (by rw [← HQ.out]; exact hlt)
      have hl : (F.files.map PF.name).length = q := by rw [List.length_map]; exact HQ.out.symm
      obtain ⟨a3, c3, hv3, hh⟩ := HT.out
      injection hv3 with e1 e2 e3
      clear e2 e3
      subst e1
      obtain ⟨ub, uo, e1, hub, _, hcc⟩ := hh (by intro e; rw [e] at hl; simp at hl; omega)
      subst e1
      have hx1 : (F.files.map PF.name)[k]? = some x.name := by rw [List.getElem?_map, hx]; rfl
      have q1 : wr.cell? ⟨ub, uo + k, none⟩ = some (.string x.name) := by
        rw [World.cell?_of_block (a := ⟨ub, uo + k, none⟩) (hbel.block ub hub), hcc k (by omega)]
        rw [List.getElem?_eq_getElem (by omega)] at hx1
        injection hx1 with hx1
        rw [hx1]
      obtain ⟨r0, r1⟩ := read_self HG.out HO.out hx
      have CR0 := read_any ((H.out.below hb2).below hbel) HG.out x.name
      rw [r0, r1] at CR0
      have CR := Lib.hid CR0
      have hts : (F.files.take (k + 1)).map (fun x => Value.string x.bytes) = (F.files.take k).map (fun x => Value.string x.bytes) ++ [Value.string x.bytes] := by
        rw [List.take_add_one, hx, List.map_append]; rfl
      obtain ⟨z, hz⟩ : ∃ z, z = x.bytes := ⟨_, rfl⟩
      rw [← hz] at hts CR
      have HTS := Lib.hid hts
      clear hcc hx1 hx hts hz CR0 r0 r1 hh hl
      go_wp2_with fail
      (with_reducible refine CR.out.mono ?_); rintro e w4 ⟨rfl, hb4⟩
      have hown4 := Lib.hid (own_below hown.out hb4)
      have hb5 : Below w2.heap.size w2 w4 := hbel.trans (hb4.mono hbel.size)
      have hB2 : w2.heap.size ≤ (w4.alloc (.cells #[.string z] 9)).heap.size := by rw [size_alloc]; have := hb5.size; omega
      go_wp2_with (at_builtin; refine wpList_append_one rfl (.tmp 27) (.tmp 29) 30 rfl 9 (.string ByteArray.empty) 16 (by kernel_rfl) (by kernel_rfl) rfl w2.heap.size u3 k _ (by simp [Act.eval]) (hown4.out.alloc _) w4.heap.size 1 (by simp [Act.eval]) (.string z) (new_one _ _ _) rfl (by omega) (by decide) hB2 ?_; intro g7 c7 w7 hown7 hgr7 hb7)
      go_roundw
      case rel => exact ⟨k + 1, by omega, by go_num, Lib.hid (by rw [HTS.out]; exact hown7.out), (hb5.alloc hb5.size _).trans hb7⟩
      case measure => simp [intOf]; omega
    · obtain rfl : k = q := by omega
      go_wp2_with fail
      go_ret
      refine ⟨⟨_, rfl, ?_⟩, below_tr hb2 hbel⟩
      have h1 := hown.out
      rw [List.take_of_length_le (by rw [HQ.out]; exact Nat.le_refl _)] at h1
      have hl : (F.files.map PF.bytes).length = k := by rw [List.length_map]; exact HQ.out.symm
      have h2 : TextsIn (fun x => w2.heap.size ≤ x) wr u3 (F.files.map PF.bytes) := texts_in (e := 9) (by rw [hl, List.map_map]; exact h1)
      exact h2.eq (Nat.le_refl _) fun x _ hx => ⟨rfl, Nat.le_trans hb2.size hx⟩
end Go.Proofs.Ytmoaecicibjmnaa
