/- (*FS).Truncate. -/
import Derived.Test.YtmoaecicibjmnaaFN
import Derived.BigRegion
namespace Go.Proofs.Ytmoaecicibjmnaa
open Go.RowKit

def cutX (x : PF) (k : Int) : PF := ⟨x.name, x.pl.extract 0 (min k.toNat x.pl.size), x.air.extract 0 (k.toNat - min k.toNat x.pl.size)⟩
set_option maxHeartbeats 4000000 in
set_option maxRecDepth 100000 in
theorem truncate1_any {M : Nat → Prop} {b pn px i g : Nat} {F : FR} {fv kv : Value} {x : PF} {k : Int} (w : World) (h : FSIn M w b F fv kv) (hG : Sound F) (hx : F.files[i]? = some x) (hv : fv.ownBlock = some g) (hk0 : 0 ≤ k) (hk1 : k ≤ x.pl.size + x.air.size)
    (hn : w.cell? ⟨pn, 0, none⟩ = some (.int .i64 k)) (hp : w.cell? ⟨px, 0, none⟩ = some (.pointer (some ⟨g, i * 3, none⟩))) :
    Calls Try.prog 90 #[.pointer (some ⟨pn, 0, none⟩), .pointer (some ⟨px, 0, none⟩)] w fun e w' => e = .returned (.tuple #[]) ∧ Turned M w w' b (putF F i (cutX x k)) := by
  obtain ⟨g', cap, rfl, hg, hMg, hgb, d0, d1, d2, hf⟩ := h.file hx
  obtain rfl : g = g' := by injection hv with hv; exact hv.symm
  have H := Lib.hid h
  have HX := Lib.hid hx
  have hsz := hG.size (List.mem_of_getElem? hx)
  obtain ⟨q, rfl⟩ : ∃ q : Nat, k = (q : Int) := ⟨k.toNat, by omega⟩
  obtain ⟨m, hm⟩ : ∃ m, m = min q x.pl.size := ⟨_, rfl⟩
  obtain ⟨r, hr⟩ : ∃ r, r = q - m := ⟨_, rfl⟩
  obtain ⟨P, hP⟩ : ∃ P, P = x.pl.size := ⟨_, rfl⟩
  have HM := Lib.hid hm
  have HRR := Lib.hid hr
  have hmq : m ≤ q := by omega
  have hmp : m ≤ x.pl.size := by omega
  have hra : r ≤ x.air.size := by omega
  have hrq : (q : Int) - (m : Int) = (r : Int) := by omega
  clear h hx hG hm hr hP P
  go_enter Try.func90, Try.ntmps90
  go_upto_region 0 with fail
  go_cut [2] from 3 (fun s2 wx => s2 = .int .i64 (m : Nat) ∧ Below w.heap.size w wx)
  case first =>
    go_quiet (fail)
    go_wp2_with fail
    all_goals
      go_meet
      refine ⟨?_, below_drewN (Below.refl _ _) _⟩
      rw [HM.out]
      congr 1
      omega
  case rest =>
    obtain ⟨rfl, hb⟩ := hcut
    obtain ⟨w2, rfl⟩ : ∃ w2 : World, w2 = wc := ⟨_, rfl⟩
    have e1 := cell_later hb d1
    have e2 := cell_later hb d2
    have e3 := cell_later hb hn
    have e4 := cell_later hb hp
    have e5 := fun j => (hb.frozen (p := ⟨g, j, none⟩) hg).trans (hf j)
    clear d0 d1 d2 hn hp hf
    go_upto_region 1 with fail
    go_region
    go_end0
    have hc : cutX x (q : Int) = ⟨x.name, x.pl.extract 0 m, x.air.extract 0 r⟩ := by unfold cutX; rw [HRR.out, HM.out]; rfl
    rw [hc]
    exact ⟨rfl, M, ⟨_, kv, ((H.out.below hb).store HX.out (x.pl.extract 0 m) (x.air.extract 0 r)).below (Below.refl _ _).drew⟩, fun k hk => .inl hk, (((Out.of_below hb).set (.inl hMg) _ _).set (.inl hMg) _ _).drew⟩
end Go.Proofs.Ytmoaecicibjmnaa
