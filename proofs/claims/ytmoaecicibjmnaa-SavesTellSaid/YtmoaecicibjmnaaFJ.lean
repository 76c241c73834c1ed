/- (*FS).Sync. -/
import Derived.Test.YtmoaecicibjmnaaFI
namespace Go.Proofs.Ytmoaecicibjmnaa
open Go.RowKit

def putF (F : FR) (i : Nat) (x : PF) : FR := { F with files := F.files.set i x }
/-- Where a file system's i-th file lies. -/
theorem FSIn.file {M : Nat → Prop} {w : World} {b : Nat} {F : FR} {fv kv : Value} (h : FSIn M w b F fv kv) {i : Nat} {x : PF} (hx : F.files[i]? = some x) :
    ∃ g cap, fv = .slice (some ⟨g, 0, none⟩) F.files.length cap ∧ g < w.heap.size ∧ M g ∧ g ≠ b ∧ w.cell? ⟨g, i * 3, none⟩ = some (.string x.name) ∧ w.cell? ⟨g, i * 3 + 1, none⟩ = some (.string x.pl) ∧ w.cell? ⟨g, i * 3 + 2, none⟩ = some (.string x.air) ∧ ∀ j, w.frozen? ⟨g, j, none⟩ = false := by
  obtain ⟨g, cap, rfl, h1, h2, hg, hc, hf⟩ := own_files h.own (by intro e; rw [e] at hx; simp at hx)
  obtain ⟨d0, d1, d2⟩ := hc i x hx
  exact ⟨g, cap, rfl, hg, (h.mf g rfl).1, (h.mf g rfl).2, d0, d1, d2, hf⟩
/-- A store into a file's platter and air. -/
theorem FSIn.store {M : Nat → Prop} {w : World} {b g n cap : Nat} {F : FR} {kv : Value} (h : FSIn M w b F (.slice (some ⟨g, 0, none⟩) n cap) kv) {i : Nat} {x : PF} (hx : F.files[i]? = some x) (p a : ByteArray) :
    FSIn M ((w.setCell ⟨g, i * 3 + 1, none⟩ (.string p)).setCell ⟨g, i * 3 + 2, none⟩ (.string a)) b (putF F i ⟨x.name, p, a⟩) (.slice (some ⟨g, 0, none⟩) n cap) kv := by
  have hgb := (h.mf g rfl).2
  refine h.turn (putF F i ⟨x.name, p, a⟩) rfl ?_ (own_store h.own i x hx p a) (by rw [size_set, size_set]; exact Nat.le_refl _) (fun c _ _ hc => ?_)
  · exact h.box.eq (by rw [setCell_heap_other _ _ _ _ _ (Ne.symm hgb), setCell_heap_other _ _ _ _ _ (Ne.symm hgb)])
  · have hcg : c ≠ g := fun e => hc (by rw [e]; rfl)
    rw [setCell_heap_other _ _ _ _ _ hcg, setCell_heap_other _ _ _ _ _ hcg]
set_option maxHeartbeats 4000000 in
set_option maxRecDepth 100000 in
theorem sync1_any {M : Nat → Prop} {b p i g : Nat} {F : FR} {fv kv : Value} {x : PF} (w : World) (h : FSIn M w b F fv kv) (hG : Sound F) (hx : F.files[i]? = some x) (hv : fv.ownBlock = some g) (hp : w.cell? ⟨p, 0, none⟩ = some (.pointer (some ⟨g, i * 3, none⟩))) :
    Calls Try.prog 60 #[.pointer (some ⟨p, 0, none⟩)] w fun e w' => e = .returned (.tuple #[]) ∧ Turned M w w' b (putF F i ⟨x.name, x.bytes, ByteArray.empty⟩) := by
  obtain ⟨g', cap, rfl, hg, hMg, hgb, d0, d1, d2, hf⟩ := h.file hx
  obtain rfl : g = g' := by injection hv with hv; exact hv.symm
  have H := Lib.hid h
  have HX := Lib.hid hx
  have C1 := fun w1 => Lib.hid (bytes_any x (hG.size (List.mem_of_getElem? hx)) w1)
  have hpl := lt_of_cell hp
  obtain ⟨S, hS⟩ : ∃ S, S = x.bytes := ⟨_, rfl⟩
  rw [← hS]
  simp only [← hS] at C1
  clear h hx hG hS
  go_enter Try.func60, Try.ntmps60
  have D1 : w.drew.cell? ⟨g, i * 3 + 1, none⟩ = some (.string x.pl) := d1
  have D2 : w.drew.cell? ⟨g, i * 3 + 2, none⟩ = some (.string x.air) := d2
  have D3 : w.drew.cell? ⟨p, 0, none⟩ = some (.pointer (some ⟨g, i * 3, none⟩)) := hp
  have D4 : g < w.drew.heap.size ∧ ∀ j, w.drew.frozen? ⟨g, j, none⟩ = false := ⟨hg, hf⟩
  go_region_with (go_at_call 47; with_reducible (refine (C1 _).out.mono ?_); rintro e w3 ⟨rfl, hb3⟩; have e1 := cell_later hb3 D1; have e2 := cell_later hb3 D2; have e3 := cell_later hb3 D3; have e4 := fun j => (hb3.frozen (p := ⟨g, j, none⟩) D4.1).trans (D4.2 j))
  all_goals
    go_end0
    exact ⟨rfl, M, ⟨_, kv, ((H.out.below (Below.refl _ _).drew).below hb3).store HX.out S ByteArray.empty⟩, fun k hk => .inl hk, ((Out.drewL (Out.of_below hb3)).set (.inl hMg) _ _).set (.inl hMg) _ _⟩
end Go.Proofs.Ytmoaecicibjmnaa
