/- What (*FS).Append's stroke does. -/
import Derived.Test.YtmoaecicibjmnaaFS
import Derived.BigRegion
namespace Go.Proofs.Ytmoaecicibjmnaa
open Go.RowKit

def noX (n : ByteArray) : PF := ⟨n, ByteArray.empty, ByteArray.empty⟩
def insL (L : List PF) (i : Nat) (x : PF) : List PF := L.take i ++ x :: L.drop i
def mkL (L : List PF) (n : ByteArray) : List PF := if isAt L n = true then L else insL L (place L n) (noX n)
def addX (x : PF) (s : ByteArray) : PF := ⟨x.name, x.pl, x.air ++ s⟩
def appL (L : List PF) (n s : ByteArray) : List PF := (mkL L n).modify (place L n) fun x => addX x s
/-- A store into a file's air. -/
theorem FSIn.air {M : Nat → Prop} {w : World} {b g n cap : Nat} {F : FR} {kv : Value} (h : FSIn M w b F (.slice (some ⟨g, 0, none⟩) n cap) kv) {i : Nat} {x : PF} (hx : F.files[i]? = some x) (a : ByteArray) :
    FSIn M (w.setCell ⟨g, i * 3 + 2, none⟩ (.string a)) b (putF F i ⟨x.name, x.pl, a⟩) (.slice (some ⟨g, 0, none⟩) n cap) kv := by
  have hgb := (h.mf g rfl).2
  have hi := (List.getElem?_eq_some_iff.1 hx).1
  have hown := h.own
  obtain rfl := own_n hown
  have e : (((cs F.files).set (i * 3) (.string x.name)).set (i * 3 + 1) (.string x.pl)) = cs F.files := by
    have h0 := cs_get F.files i x hx 0 (by omega)
    have h1 := cs_get F.files i x hx 1 (by omega)
    rw [Nat.add_zero] at h0
    apply List.ext_getElem?
    intro j
    by_cases hj : j = i * 3 + 1
    · subst hj
      rw [List.getElem?_set_self (by rw [List.length_set]; exact (List.getElem?_eq_some_iff.1 h1).1), h1]; rfl
    · rw [List.getElem?_set_ne (Ne.symm hj)]
      by_cases hj0 : j = i * 3
      · subst hj0
        rw [List.getElem?_set_self (List.getElem?_eq_some_iff.1 h0).1, h0]; rfl
      · rw [List.getElem?_set_ne (Ne.symm hj0)]
  refine h.turn (putF F i ⟨x.name, x.pl, a⟩) rfl (h.box.eq (setCell_heap_other _ _ _ _ _ (Ne.symm hgb))) ?_ (by rw [size_set]; exact Nat.le_refl _) (fun c _ _ hc => setCell_heap_other _ _ _ _ _ (fun e => hc (by rw [e]; rfl)))
  show World.ownsRow _ 0 _ 3 _ (F.files.set i ⟨x.name, x.pl, a⟩).length (cs (F.files.set i ⟨x.name, x.pl, a⟩))
  rw [List.length_set, cs_set F.files i hi]
  simp only
  rw [e]
  exact (hown.stored (i * 3 + 2) (.string a)).1
set_option maxHeartbeats 4000000 in
set_option maxRecDepth 100000 in
/-- The file is there: its air grows. -/
theorem append1_old {M : Nat → Prop} {b p0 p1 p2 p3 p4 : Nat} {F : FR} {x : PF} {i : Nat} (w : World) (h : FSAt M w b F) (s : ByteArray) (hx : F.files[i]? = some x) (hs : x.air.size + s.size ≤ 9223372036854775807) (_hi : i < 100)
    (h0 : w.cell? ⟨p0, 0, none⟩ = some (.bool true)) (h1 : w.cell? ⟨p1, 0, none⟩ = some (.pointer (some ⟨b, 0, none⟩))) (h2 : w.cell? ⟨p2, 0, none⟩ = some (.int .i64 (i : Nat))) (h4 : w.cell? ⟨p4, 0, none⟩ = some (.string s)) :
    Calls Try.prog 57 #[.pointer (some ⟨p0, 0, none⟩), .pointer (some ⟨p1, 0, none⟩), .pointer (some ⟨p2, 0, none⟩), .pointer (some ⟨p3, 0, none⟩), .pointer (some ⟨p4, 0, none⟩)] w fun e w' => e = .returned (.tuple #[]) ∧ Turned M w w' b (putF F i (addX x s)) := by
  obtain ⟨fv, kv, h⟩ := h
  obtain ⟨g, cap, rfl, hg, hMg, hgb, d0, d1, d2, hf⟩ := h.file hx
  have H := Lib.hid h
  have HX := Lib.hid hx
  have c3 := h.box.c3
  obtain ⟨q, hq⟩ : ∃ q, q = F.files.length := ⟨_, rfl⟩
  have hlt : i < q := by rw [hq]; exact (List.getElem?_eq_some_iff.1 hx).1
  have hcap : q ≤ cap ∧ cap ≤ maxLen := by
    rcases h.own.2 with ⟨he, _⟩ | ⟨_, _, _, he, _, _, k1, k2, _⟩
    · cases he
    · injection he with _ e1 e2
      rw [hq, e2]; exact ⟨k1, k2⟩
  rw [← hq] at c3
  have hs' : ¬ 9223372036854775807 < x.air.size + s.size := by omega
  clear h hx hq hs
  go_enter Try.func57, Try.ntmps57
  go_upto_region 2 with fail
  go_region
  go_end0
  exact ⟨rfl, M, ⟨_, kv, (H.out.air HX.out (x.air ++ s)).below (Below.refl _ _).drew⟩, fun k hk => .inl hk, ((Out.refl _ _).set (.inl hMg) _ _).drew⟩
end Go.Proofs.Ytmoaecicibjmnaa
