/- Plain laws of SavesBack. -/
import Derived.Test.YtmoaecicibjmnaaSQ
namespace Go.Proofs.Ytmoaecicibjmnaa
open Go.RowKit

theorem save_bad {F : FR} (ho : F.off = false) {n : ByteArray} (hn : badN n) (t : ByteArray) : saveE F n t = 2 ∧ saveF F n t = F := by
  have e0 : wE F n t 0 = 0 := by show onE F = 0; unfold onE; rw [if_neg (by rw [ho]; simp)]
  have e1 : wE F n t 1 = 2 := by show nameE n = 2; unfold nameE; rw [if_pos hn]
  obtain ⟨a1, a2⟩ := saved_at (F := F) (n := n) (t := t) (j := 1) (by omega) (fun i hi => by rw [show i = 0 by omega]; exact e0) (by rw [e1]; omega)
  exact ⟨a1.trans e1, a2⟩
theorem clean_none {F : FR} (hG : Sound F) (ho : F.off = false) (hno : ∀ y ∈ F.files, y.name ≠ dN) : wF3 F = F := by
  rcases hasE_on hG ho dN with ⟨_, x, hx, hn⟩ | ⟨h, _⟩
  · exact absurd hn (hno x hx)
  · unfold wF3 removeF; rw [if_neg (by rw [h]; omega)]
theorem load_bad {F : FR} (ho : F.off = false) {n : ByteArray} (hn : badN n) : loadE F n = 2 := by
  unfold loadE; rw [if_neg (by rw [ho]; simp), if_pos hn]
theorem load_mem {F : FR} (hG : Sound F) (ho : F.off = false) {n : ByteArray} (hn : ¬ badN n) {y : PF} (hy : y ∈ F.files) (hyn : y.name = n) : loadE F n = 0 ∧ loadS F n = y.bytes := by
  obtain ⟨k, hk⟩ := List.mem_iff_getElem?.1 hy
  obtain ⟨h1, h2⟩ := read_self hG ho hk
  rw [hyn] at h1 h2
  have h0 : loadE F n = 0 := by unfold loadE; rw [if_neg (by rw [ho]; simp), if_neg hn]; exact h1
  exact ⟨h0, by unfold loadS; rw [if_pos h0]; exact h2⟩
theorem load_none {F : FR} (hG : Sound F) (ho : F.off = false) {n : ByteArray} (hn : ¬ badN n) (hno : ∀ y ∈ F.files, y.name ≠ n) : loadE F n = 4 := by
  unfold loadE
  rw [if_neg (by rw [ho]; simp), if_neg hn]
  rcases hasE_on hG ho n with ⟨_, x, hx, he⟩ | ⟨h, _⟩
  · exact absurd he (hno x hx)
  · exact h
/-- A list of one. -/
theorem one_file {L : List PF} (hL : Rising L) {x : PF} (h : ∀ y, y ∈ L ↔ y = x) : L = [x] := by
  match L, hL, h with
  | [], _, h => exact absurd ((h x).2 rfl) (by simp)
  | [a], _, h => rw [(h a).1 (by simp)]
  | a :: b :: L, hL, h =>
    have h1 := (h a).1 (by simp)
    have h2 := (h b).1 (by simp)
    have := rising_get hL (i := 0) (j := 1) (by omega) (y := a) (x := b) rfl rfl
    rw [h1, h2, ltN_irr] at this
    cases this
/-- Without a draft, on, none of its strokes fails. -/
structure Plain (F : FR) : Prop where
  snd : Sound F
  off : F.off = false
  left : F.left = -1
  sync : ∀ y ∈ F.files, y.name ≠ dN ∧ y.air = ByteArray.empty
theorem Plain.save {F : FR} (h : Plain F) (n t : ByteArray) (hr : F.files.length ≠ 32 ∧ (total F.files : Int) + (t.size : Int) ≤ F.limit) :
    Plain (saveF F n t) ∧ (saveF F n t).limit = F.limit ∧ ((badN n ∧ saveE F n t = 2 ∧ saveF F n t = F) ∨ (¬ badN n ∧ saveE F n t = 0 ∧ ∀ y, y ∈ (saveF F n t).files ↔ y = ⟨n, t, ByteArray.empty⟩ ∨ (y ∈ F.files ∧ y.name ≠ n))) := by
  by_cases hb : badN n
  · obtain ⟨h1, h2⟩ := save_bad h.off hb t
    rw [h2]
    exact ⟨h, rfl, .inl ⟨hb, h1, rfl⟩⟩
  · rcases save_law h.snd h.off (fun y hy _ => (h.sync y hy).2) hb t with ⟨he, hd⟩ | ⟨_, _, _, hf⟩ | ⟨_, hc⟩
    · have hm : ∀ y, y ∈ (saveF F n t).files ↔ y = ⟨n, t, ByteArray.empty⟩ ∨ (y ∈ F.files ∧ y.name ≠ n) := fun y => by
        rw [hd.files]
        constructor
        · rintro (h1 | ⟨h1, h2, _⟩)
          · exact .inl h1
          · exact .inr ⟨h1, h2⟩
        · rintro (h1 | ⟨h1, h2⟩)
          · exact .inl h1
          · exact .inr ⟨h1, h2, (h.sync y h1).1⟩
      refine ⟨⟨h.snd.saved n t, hd.off, hd.neg h.left, fun y hy => ?_⟩, hd.lim, .inr ⟨hb, he, hm⟩⟩
      rcases (hm y).1 hy with rfl | ⟨h1, _⟩
      · exact ⟨(good_name hb).2, rfl⟩
      · exact h.sync y h1
    · rw [clean_none h.snd h.off fun y hy => (h.sync y hy).1] at hf
      rcases hf with hf | hf
      · exact absurd hf hr.1
      · omega
    · exact absurd h.left hc.hit
/-- Over a crash, and a start. -/
theorem Plain.crash {F : FR} (h : Plain F) (keep : List Int) : Plain (startF (crashF F keep)) ∧ ∀ y, y ∈ (startF (crashF F keep)).files ↔ y ∈ F.files := by
  have hm : ∀ y, y ∈ (startF (crashF F keep)).files ↔ y ∈ F.files := fun y => by
    show y ∈ crashL F.files keep ↔ _
    constructor
    · intro hy
      obtain ⟨i, hi⟩ := List.mem_iff_getElem?.1 hy
      obtain ⟨x, hx⟩ : ∃ x, F.files[i]? = some x := ⟨_, List.getElem?_eq_getElem (by have := (List.getElem?_eq_some_iff.1 hi).1; rw [crash_len] at this; exact this)⟩
      have h1 := crash_get F.files keep hx
      rw [hi] at h1
      injection h1 with h1
      rw [h1, cr_synced (h.sync x (List.mem_of_getElem? hx)).2]
      exact List.mem_of_getElem? hx
    · intro hy
      obtain ⟨i, hi⟩ := List.mem_iff_getElem?.1 hy
      have h1 := crash_get F.files keep hi
      rw [cr_synced (h.sync y hy).2] at h1
      exact List.mem_of_getElem? h1
  exact ⟨⟨(h.snd.crash keep).start, rfl, rfl, fun y hy => h.sync y ((hm y).1 hy)⟩, hm⟩
theorem bytes_flat (n t : ByteArray) : PF.bytes ⟨n, t, ByteArray.empty⟩ = t := by simp [PF.bytes]
/-- SavesBack. -/
theorem back_law (n0 n1 t0 t1 : ByteArray) (h0 : t0.size ≤ 3000) (h1 : t1.size ≤ 3000) (keep : List Int) (F1 F2 F4 : FR) (e1 : F1 = saveF (newF 20000) n0 t0) (e2 : F2 = saveF F1 n1 t1) (e4 : F4 = startF (crashF F2 keep)) :
    Sound F1 ∧ Plain F2 ∧ Sound F4 ∧ loadE F4 n0 = saveE (newF 20000) n0 t0 ∧ loadE F4 n1 = saveE F1 n1 t1 ∧
    (saveE (newF 20000) n0 t0 = 0 → loadS F4 n0 = if n0 = n1 then t1 else t0) ∧ (saveE F1 n1 t1 = 0 → loadS F4 n1 = t1) := by
  have p0 : Plain (newF 20000) := ⟨Sound.new 20000 (by omega) (by omega), rfl, rfl, fun y hy => by cases hy⟩
  obtain ⟨p1, l1, c1⟩ := p0.save n0 t0 ⟨by show (0 : Nat) ≠ 32; omega, by show ((0 : Nat) : Int) + _ ≤ 20000; omega⟩
  rw [← e1] at p1 l1 c1
  have r1 : F1.files.length ≠ 32 ∧ (total F1.files : Int) + (t1.size : Int) ≤ F1.limit := by
    rw [l1]
    show _ ∧ _ ≤ (20000 : Int)
    rcases c1 with ⟨_, _, hf⟩ | ⟨_, _, hm⟩
    · rw [hf]
      exact ⟨by show (0 : Nat) ≠ 32; omega, by show ((0 : Nat) : Int) + _ ≤ 20000; omega⟩
    · have hx : ∀ y, y ∈ F1.files ↔ y = ⟨n0, t0, ByteArray.empty⟩ := fun y => by
        rw [hm]
        constructor
        · rintro (h | ⟨h, _⟩)
          · exact h
          · cases h
        · exact fun h => .inl h
      have hl := one_file p1.snd.asc hx
      rw [hl]
      refine ⟨by simp, ?_⟩
      have : total [⟨n0, t0, ByteArray.empty⟩] = t0.size := by simp [total]
      rw [this]; omega
  obtain ⟨p2, _, c2⟩ := p1.save n1 t1 r1
  rw [← e2] at p2 c2
  obtain ⟨p4, m4⟩ := p2.crash keep
  rw [← e4] at p4 m4
  have a1 : ∀ {n : ByteArray}, n = n1 → ¬ badN n1 → saveE F1 n1 t1 = 0 ∧ loadE F4 n = 0 ∧ loadS F4 n = t1 := by
    rintro n rfl hb
    rcases c2 with ⟨hb', _⟩ | ⟨_, he, hm⟩
    · exact absurd hb' hb
    · obtain ⟨q1, q2⟩ := load_mem p4.snd p4.off hb ((m4 _).2 ((hm _).2 (.inl rfl))) rfl
      exact ⟨he, q1, q2.trans (bytes_flat _ _)⟩
  refine ⟨p1.snd, p2, p4.snd, ?_, ?_, ?_, ?_⟩
  · rcases c1 with ⟨hb, he, _⟩ | ⟨hb, he, hm⟩
    · rw [he, load_bad p4.off hb]
    · by_cases hnn : n0 = n1
      · rw [he]; exact (a1 hnn (hnn ▸ hb)).2.1
      · rw [he]
        refine (load_mem p4.snd p4.off hb (y := ⟨n0, t0, ByteArray.empty⟩) ((m4 _).2 ?_) rfl).1
        rcases c2 with ⟨_, _, hf⟩ | ⟨_, _, hm2⟩
        · rw [hf]; exact (hm _).2 (.inl rfl)
        · exact (hm2 _).2 (.inr ⟨(hm _).2 (.inl rfl), hnn⟩)
  · by_cases hb : badN n1
    · rw [load_bad p4.off hb]
      rcases c2 with ⟨_, he, _⟩ | ⟨hb', _⟩
      · exact he.symm
      · exact absurd hb hb'
    · obtain ⟨q0, q1, _⟩ := a1 rfl hb
      rw [q0, q1]
  · intro hz
    rcases c1 with ⟨_, he, _⟩ | ⟨hb, he, hm⟩
    · omega
    · by_cases hnn : n0 = n1
      · rw [if_pos hnn]; exact (a1 hnn (hnn ▸ hb)).2.2
      · rw [if_neg hnn]
        refine ((load_mem p4.snd p4.off hb (y := ⟨n0, t0, ByteArray.empty⟩) ((m4 _).2 ?_) rfl).2).trans (bytes_flat _ _)
        rcases c2 with ⟨_, _, hf⟩ | ⟨_, _, hm2⟩
        · rw [hf]; exact (hm _).2 (.inl rfl)
        · exact (hm2 _).2 (.inr ⟨(hm _).2 (.inl rfl), hnn⟩)
  · intro hz
    by_cases hb : badN n1
    · rcases c2 with ⟨_, he, _⟩ | ⟨hb', _⟩
      · omega
      · exact absurd hb hb'
    · exact (a1 rfl hb).2.2
end Go.Proofs.Ytmoaecicibjmnaa
