/- After: a file system behind what was done to it. -/
import Derived.Test.YtmoaecicibjmnaaKJ
namespace Go.Proofs.Ytmoaecicibjmnaa
open Go.RowKit

theorem setX_left (F : FR) (n : ByteArray) (f : PF → PF) : (setX F n f).left = F.left := by unfold setX; split <;> rfl
theorem doneF_left {F F2 : FR} (h : F.left = -1) (h2 : F2.left = F.left) : (doneF F F2).left = -1 := by
  unfold doneF
  rw [if_neg (by omega), if_neg (by omega), h2, h]
theorem with_left {F : FR} {d : DoR} (h : F.left = -1) (hd : d.what % 12 ≠ 11) : (withF F d).left = -1 := by
  unfold withF
  split
  · unfold syncF; split; exact doneF_left h (setX_left _ _ _); exact h
  · unfold syncF; split; exact doneF_left h (setX_left _ _ _); exact h
  · unfold cutF; split; exact doneF_left h (setX_left _ _ _); exact h
  · unfold renameF; split; exact doneF_left h rfl; exact h
  · unfold removeF; split; exact doneF_left h rfl; exact h
  · unfold crashG; split; exact h; rfl
  · unfold startF; split <;> exact h
  · unfold startF; split <;> exact h
  · exact absurd ‹_› hd
  · unfold appF; split
    · exact h
    · have hx : (appX F d.A d.S).left = F.left := (appX_left F d.A d.S).1
      unfold doneA; rw [if_neg (by omega), if_neg (by omega), hx, h]
def afterStep (F : FR) (d : DoR) : FR := if d.what % 12 = 11 then F else withF F d
def afterL (c : Int) (L : List DoR) : FR := L.foldl afterStep (newF c)
def afterF (c : Int) (L : List DoR) : FR := startF (afterL c L)
theorem afterL_succ (c : Int) (L : List DoR) (k : Nat) (d : DoR) (h : L[k]? = some d) : afterL c (L.take (k + 1)) = afterStep (afterL c (L.take k)) d := by
  unfold afterL
  rw [List.take_add_one, h, List.foldl_append]; rfl
/-- What holds behind an After. -/
structure Fresh (c : Int) (F : FR) : Prop where
  sound : Sound F
  limit : F.limit = c
  left : F.left = -1
theorem Fresh.step {c : Int} {F : FR} (h : Fresh c F) {d : DoR} (hN : d.N ≤ 9223372036854775807) (hK : d.K.length ≤ 1000000) : Fresh c (afterStep F d) := by
  unfold afterStep
  split
  · exact h
  · exact ⟨h.sound.with' d hN hK, (with_limit F d).trans h.limit, with_left h.left ‹_›⟩
theorem Fresh.new (c : Int) (h1 : 1 ≤ c) (h2 : c ≤ 1048576) : Fresh c (newF c) := ⟨Sound.new c h1 h2, rfl, rfl⟩
theorem Sound.start {F : FR} (h : Sound F) : Sound (startF F) := by
  unfold startF; split
  · exact ⟨h.lim1, h.lim2, h.cnt, h.asc, h.nam, h.sum, h.lf, h.kl⟩
  · exact h
theorem Fresh.start {c : Int} {F : FR} (h : Fresh c F) : Fresh c (startF F) := by
  refine ⟨h.sound.start, ?_, ?_⟩
  · unfold startF; split <;> exact h.limit
  · unfold startF; split <;> exact h.left
theorem start_on (F : FR) : (startF F).off = false := by
  unfold startF; split
  · rfl
  · rename_i h; cases e : F.off; rfl; exact absurd e h
theorem after_fresh (c : Int) (h1 : 1 ≤ c) (h2 : c ≤ 1048576) (L : List DoR) (hN : ∀ d ∈ L, d.N ≤ 9223372036854775807 ∧ d.K.length ≤ 1000000) : Fresh c (afterL c L) := by
  have key : ∀ (L : List DoR) (F : FR), (∀ d ∈ L, d.N ≤ 9223372036854775807 ∧ d.K.length ≤ 1000000) → Fresh c F → Fresh c (L.foldl afterStep F) := by
    intro L
    induction L with
    | nil => intro F _ h; exact h
    | cons d L ih => intro F hd h; exact ih _ (fun x hx => hd x (List.mem_cons_of_mem _ hx)) (h.step (hd d (by simp)).1 (hd d (by simp)).2)
  exact key L _ hN (Fresh.new c h1 h2)

set_option maxRecDepth 100000 in
set_option maxHeartbeats 8000000 in
theorem after_any (s : Int) (v : Value) (L : List DoR) (w : World) (hs : 0 ≤ s ∧ s < 65536) (h : DosAt (fun k => k < w.heap.size) w v L) (hb : L.length ≤ 9223372036854775807) (hd : ∀ d ∈ L, DoOK d ∧ d.K.length ≤ 1000000) :
    Calls Try.prog 21 #[.int .u16 s, v] w fun e w' => ∃ b, e = .returned (.pointer (some ⟨b, 0, none⟩)) ∧ ∃ M, FSAt M w' b (afterF (1 + s) L) ∧ (∀ k, M k → w.heap.size ≤ k) ∧ Below w.heap.size w w' := by
  have HL := Lib.hid h
  have HD := Lib.hid hd
  have hfr : ∀ k, Fresh (1 + s) (afterL (1 + s) (L.take k)) := fun k => after_fresh _ (by omega) (by omega) _ fun d hd' => by
    have := hd d (List.mem_of_mem_take hd')
    exact ⟨this.1.N2, this.2⟩
  have HFr := Lib.hid hfr
  obtain ⟨a, c, rfl, hc⟩ := h
  clear hc hd hfr
  obtain ⟨n, hn⟩ : ∃ n, n = L.length := ⟨_, rfl⟩
  have HN := Lib.hid hn
  rw [← hn] at hb HL ⊢
  clear hn
  obtain ⟨N, hN⟩ : ∃ N, N = w.heap.size := ⟨_, rfl⟩
  have HNN := Lib.hid hN
  rw [← hN]
  clear hN
  have CN := Lib.hid (new_any (1 + s) w (by omega) (by omega))
  rw [← HNN.out] at CN
  go_enter Try.func21, Try.ntmps21
  go_wp2_with fail
  (with_reducible refine CN.out.mono ?_); rintro e w2 ⟨b, rfl, M, hf, hM, hbel⟩
  have HF := Lib.hid hf
  have HM := Lib.hid hM
  clear hf hM CN
  go_wp2_with fail
  go_loopw [7] (fun i wr => ∃ k : Nat, k ≤ n ∧ i = .int .i64 (k : Nat) ∧ ∃ M, Hid (FSAt M wr b (afterL (1 + s) (L.take k))) ∧ Hid (∀ x, M x → N ≤ x) ∧ Below N w wr) (fun i _ => n - (intOf i).toNat)
  case atStart => exact ⟨0, Nat.zero_le _, rfl, M, HF, HM, hbel⟩
  case round =>
    obtain ⟨k, hk, rfl, M, HF, HM, hbel⟩ := hrel
    by_cases hlt : k < n
    · obtain ⟨d, hd⟩ : ∃ d, L[k]? = some d := ⟨_, List.getElem?_eq_getElem (show k < L.length by rw [← HN.out]; exact hlt)⟩
      have hok := HD.out d (List.mem_of_getElem? hd)
      have hNr : N ≤ wr.heap.size := Nat.le_trans (Nat.le_of_eq HNN.out) hbel.size
      have hMw : ∀ x, M x → w.heap.size ≤ x := fun x hx => by rw [← HNN.out]; exact HM.out x hx
      obtain ⟨lb, lo, lc, kv, hlv, hkv, q0, q1, q2, q3, q4, q5⟩ := dos_get HL.out rfl (HNN.out ▸ hbel) hMw hd
      injection hlv with hla e11 e12
      clear e11 e12
      subst hla
      obtain ⟨ka, kc, rfl⟩ := hkv.val
      have HNX := Lib.hid (afterL_succ (1 + s) L k d hd)
      have CW := Lib.hid (with_any wr HF.out (HFr.out k).sound ⟨_, rfl, hkv⟩ hok.1.what hok.1.S hok.2)
      obtain ⟨r, hr⟩ : ∃ r, r = d.what % 12 := ⟨_, rfl⟩
      have hwi : (d.what : Int) % 12 = (r : Int) := by omega
      have hwb := hok.1.what
      have HR := Lib.hid hr
      clear hkv hMw hr hok hd
      by_cases h11 : r = 11
      · subst h11
        have hX : afterL (1 + s) (L.take (k + 1)) = afterL (1 + s) (L.take k) := by rw [HNX.out, afterStep, if_pos HR.out.symm]
        have HX := Lib.hid hX
        clear hX
        generalize d.what = dw at *
        go_wp2_with fail
        case roundEnd => exact ⟨⟨k + 1, by omega, by go_num, M, by rw [HX.out]; exact HF, HM, hbel⟩, by simp [intOf]; omega⟩
      · have hX : afterL (1 + s) (L.take (k + 1)) = withF (afterL (1 + s) (L.take k)) d := by rw [HNX.out, afterStep, if_neg (fun e => h11 (HR.out.trans e))]
        have HX := Lib.hid hX
        have g1 : ((r : Int) == 11) = false := by simp; omega
        have g2 : ¬ (r : Int) = 11 := by omega
        clear hX
        generalize withE (afterL (1 + s) (L.take k)) d = E at *
        generalize d.what = dw at *
        go_wp2_with fail
        (with_reducible refine CW.out.mono ?_); rintro e w5 ⟨rfl, M5, hf5, hM5, ho5⟩
        have HF5 := Lib.hid hf5
        have HM5 := Lib.hid (fun x (hx : M5 x) => (show N ≤ x by rcases hM5 x hx with h | h; exact HM.out x h; omega))
        have hbel5 : Below N w w5 := hbel.trans (ho5.below hNr HM.out)
        clear hf5 hM5 CW ho5
        go_wp2_with fail
        case roundEnd => exact ⟨⟨k + 1, by omega, by go_num, M5, by rw [HX.out]; exact HF5, HM5, hbel5⟩, by simp [intOf]; omega⟩
    · obtain rfl : k = n := by omega
      have hall : L.take k = L := by rw [HN.out, List.take_length]
      rw [hall] at HF
      have hfr := HFr.out k
      rw [hall] at hfr
      clear hall
      obtain ⟨R, hR⟩ : ∃ R, R = afterF (1 + s) L := ⟨_, rfl⟩
      have hAF : R = startF (afterL (1 + s) L) := hR
      have HR := Lib.hid hR
      clear hR
      generalize afterL (1 + s) L = F at *
      have CU := Lib.hid (up_any HF.out hfr.sound.lim)
      have CS := Lib.hid (start_any wr HF.out hfr.sound)
      have hNr : N ≤ wr.heap.size := Nat.le_trans (Nat.le_of_eq HNN.out) hbel.size
      cases ho : F.off with
      | true =>
        rw [ho] at CU
        unfold startE at CS
        rw [if_pos ho] at CS
        rw [← hAF] at CS
        clear hAF ho hfr
        go_wp2_with fail
        (with_reducible refine CU.out.mono ?_); rintro e w3 ⟨rfl, rfl⟩
        go_wp2_with fail
        (with_reducible refine CS.out.mono ?_); rintro e w4 ⟨rfl, M4, hf4, hM4, ho4⟩
        have HF4 := Lib.hid hf4
        have HM4 := Lib.hid (fun x (hx : M4 x) => (show N ≤ x by rcases hM4 x hx with h | h; exact HM.out x h; omega))
        have hbel5 : Below N w w4 := hbel.trans (ho4.below hNr HM.out)
        clear hf4 hM4 CS CU ho4
        go_wp2_with fail
        go_ret
        exact ⟨_, rfl, M4, by rw [← HR.out]; exact HF4.out, HM4.out, hbel5⟩
      | false =>
        rw [ho] at CU
        have hRF : R = F := by rw [hAF, startF, if_neg (by rw [ho]; simp)]
        subst hRF
        clear hAF ho hfr CS
        go_wp2_with fail
        (with_reducible refine CU.out.mono ?_); rintro e w3 ⟨rfl, rfl⟩
        go_wp2_with fail
        go_ret
        exact ⟨_, rfl, M, by rw [← HR.out]; exact HF.out, HM.out, hbel⟩
end Go.Proofs.Ytmoaecicibjmnaa
