/- The chapter's Draw, its last part: the rows' texts are laid into the grid, which is handed back. -/
import Derived.Test.YtnpdpfkoghhioaaDoorXR
import Derived.Deep.CutBlock
namespace Go.Proofs.YtnpdpfkoghhioaaDoor
open Go.RowKit

/-- A body from its statement number n on. -/
def codeTo (n : Nat) : Code → Code
  | .seq (.region m o d) b => if m = n then .seq (.region m o d) b else codeTo n b
  | .seq _ b => codeTo n b
  | c => c
def codeBehind : Code → Code
  | .seq _ b => b
  | c => c
theorem own_cap {w : World} {B n sz c : Nat} {e : TypeId} {a : Option Addr} {xs : List Value} (h : w.ownsRow B e sz (.slice a n c) n xs) : n ≤ c := by
  rcases h.2 with ⟨hv, h0⟩ | ⟨g, cap, cu, hv, _, _, h2, _⟩
  · omega
  · injection hv with _ _ e3; omega
theorem item_no' (s : SH) (i j : Nat) (h : ¬ (i : Int) = s.line) : (s.item i j).2 = none := by unfold SH.item; rw [if_neg (fun h2 => h h2.1)]
def lenV : Value → Nat
  | .slice _ n _ => n
  | _ => 0
set_option maxRecDepth 100000 in
set_option maxHeartbeats 32000000 in
theorem rfill_any {s : SH} {a : Option Addr} {c n : Nat} {line : Int} {R C B0 B4 B2 GB hb gcap BT : Nat} {rb ro rc : Nat → Nat} {w1 : World} {tp : Nat} {QQ : Ending → World → Prop} {cx cy : Int} {w9 : World} {g9 c9 r1 : Nat} {ST : ByteArray} {v_0 v_1 v_3 v_5 v_6 v_7 v_9 v_10 v_12 v_13 v_14 v_15 v_16 v_17 v_19 v_20 v_21 v_22 v_23 v_24 v_25 v_26 v_27 v_28 v_29 v_30 v_31 v_32 v_33 v_34 v_35 v_36 v_37 v_38 v_39 v_40 v_41 v_42 v_43 v_44 v_45 v_46 v_47 v_48 v_49 v_50 v_51 v_52 v_53 v_54 v_55 v_56 v_57 v_58 v_59 v_60 v_61 v_62 v_63 v_64 v_65 v_66 v_67 v_68 v_69 v_70 v_71 v_72 v_73 v_74 v_75 v_76 v_77 v_78 v_79 v_80 v_81 v_82 v_83 v_84 v_85 v_86 v_87 v_88 v_89 v_90 v_91 v_92 v_93 v_94 v_95 v_96 v_97 v_98 v_99 v_100 v_101 v_102 v_103 v_104 v_105 v_106 v_107 v_108 v_109 v_110 v_111 v_112 v_113 v_114 v_115 v_116 v_117 v_118 v_119 v_120 v_121 v_122 v_123 v_124 v_125 v_126 v_127 v_128 v_129 v_130 v_131 v_132 v_133 v_134 v_135 v_136 v_137 v_138 v_139 v_140 v_141 v_142 v_143 v_144 v_145 v_146 v_147 v_148 v_149 v_150 v_151 v_152 v_153 v_154 v_155 v_156 v_157 v_158 v_159 v_160 v_161 v_162 v_163 v_164 v_165 v_166 v_167 v_168 v_169 v_170 v_171 v_172 v_173 v_174 v_175 v_176 v_177 v_178 v_179 v_180 v_181 v_182 v_183 v_184 v_185 v_186 v_187 v_188 v_189 v_190 v_191 v_192 v_193 v_194 v_195 v_196 v_197 v_198 v_199 v_200 v_201 v_202 v_203 v_204 v_205 v_206 v_207 v_208 v_209 v_210 v_211 v_212 v_213 v_214 v_215 v_216 v_217 v_218 v_219 v_220 v_221 v_222 v_223 v_224 v_225 v_226 v_227 v_228 v_229 v_230 v_231 v_232 v_233 v_234 v_235 v_236 v_237 v_238 : Value}
    (HF : Hid (Fit s)) (hC2 : 8 ≤ C ∧ C ≤ 132) (HS7 : Hid (∀ wx, Below B2 w1 wx → (wx.cell? ⟨B0, 0, none⟩ = some (.slice a n c) ∧ wx.cell? ⟨B0, 1, none⟩ = some (.int .i64 line) ∧ wx.cell? ⟨B0, 2, none⟩ = some (.int .i64 s.col) ∧ wx.cell? ⟨B0, 3, none⟩ = some (.string s.status) ∧ wx.cell? ⟨B0, 4, none⟩ = some (.bool s.typing) ∧ wx.cell? ⟨B0, 5, none⟩ = some (.int .i64 (R : Int)) ∧ wx.cell? ⟨B0, 6, none⟩ = some (.int .i64 (C : Int))) ∧ Below B2 w1 wx)) (HKB : Hid (∀ wx, Below B2 w1 wx → Below w1.heap.size w1 wx)) (HB5 : Hid (Box5 w1 B4 37 (.int .i64 0) (.int .i64 0) (.slice none 0 0) (.int .i64 0) (.int .i64 0)))
    (HLA : Hid ((allRows s tp).length = R)) (HRR : Hid (R = r1 + 1)) (hr6 : r1 ≤ 59) (HTXC : Hid (∀ (j : Nat) (x : It), (allRows s tp)[j]? = some x → w9.cell? ⟨g9, j, none⟩ = some (.string ⟨x.1.toArray⟩)))
    (HD9 : Hid (DI s R C B2 hb GB gcap rb ro rc w1 w9 ((allRows s tp).take 0) cx cy)) (HGB9 : Hid (BT ≤ g9)) (HGL9 : Hid (g9 < w9.heap.size)) (HBT : Hid (GB < BT)) (HSZ2 : Hid (((ST.size : Nat) : Int) = ((statT s).length : Nat)))
    (hwr : IntKind.i64.wrap ((R : Int) - 1) = (R : Int) - 1) (hwr2 : IntKind.i64.wrap ((C : Int) - 1) = (C : Int) - 1) (FIN0 : Hid (∀ (x y : Int) (wz : World), DI s R C B2 hb GB gcap rb ro rc w1 wz (allRows s tp) x y → ∀ W', W' = ((((wz.setCell ⟨B4, 0, none⟩ (.int .i64 (R : Int))).setCell ⟨B4, 1, none⟩ (.int .i64 (C : Int))).setCell ⟨B4, 2, none⟩ (.slice (some ⟨hb, 0, none⟩) R gcap)).setCell ⟨B4, 3, none⟩ (.int .i64 x)).setCell ⟨B4, 4, none⟩ (.int .i64 y) → (if s.typing = true then x = (R : Int) - 1 ∧ y = min ((statT s).length : Int) ((C : Int) - 1) else x = cx ∧ y = cy) → QQ (.returned (.tuple #[.agg #[.int .i64 (R : Int), .int .i64 (C : Int), .slice (some ⟨hb, 0, none⟩) R gcap, .int .i64 x, .int .i64 y], .int .i64 0])) W')) :
    Code.wp Tryd.prog (codeBehind (codeTo 34 (Tryd.f18.body.getD .skip))) (bodyPost Tryd.prog Tryd.f18 QQ) ⟨#[v_0, v_1, .pointer (some ⟨B0, 0, none⟩), v_3, .pointer (some ⟨B4, 0, none⟩), v_5, v_6, v_7, .pointer (some ⟨GB, 0, none⟩), v_9, v_10, .slice (some ⟨g9, 0, none⟩) (r1 + 1) c9, v_12, v_13, v_14, v_15, v_16, v_17, .string ST, v_19, v_20, v_21, v_22, v_23, v_24, v_25, v_26, v_27, v_28, v_29, v_30, v_31, v_32, v_33, v_34, v_35, v_36, v_37, v_38, v_39, v_40, v_41, v_42, v_43, v_44, v_45, v_46, v_47, v_48, v_49, v_50, v_51, v_52, v_53, v_54, v_55, v_56, v_57, v_58, v_59, v_60, v_61, v_62, v_63, v_64, v_65, v_66, v_67, v_68, v_69, v_70, v_71, v_72, v_73, v_74, v_75, v_76, v_77, v_78, v_79, v_80, v_81, v_82, v_83, v_84, v_85, v_86, v_87, v_88, v_89, v_90, v_91, v_92, v_93, v_94, v_95, v_96, v_97, v_98, v_99, v_100, v_101, v_102, v_103, v_104, v_105, v_106, v_107, v_108, v_109, v_110, v_111, v_112, v_113, v_114, v_115, v_116, v_117, v_118, v_119, v_120, v_121, v_122, v_123, v_124, v_125, v_126, v_127, v_128, v_129, v_130, v_131, v_132, v_133, v_134, v_135, v_136, v_137, v_138, v_139, v_140, v_141, v_142, v_143, v_144, v_145, v_146, v_147, v_148, v_149, v_150, v_151, v_152, v_153, v_154, v_155, v_156, v_157, v_158, v_159, v_160, v_161, v_162, v_163, v_164, v_165, v_166, v_167, v_168, v_169, v_170, v_171, v_172, v_173, v_174, v_175, v_176, v_177, v_178, v_179, v_180, v_181, v_182, v_183, v_184, v_185, v_186, v_187, v_188, v_189, v_190, v_191, v_192, v_193, v_194, v_195, v_196, v_197, v_198, v_199, v_200, v_201, v_202, v_203, v_204, v_205, v_206, v_207, v_208, v_209, v_210, v_211, v_212, v_213, v_214, v_215, v_216, v_217, v_218, v_219, v_220, v_221, v_222, v_223, v_224, v_225, v_226, v_227, v_228, v_229, v_230, v_231, v_232, v_233, v_234, v_235, v_236, v_237, v_238], []⟩ w9 := by
  conv => arg 2; whnf
  go_wp2_with fail
  go_loopw [20] (fun s20 wr => ∃ ii : Nat, ii ≤ R ∧ s20 = .int .i64 (ii : Nat) ∧ Hid (DI s R C B2 hb GB gcap rb ro rc w1 wr ((allRows s tp).take ii) cx cy) ∧ Hid (Out (fun k => k < BT) w9 wr)) (fun s20 _ => R - (intOf s20).toNat)
  case atStart => exact ⟨0, Nat.zero_le _, rfl, HD9, Lib.hid (Out.refl _ _)⟩
  case round =>
    obtain ⟨ii, hiR0, rfl, HDi, HTi⟩ := hrel
    obtain ⟨⟨y0, y1, y2, y3, y4, y5, y6⟩, _⟩ := HS7.out wr HDi.out.bel
    by_cases hiR : ii < R
    · have hiR2 : (ii : Int) < (R : Int) := by omega
      have hir1 : (ii : Int) < (r1 : Int) + 1 := by have := HRR.out; omega
      have hir2 : ii < r1 + 1 := by have := HRR.out; omega
      obtain ⟨x, hx⟩ : ∃ x, (allRows s tp)[ii]? = some x := ⟨_, List.getElem?_eq_getElem (by rw [HLA.out]; exact hiR)⟩
      obtain ⟨t, o⟩ := x
      have HXI := Lib.hid hx
      have HPL : Hid (((allRows s tp).take ii).length = ii) := Lib.hid (by rw [List.length_take, HLA.out]; omega)
      obtain ⟨T, hT⟩ : ∃ T : ByteArray, T = ⟨t.toArray⟩ := ⟨_, rfl⟩
      have HT := Lib.hid hT
      have HTS : Hid (T.size = t.length) := Lib.hid (by rw [hT]; rfl)
      obtain ⟨z, hz⟩ : ∃ z, z = min T.size C := ⟨_, rfl⟩
      have HZ := Lib.hid hz
      have hzq : z ≤ T.size := by omega
      have hzC : z ≤ C := by omega
      have HGC : Hid (∀ wx, Out (fun k => k < BT) w9 wx → wx.cell? ⟨g9, ii, none⟩ = some (.string T)) := Lib.hid (fun wx ho => (ho.cell HGL9.out (by have := HGB9.out; omega) ii).trans (by rw [HTXC.out ii _ hx, hT]))
      have HRI : Hid (B2 ≤ rb ii ∧ rb ii < GB ∧ B2 ≤ wr.heap.size) := Lib.hid ⟨HDi.out.own.low ii (by rw [HDi.out.len (by rw [HPL.out]; omega)]; exact hiR), HDi.out.ltr ii hiR, Nat.le_trans HDi.out.gb (Nat.le_of_lt HDi.out.blt)⟩
      have HW0 : Hid (OwnRows B2 wr hb rb ro rc ((cellsOf s ((allRows s tp).take ii)).set ii (part C t 0))) := Lib.hid (by
        have hra := HDi.out.row_at (by rw [HPL.out]; exact hiR)
        rw [HPL.out] at hra
        have e : (cellsOf s ((allRows s tp).take ii)).set ii (part C t 0) = cellsOf s ((allRows s tp).take ii) := by
          rw [part_zero]
          apply List.ext_getElem?
          intro k
          by_cases hk : ii = k
          · subst hk
            rw [List.getElem?_set_self (List.getElem?_eq_some_iff.1 hra).1, hra]
          · rw [List.getElem?_set_ne hk]
        rw [e]; exact HDi.out.own)
      clear hx hT hz
      obtain ⟨wo, rfl⟩ : ∃ wo : World, wo = wr := ⟨_, rfl⟩
      go_wp2_with fail
      go_loopw [21] (fun s21 wr => ∃ k : Nat, k ≤ z ∧ s21 = .int .i64 (k : Nat) ∧ Hid (OwnRows B2 wr hb rb ro rc ((cellsOf s ((allRows s tp).take ii)).set ii (part C t k))) ∧ Hid (Out (fun b => b = rb ii) wo wr)) (fun s21 _ => z - (intOf s21).toNat)
      case atStart => exact ⟨0, Nat.zero_le _, rfl, HW0, Lib.hid (Out.refl _ _)⟩
      case round =>
        clear y0 y1 y2 y3 y4 y5 y6
        obtain ⟨k, hk, rfl, HRO, HO2⟩ := hrel
        have HOo : Hid (Out (fun k => k < BT) w9 wr) := Lib.hid (HTi.out.trans (HO2.out.mono (fun b hb => by have h1 := HRI.out.2.1; have h2 := HBT.out; rw [hb]; omega)))
        have HBW2 : Hid (Below B2 w1 wr) := Lib.hid (HDi.out.bel.trans (HO2.out.below HRI.out.2.2 (fun b hb => by rw [hb]; exact HRI.out.1)))
        obtain ⟨⟨y0, y1, y2, y3, y4, y5, y6⟩, _⟩ := HS7.out wr HBW2.out
        have gc := HGC.out wr HOo.out
        by_cases hlt : k < z
        · have b2 := (HO2.out.cell HDi.out.blt (by have := HRI.out.2.1; omega) 2).trans HDi.out.box.c2
          have hjl0 : ii < (cellsOf s ((allRows s tp).take ii)).length := by rw [HDi.out.len (by rw [HPL.out]; omega)]; exact hiR
          have HJL0 := Lib.hid hjl0
          have hjl : ii < ((cellsOf s ((allRows s tp).take ii)).set ii (part C t k)).length := by rw [List.length_set]; exact hjl0
          have hrow : ((cellsOf s ((allRows s tp).take ii)).set ii (part C t k))[ii]?.getD [] = part C t k := set_at _ ii _ hjl0
          have hpl : (part C t k).length = C := part_len C t k (by rw [← HTS.out]; omega) (by omega)
          have r0 := HRO.out.head ii hjl
          rw [hrow, hpl] at r0
          have rk := HRO.out.cell ii hjl k (by rw [hrow, hpl]; omega)
          have fk := HRO.out.free ii hjl k (by rw [hrow, hpl]; omega)
          have hk1 : k < T.size := by omega
          have hch := byte_get T t HT.out k hk1
          have hkz : (k : Int) < ((T.size : Nat) : Int) := by omega
          have hkc : (k : Int) < (C : Int) := by omega
          have hkC : k < C := by omega
          have HNX : Hid (OwnRows B2 (wr.setCell ⟨rb ii, ro ii + k, none⟩ (.int .u8 (((T[k]'hk1).toNat : Nat) : Int))) hb rb ro rc ((cellsOf s ((allRows s tp).take ii)).set ii (part C t (k + 1)))) := Lib.hid (by
            have h0 := HRO.out.set ii k hjl (by rw [hrow, hpl]; omega) (T[k]'hk1)
            have e := part_succ C t k (by rw [← HTS.out]; omega) (by omega)
            rw [hch] at e
            rw [putL_set _ ii k _ _ hjl0] at h0
            rw [← e]
            exact h0)
          clear hrow hpl hch hjl hjl0
          go_upto_region 41 with fail
          go_region
          go_wp2_with fail
          exact ⟨⟨k + 1, by omega, by go_num, Lib.hid (HNX.out.eq (Nat.le_refl _) rfl fun _ _ => rfl), Lib.hid ((HO2.out.set (.inl rfl) _ _).drew)⟩, by simp [intOf]; omega⟩
        · have hkz : k = z := by omega
          have HKZ := Lib.hid hkz
          have HDn : Hid (DI s R C B2 hb GB gcap rb ro rc w1 wr ((allRows s tp).take (ii + 1)) cx cy) := Lib.hid (by
            have e := part_all C t k (by rw [HKZ.out, HZ.out, HTS.out])
            have h0 := HRO.out
            rw [e] at h0
            have h1 := HDi.out.put (by rw [HPL.out]; exact hiR) t o (by rw [HPL.out]; exact h0) (by rw [HPL.out]; exact HO2.out)
            have e2 : (allRows s tp).take (ii + 1) = (allRows s tp).take ii ++ [(t, o)] := by rw [List.take_add_one, HXI.out]; rfl
            rw [e2]; exact h1)
          by_cases hkC : k < C
          · have hkc : (k : Int) < (C : Int) := by omega
            have hkq : decide ((k : Int) < ((T.size : Nat) : Int)) = false := decide_eq_false (by have := HZ.out; omega)
            have hkq2 : decide (k < T.size) = false := decide_eq_false (by have := HZ.out; omega)
            clear hkz
            go_wp2_with fail
            exact ⟨⟨ii + 1, by omega, by go_num, HDn, HOo⟩, by simp [intOf]; omega⟩
          · have hkc : decide ((k : Int) < (C : Int)) = false := decide_eq_false (by omega)
            have hkc2 : decide (k < C) = false := decide_eq_false hkC
            clear hkz
            go_wp2_with fail
            exact ⟨⟨ii + 1, by omega, by go_num, HDn, HOo⟩, by simp [intOf]; omega⟩
    · have HD8 : Hid (DI s R C B2 hb GB gcap rb ro rc w1 wr (allRows s tp) cx cy) := Lib.hid (by
        have h0 := HDi.out
        rw [List.take_of_length_le (by rw [HLA.out]; omega)] at h0
        exact h0)
      obtain ⟨w8, rfl⟩ : ∃ w8 : World, w8 = wr := ⟨_, rfl⟩
      have hiR3 : ii = R := by omega
      have HIR := Lib.hid hiR3
      clear hiR3
      cases hty : s.typing with
      | false =>
        have HTY := Lib.hid hty
        rw [hty] at y4
        clear hty
        have hgx : ∃ gx, gx = cx := ⟨_, rfl⟩
        obtain ⟨gx, rfl⟩ := hgx
        have hgy : ∃ gy, gy = cy := ⟨_, rfl⟩
        obtain ⟨gy, rfl⟩ := hgy
        have b0 := (HB5.out.below (HKB.out _ HD8.out.bel) HB5.out.lt').c0
        have b1 := (HB5.out.below (HKB.out _ HD8.out.bel) HB5.out.lt').c1
        have b2 := (HB5.out.below (HKB.out _ HD8.out.bel) HB5.out.lt').c2
        have b3 := (HB5.out.below (HKB.out _ HD8.out.bel) HB5.out.lt').c3
        have b4 := (HB5.out.below (HKB.out _ HD8.out.bel) HB5.out.lt').c4
        have f0 := (HB5.out.below (HKB.out _ HD8.out.bel) HB5.out.lt').free 0
        have f1 := (HB5.out.below (HKB.out _ HD8.out.bel) HB5.out.lt').free 1
        have f2 := (HB5.out.below (HKB.out _ HD8.out.bel) HB5.out.lt').free 2
        have f3 := (HB5.out.below (HKB.out _ HD8.out.bel) HB5.out.lt').free 3
        have f4 := (HB5.out.below (HKB.out _ HD8.out.bel) HB5.out.lt').free 4
        have z0 := HD8.out.box.c0
        have z1 := HD8.out.box.c1
        have z2 := HD8.out.box.c2
        have z3 := HD8.out.box.c3
        have z4 := HD8.out.box.c4
        have FZ := Lib.hid (FIN0.out _ _ _ HD8.out)
        have HBZ := Lib.hid (HB5.out.below (HKB.out _ HD8.out.bel) HB5.out.lt')
        go_upto_region 44 with fail
        rename_i KK hKK
        have HKK := Lib.hid hKK
        clear hKK
        go_wp2_with fail
        refine HKK.out _ _ ?_
        apply wp_ret
        generalize hW' : World.setCell (World.setCell (World.setCell (World.setCell (World.setCell _ _ _) _ _) _ _) _ _) _ _ = W'
        have hbox := HBZ.out.sets (.int .i64 (R : Int)) (.int .i64 (C : Int)) (.slice (some ⟨hb, 0, none⟩) R gcap) (.int .i64 gx) (.int .i64 gy)
        have hq := FZ.out W' hW'.symm (by rw [HTY.out]; simp)
        rw [hW'] at hbox
        clear hW' b0 b1 b2 b3 b4 f0 f1 f2 f3 f4 z0 z1 z2 z3 z4
        have a0 := hbox.c0
        have a1 := hbox.c1
        have a2 := hbox.c2
        have a3 := hbox.c3
        have a4 := hbox.c4
        have HQ := Lib.hid hq
        clear hq
        (try simp only [Exit.inBlock, Exit.then])
        refine bodyPost_ret (by simp [results, Tryd.results18, go_sem, a0, a1, a2, a3, a4]; try rfl) rfl ?_
        exact HQ.out
      | true =>
        have HTY := Lib.hid hty
        rw [hty] at y4
        clear hty
        obtain ⟨mn, hmn⟩ : ∃ mn : Int, min ((ST.size : Nat) : Int) ((C : Int) - 1) = mn := ⟨_, rfl⟩
        have HMN := Lib.hid hmn
        have v3 := HD8.out.box.c3
        have v4 := HD8.out.box.c4
        have f3 := HD8.out.box.free 3
        have f4 := HD8.out.box.free 4
        go_upto_region 43 with fail
        go_region
        have HDC := Lib.hid ((HD8.out.cur (by rw [all_len s tp HF.out.r2, HD8.out.rn]; exact Nat.le_refl _) ((R : Int) - 1) mn).later (Below.refl _ _).drew)
        clear v3 v4 f3 f4 hmn
        obtain ⟨gx, hgx⟩ : ∃ gx : Int, gx = (R : Int) - 1 := ⟨_, rfl⟩
        obtain ⟨gy, hgy⟩ : ∃ gy : Int, gy = mn := ⟨_, rfl⟩
        have HGX := Lib.hid hgx
        have HGY : Hid (gy = min ((statT s).length : Int) ((C : Int) - 1)) := Lib.hid (by rw [hgy, ← HMN.out, HSZ2.out])
        have HDD0 : Hid (DI s R C B2 hb GB gcap rb ro rc w1 (World.drew ((w8.setCell ⟨GB, 3, none⟩ (.int .i64 ((R : Int) - 1))).setCell ⟨GB, 4, none⟩ (.int .i64 mn))) (allRows s tp) gx gy) := Lib.hid (by rw [hgx, hgy]; exact HDC.out)
        clear HDC hgx hgy
        generalize hw9 : World.drew (World.setCell (World.setCell w8 _ _) _ _) = w9 at HDD0 ⊢
        have HDD := Lib.hid HDD0.out
        clear HDD0 hw9
        have b0 := (HB5.out.below (HKB.out _ HDD.out.bel) HB5.out.lt').c0
        have b1 := (HB5.out.below (HKB.out _ HDD.out.bel) HB5.out.lt').c1
        have b2 := (HB5.out.below (HKB.out _ HDD.out.bel) HB5.out.lt').c2
        have b3 := (HB5.out.below (HKB.out _ HDD.out.bel) HB5.out.lt').c3
        have b4 := (HB5.out.below (HKB.out _ HDD.out.bel) HB5.out.lt').c4
        have f0 := (HB5.out.below (HKB.out _ HDD.out.bel) HB5.out.lt').free 0
        have f1 := (HB5.out.below (HKB.out _ HDD.out.bel) HB5.out.lt').free 1
        have f2 := (HB5.out.below (HKB.out _ HDD.out.bel) HB5.out.lt').free 2
        have f3 := (HB5.out.below (HKB.out _ HDD.out.bel) HB5.out.lt').free 3
        have f4 := (HB5.out.below (HKB.out _ HDD.out.bel) HB5.out.lt').free 4
        have z0 := HDD.out.box.c0
        have z1 := HDD.out.box.c1
        have z2 := HDD.out.box.c2
        have z3 := HDD.out.box.c3
        have z4 := HDD.out.box.c4
        have FZ := Lib.hid (FIN0.out _ _ _ HDD.out)
        have HBZ := Lib.hid (HB5.out.below (HKB.out _ HDD.out.bel) HB5.out.lt')
        go_upto_region 44 with fail
        rename_i KK hKK
        have HKK := Lib.hid hKK
        clear hKK
        go_wp2_with fail
        refine HKK.out _ _ ?_
        apply wp_ret
        generalize hW' : World.setCell (World.setCell (World.setCell (World.setCell (World.setCell _ _ _) _ _) _ _) _ _) _ _ = W'
        have hbox := HBZ.out.sets (.int .i64 (R : Int)) (.int .i64 (C : Int)) (.slice (some ⟨hb, 0, none⟩) R gcap) (.int .i64 gx) (.int .i64 gy)
        have hq := FZ.out W' hW'.symm (by rw [if_pos HTY.out]; exact ⟨HGX.out, HGY.out⟩)
        rw [hW'] at hbox
        clear hW' b0 b1 b2 b3 b4 f0 f1 f2 f3 f4 z0 z1 z2 z3 z4
        have a0 := hbox.c0
        have a1 := hbox.c1
        have a2 := hbox.c2
        have a3 := hbox.c3
        have a4 := hbox.c4
        have HQ := Lib.hid hq
        clear hq
        (try simp only [Exit.inBlock, Exit.then])
        refine bodyPost_ret (by simp [results, Tryd.results18, go_sem, a0, a1, a2, a3, a4]; try rfl) rfl ?_
        exact HQ.out
end Go.Proofs.YtnpdpfkoghhioaaDoor
