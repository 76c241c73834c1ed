/- The chapter's Draw, its middle part: the rows' texts. -/
import Derived.Test.YtnpdpfkoghhioaaDoorXZ
namespace Go.Proofs.YtnpdpfkoghhioaaDoor
open Go.RowKit

set_option maxRecDepth 100000 in
set_option maxHeartbeats 32000000 in
theorem rrows_draw {s : SH} {a : Option Addr} {c n : Nat} {line : Int} {R C B0 B4 B2 GB hb gcap : Nat} {rb ro rc : Nat → Nat} {w1 : World} {tp : Nat} {QQ : Ending → World → Prop} {w w5 : World} {k0 : Nat} {v_0 v_3 v_5 v_6 v_9 v_11 v_12 v_13 v_14 v_15 v_16 v_17 v_18 v_19 v_20 v_21 v_22 v_23 v_24 v_25 v_26 v_27 v_28 v_29 v_30 v_31 v_32 v_33 v_34 v_35 v_36 v_37 v_38 v_39 v_40 v_41 v_42 v_43 v_44 v_45 v_46 v_47 v_48 v_49 v_50 v_51 v_52 v_53 v_54 v_55 v_56 v_57 v_58 v_59 v_60 v_61 v_62 v_63 v_64 v_65 v_66 v_67 v_68 v_69 v_70 v_71 v_72 v_73 v_74 v_75 v_76 v_77 v_78 v_79 v_80 v_81 v_82 v_83 v_84 v_85 v_86 v_87 v_88 v_89 v_90 v_91 v_92 v_93 v_94 v_95 v_96 v_97 v_98 v_99 v_100 v_101 v_102 v_103 v_104 v_105 v_106 v_107 v_108 v_109 v_110 v_111 v_112 v_113 v_114 v_115 v_116 v_117 v_118 v_119 v_120 v_121 v_122 v_123 v_124 v_125 v_126 v_127 v_128 v_129 v_130 v_131 v_132 v_133 v_134 v_135 v_136 v_137 v_138 v_139 v_140 v_141 v_142 v_143 v_144 v_145 v_146 v_147 v_148 v_149 v_150 v_151 v_152 v_153 v_154 v_155 v_156 v_157 v_158 v_159 v_160 v_161 v_162 v_163 v_164 v_165 v_166 v_167 v_168 v_169 v_170 v_171 v_172 v_173 v_174 v_175 v_176 v_177 v_178 v_179 v_180 v_181 v_182 v_183 v_184 v_185 v_186 v_187 v_188 v_189 v_190 v_191 v_192 v_193 v_194 v_195 v_196 v_197 v_198 v_199 v_200 v_201 v_202 v_203 v_204 v_205 v_206 v_207 v_208 v_209 v_210 v_211 v_212 v_213 v_214 v_215 v_216 v_217 v_218 v_219 v_220 v_221 v_222 v_223 v_224 v_225 v_226 v_227 v_228 v_229 v_230 v_231 v_232 v_233 v_234 v_235 v_236 v_237 v_238 : Value}
    (HF : Hid (Fit s)) (HR : Hid (s.rows = (R : Int))) (HC : Hid (s.cols = (C : Int))) (hR2 : 2 ≤ R ∧ R ≤ 60) (hC2 : 8 ≤ C ∧ C ≤ 132) (HN : Hid (n = s.lines.length)) (HLI : Hid (line = s.line)) (hn1 : n ≤ 1000) (hn12 : n ≤ 12) (htp : 1 ≤ tp ∧ tp ≤ 1000 ∧ (tp ≤ n ∨ (tp = 1 ∧ n = 0)))
    (HKN : Hid (∀ wx, Below w1.heap.size w1 wx → Box7 wx B0 33 (.slice a n c) (.int .i64 line) (.int .i64 s.col) (.string s.status) (.bool s.typing) (.int .i64 (R : Int)) (.int .i64 (C : Int)) ∧ Box5 wx B4 37 (.int .i64 0) (.int .i64 0) (.slice none 0 0) (.int .i64 0) (.int .i64 0) ∧ TextsAt wx (.slice a n c) s.lines ∧ TabOK wx)) (HB2 : Hid (B2 = w1.heap.size)) (HB4 : Hid (w.heap.size ≤ B4)) (HB5 : Hid (Box5 w1 B4 37 (.int .i64 0) (.int .i64 0) (.slice none 0 0) (.int .i64 0) (.int .i64 0))) (HBEL : Hid (Below w.heap.size w w1)) (HQQ : Hid (QQ = fun e w' => (∃ gv, e = .returned (.tuple #[gv, .int .i64 (drawE s (tp : Int))]) ∧ OwnGrid w.heap.size w' gv (if drawE s (tp : Int) = 0 then drawG s (tp : Int).toNat else zeroG)) ∧ Below w.heap.size w w'))
    (HE0 : Hid (drawE s (tp : Int) = 0)) (HK0 : Hid (k0 = skipS s tp)) (HD5 : Hid (DI s R C B2 hb GB gcap rb ro rc w1 w5 [] 0 0)) (hwr : IntKind.i64.wrap ((R : Int) - 1) = (R : Int) - 1) :
    Code.wp Tryd.prog (codeTo 11 (Tryd.f18.body.getD .skip)) (bodyPost Tryd.prog Tryd.f18 QQ) ⟨#[v_0, .int .i64 (tp : Nat), .pointer (some ⟨B0, 0, none⟩), v_3, .pointer (some ⟨B4, 0, none⟩), v_5, v_6, .int .i64 (n : Nat), .pointer (some ⟨GB, 0, none⟩), v_9, .int .i64 (k0 : Nat), v_11, v_12, v_13, v_14, v_15, v_16, v_17, v_18, v_19, v_20, v_21, v_22, v_23, v_24, v_25, v_26, v_27, v_28, v_29, v_30, v_31, v_32, v_33, v_34, v_35, v_36, v_37, v_38, v_39, v_40, v_41, v_42, v_43, v_44, v_45, v_46, v_47, v_48, v_49, v_50, v_51, v_52, v_53, v_54, v_55, v_56, v_57, v_58, v_59, v_60, v_61, v_62, v_63, v_64, v_65, v_66, v_67, v_68, v_69, v_70, v_71, v_72, v_73, v_74, v_75, v_76, v_77, v_78, v_79, v_80, v_81, v_82, v_83, v_84, v_85, v_86, v_87, v_88, v_89, v_90, v_91, v_92, v_93, v_94, v_95, v_96, v_97, v_98, v_99, v_100, v_101, v_102, v_103, v_104, v_105, v_106, v_107, v_108, v_109, v_110, v_111, v_112, v_113, v_114, v_115, v_116, v_117, v_118, v_119, v_120, v_121, v_122, v_123, v_124, v_125, v_126, v_127, v_128, v_129, v_130, v_131, v_132, v_133, v_134, v_135, v_136, v_137, v_138, v_139, v_140, v_141, v_142, v_143, v_144, v_145, v_146, v_147, v_148, v_149, v_150, v_151, v_152, v_153, v_154, v_155, v_156, v_157, v_158, v_159, v_160, v_161, v_162, v_163, v_164, v_165, v_166, v_167, v_168, v_169, v_170, v_171, v_172, v_173, v_174, v_175, v_176, v_177, v_178, v_179, v_180, v_181, v_182, v_183, v_184, v_185, v_186, v_187, v_188, v_189, v_190, v_191, v_192, v_193, v_194, v_195, v_196, v_197, v_198, v_199, v_200, v_201, v_202, v_203, v_204, v_205, v_206, v_207, v_208, v_209, v_210, v_211, v_212, v_213, v_214, v_215, v_216, v_217, v_218, v_219, v_220, v_221, v_222, v_223, v_224, v_225, v_226, v_227, v_228, v_229, v_230, v_231, v_232, v_233, v_234, v_235, v_236, v_237, v_238], []⟩ w5 := by
  have HKB : Hid (∀ wx, Below B2 w1 wx → Below w1.heap.size w1 wx) := Lib.hid (fun wx hb => by have := HB2.out; subst this; exact hb)
  have HS7 : Hid (∀ wx, Below B2 w1 wx → (wx.cell? ⟨B0, 0, none⟩ = some (.slice a n c) ∧ wx.cell? ⟨B0, 1, none⟩ = some (.int .i64 line) ∧ wx.cell? ⟨B0, 2, none⟩ = some (.int .i64 s.col) ∧ wx.cell? ⟨B0, 3, none⟩ = some (.string s.status) ∧ wx.cell? ⟨B0, 4, none⟩ = some (.bool s.typing) ∧ wx.cell? ⟨B0, 5, none⟩ = some (.int .i64 (R : Int)) ∧ wx.cell? ⟨B0, 6, none⟩ = some (.int .i64 (C : Int))) ∧ Below B2 w1 wx) := Lib.hid (fun wx hb => by
    obtain ⟨g, _⟩ := HKN.out wx (HKB.out wx hb)
    exact ⟨⟨g.c0, g.c1, g.c2, g.c3, g.c4, g.c5, g.c6⟩, hb⟩)
  conv => arg 2; whnf
  obtain ⟨BT, hBT⟩ : ∃ B, B = GB + 1 := ⟨_, rfl⟩
  have HBT : Hid (GB < BT) := Lib.hid (by omega)
  have HBT2 : Hid (∀ (wx : World) P x y, DI s R C B2 hb GB gcap rb ro rc w1 wx P x y → BT ≤ wx.heap.size) := Lib.hid (fun wx P x y hd => by have := hd.blt; omega)
  clear hBT
  go_wp2_with fail
  go_loopw [11, 12] (fun s11 s12 wr => ∃ (i : Nat) (P : List It), tp ≤ i ∧ (i ≤ n + 1 ∨ i = tp) ∧ s12 = .int .i64 (i : Nat) ∧ (∃ fa fc, s11 = .slice fa P.length fc) ∧ P.length ≤ 9000 * i ∧ Hid (P = itemsTo s tp i) ∧ Hid (wr.ownsRow BT 9 1 s11 P.length (txs P)) ∧ Hid (DI s R C B2 hb GB gcap rb ro rc w1 wr [] ((curT P (R - 1)).1 : Nat) ((curT P (R - 1)).2 : Nat))) (fun _ i _ => n + 1 - (intOf i).toNat)
  case atStart => exact ⟨tp, [], Nat.le_refl _, .inr rfl, rfl, ⟨_, _, rfl⟩, Nat.zero_le _, Lib.hid (items_same s tp).symm, Lib.hid (World.ownsRow_nil _ _ _ _), Lib.hid (by rw [curT_nil]; exact HD5.out)⟩
  case round =>
    obtain ⟨i, P, hi1, hi2, rfl, ⟨fa, fc, rfl⟩, hPl, HP, HO, HD⟩ := hrel
    obtain ⟨⟨y0, y1, y2, y3, y4, y5, y6⟩, _⟩ := HS7.out wr HD.out.bel
    by_cases hin : i ≤ n
    · obtain ⟨_, _, g3, _⟩ := HKN.out wr (HKB.out wr HD.out.bel)
      obtain ⟨tb, tq, rfl, htb, q1⟩ := g3.get (k := i - 1) (by rw [← HN.out]; omega)
      have htx0 := HF.out.lim.text i
      have HRWB := Lib.hid (HF.out.rows i)
      have HATB := Lib.hid (HF.out.at i)
      obtain ⟨tx, htx⟩ : ∃ tx, tx = s.text i := ⟨_, rfl⟩
      have HTX := Lib.hid htx
      rw [← htx] at htx0
      obtain ⟨RW, hRW⟩ : ∃ RW, RW = s.rowsOf i := ⟨_, rfl⟩
      have HRW := Lib.hid hRW
      obtain ⟨A1, A2, hA⟩ : ∃ A1 A2, (A1, A2) = s.atOf i := ⟨_, _, rfl⟩
      have HA := Lib.hid hA
      have hRWb : RW ≤ 8001 := by rw [hRW]; exact HRWB.out
      have HS1 : Hid (∀ wx, Below B2 w1 wx → (wx.cell? ⟨B0, 0, none⟩ = some (.slice (some ⟨tb, tq, none⟩) n c) ∧ wx.cell? ⟨B0, 2, none⟩ = some (.int .i64 s.col) ∧ wx.cell? ⟨B0, 6, none⟩ = some (.int .i64 (C : Int)) ∧ wx.cell? ⟨tb, tq + (i - 1), none⟩ = some (.string tx)) ∧ Below B2 w1 wx) := Lib.hid (fun wx hb => by
        obtain ⟨g1, _, g3, _⟩ := HKN.out wx (HKB.out wx hb)
        obtain ⟨tb', tq', e, _, q2⟩ := g3.get (k := i - 1) (by rw [← HN.out]; omega)
        injection e with e
        injection e with e1 e2
        subst e1 e2
        exact ⟨⟨g1.c0, g1.c2, g1.c6, by rw [htx]; exact q2⟩, hb⟩)
      have CRW : Hid (∀ wx, Below B2 w1 wx → Calls Tryd.prog 28 #[.string tx, .int .i64 (C : Int)] wx fun e w' => e = .returned (.int .i64 (RW : Nat)) ∧ Below wx.heap.size wx w') := Lib.hid (fun wx hbx => by
        have h0 := rrows_any tx s.cols wx (by omega) (by rw [HC.out]; omega)
        have e : rowsZ (cellsTo tx.data.toList tx.size).length s.cols = RW := by rw [HRW.out, HTX.out]; rfl
        rw [e, HC.out] at h0
        exact h0)
      have CAT : Hid (∀ wx, Below B2 w1 wx → Calls Tryd.prog 26 #[.string tx, .int .i64 (C : Int), .int .i64 s.col] wx fun e w' => e = .returned (.tuple #[.int .i64 (A1 : Nat), .int .i64 (A2 : Nat)]) ∧ Below wx.heap.size wx w') := Lib.hid (fun wx hbx => by
        have h0 := rat_any tx s.cols s.col wx (by omega) (by rw [HC.out]; omega)
        have e : atZ tx.data.toList s.cols s.col = (A1, A2) := by rw [HA.out, HTX.out]; rfl
        rw [e, HC.out] at h0
        exact h0)
      have CRO : Hid (∀ (kk : Nat) wx, Below B2 w1 wx → Calls Tryd.prog 30 #[.string tx, .int .i64 (C : Int), .int .i64 (kk : Nat)] wx fun e w' => e = .returned (.string ⟨(s.item i kk).1.toArray⟩) ∧ Below wx.heap.size wx w') := Lib.hid (fun kk wx hbx => by
        have h0 := rrow_any tx (C : Int) (kk : Int) wx (by omega) (by omega)
        have e : rowZ (cellsTo tx.data.toList tx.size) (C : Int) (kk : Int) = (s.item i kk).1 := by
          show _ = rowZ (lcells (s.text i)) s.cols (kk : Int)
          rw [HC.out, ← HTX.out]; rfl
        rw [e] at h0
        exact h0)
      have i1 : (1 : Int) ≤ (i : Int) := by omega
      have i2 : 0 < i := by omega
      have i4 : (0 : Int) ≤ (i : Int) - 1 := by omega
      have i5 : (i : Int) - 1 < (n : Int) := by omega
      have i6 : ((i : Int) - 1).toNat = i - 1 := by omega
      have i7 : IntKind.i64.wrap ((i : Int) - 1) = (i : Int) - 1 := IntWalk.i64_in _ ⟨by omega, by omega⟩
      have HPL0 : Hid (P.length + 8001 ≤ 9000 * (i + 1) ∧ P.length ≤ 117000) := Lib.hid (by omega)
      have HSKI : Hid ((if i = tp then skipS s tp else 0) = if i = tp then k0 else 0) := Lib.hid (by rw [HK0.out])
      clear htx hRW hA g3 q1
      go_upto_region 15 with fail
      refine wp_region_held_drew (S := fun wx => (wx.cell? ⟨B0, 0, none⟩ = some (.slice (some ⟨tb, tq, none⟩) n c) ∧ wx.cell? ⟨B0, 2, none⟩ = some (.int .i64 s.col) ∧ wx.cell? ⟨B0, 6, none⟩ = some (.int .i64 (C : Int)) ∧ wx.cell? ⟨tb, tq + (i - 1), none⟩ = some (.string tx)) ∧ Below B2 w1 wx) (by kernel_rfl) (HS1.out _ HD.out.bel.drew) (fun hH => ?_)
      clear y0 y1 y2 y3 y4 y5 y6
      (refine hTake (i := 0) (v := ?_) rfl (by kernel_rfl) (by kernel_rfl) (by kernel_rfl) (fun _ _ _ h => h) (by kernel_rfl) ?_ (by assumption) ?_; rotate_left; focus (intro w' hS'; (try dsimp only at hS'); go_split_ands; (try go_simp); (try (with_reducible rfl)); done); try simp only [Act.put, List.setIfInBounds_toArray, List.set_cons_zero, List.set_cons_succ]); (refine hTake (i := 1) (v := ?_) rfl (by kernel_rfl) (by kernel_rfl) (by kernel_rfl) (fun _ _ _ h => h) (by kernel_rfl) ?_ (by assumption) ?_; rotate_left; focus (intro w' hS'; (try dsimp only at hS'); go_split_ands; (try go_simp); (try (with_reducible rfl)); done); try simp only [Act.put, List.setIfInBounds_toArray, List.set_cons_zero, List.set_cons_succ]); (refine hTake (i := 2) (v := ?_) rfl (by kernel_rfl) (by kernel_rfl) (by kernel_rfl) (fun _ _ _ h => h) (by kernel_rfl) ?_ (by assumption) ?_; rotate_left; focus (intro w' hS'; (try dsimp only at hS'); go_split_ands; (try go_simp); (try (with_reducible rfl)); done); try simp only [Act.put, List.setIfInBounds_toArray, List.set_cons_zero, List.set_cons_succ]); (refine hTake (i := 3) (v := ?_) rfl (by kernel_rfl) (by kernel_rfl) (by kernel_rfl) (fun _ _ _ h => h) (by kernel_rfl) ?_ (by assumption) ?_; rotate_left; focus (intro w' hS'; (try dsimp only at hS'); go_split_ands; (try go_simp); (try (with_reducible rfl)); done); try simp only [Act.put, List.setIfInBounds_toArray, List.set_cons_zero, List.set_cons_succ]); (refine hTake (i := 4) (v := ?_) rfl (by kernel_rfl) (by kernel_rfl) (by kernel_rfl) (fun _ _ _ h => h) (by kernel_rfl) ?_ (by assumption) ?_; rotate_left; focus (intro w' hS'; (try dsimp only at hS'); go_split_ands; (try go_simp); (try (with_reducible rfl)); done); try simp only [Act.put, List.setIfInBounds_toArray, List.set_cons_zero, List.set_cons_succ]); (refine hTake (i := 5) (v := ?_) rfl (by kernel_rfl) (by kernel_rfl) (by kernel_rfl) (fun _ _ _ h => h) (by kernel_rfl) ?_ (by assumption) ?_; rotate_left; focus (intro w' hS'; (try dsimp only at hS'); go_split_ands; (try go_simp); (try (with_reducible rfl)); done); try simp only [Act.put, List.setIfInBounds_toArray, List.set_cons_zero, List.set_cons_succ]); (refine hTake (i := 6) (v := ?_) rfl (by kernel_rfl) (by kernel_rfl) (by kernel_rfl) (fun _ _ _ h => h) (by kernel_rfl) ?_ (by assumption) ?_; rotate_left; focus (intro w' hS'; (try dsimp only at hS'); go_split_ands; (try go_simp); (try (with_reducible rfl)); done); try simp only [Act.put, List.setIfInBounds_toArray, List.set_cons_zero, List.set_cons_succ]); (refine hTake (i := 7) (v := ?_) rfl (by kernel_rfl) (by kernel_rfl) (by kernel_rfl) (fun _ _ _ h => h) (by kernel_rfl) ?_ (by assumption) ?_; rotate_left; focus (intro w' hS'; (try dsimp only at hS'); go_split_ands; (try go_simp); (try (with_reducible rfl)); done); try simp only [Act.put, List.setIfInBounds_toArray, List.set_cons_zero, List.set_cons_succ])
      refine hOne (i := 8) rfl (by kernel_rfl) (fun K hK => ?_)
      go_simp
      refine (CRW.out _ hH.2).mono ?_
      rintro e wA ⟨rfl, hbA⟩
      have hbA : Below wr.heap.size wr wA := (Below.refl _ _).drew.trans hbA
      have HDA := Lib.hid (HD.out.later hbA)
      have HOA := Lib.hid (own_over HO.out hbA (Nat.le_refl _))
      clear hbA
      go_wp2_with fail
      refine hK.out _ _ (HS1.out _ HDA.out.bel) (fun hH => ?_)
      clear hK K
      (refine hTake (i := 9) (v := ?_) rfl (by kernel_rfl) (by kernel_rfl) (by kernel_rfl) (fun _ _ _ h => h) (by kernel_rfl) ?_ (by assumption) ?_; rotate_left; focus (intro w' hS'; (try dsimp only at hS'); go_split_ands; (try go_simp); (try (with_reducible rfl)); done); try simp only [Act.put, List.setIfInBounds_toArray, List.set_cons_zero, List.set_cons_succ])
      refine wpAnyH_done (by kernel_rfl) ?_ _
      clear hH HO HD
      go_wp2_with fail
      go_loopw [11, 14] (fun s11 s14 wr => ∃ (j : Nat) (Q : List It), j ≤ RW ∧ s14 = .int .i64 (j : Nat) ∧ (∃ fa fc, s11 = .slice fa Q.length fc) ∧ Q.length ≤ P.length + j ∧ Hid (Q = itemsTo s tp i ++ lineI s i (if i = tp then k0 else 0) j) ∧ Hid (wr.ownsRow BT 9 1 s11 Q.length (txs Q)) ∧ Hid (DI s R C B2 hb GB gcap rb ro rc w1 wr [] ((curT Q (R - 1)).1 : Nat) ((curT Q (R - 1)).2 : Nat))) (fun _ j _ => RW - (intOf j).toNat)
      case atStart => exact ⟨0, P, Nat.zero_le _, rfl, ⟨_, _, rfl⟩, by omega, Lib.hid (by rw [lineI_none s i (Nat.zero_le _), List.append_nil]; exact HP.out), HOA, HDA⟩
      case round =>
        obtain ⟨j, Q, hj1, rfl, ⟨fb, fd, rfl⟩, hQl, HQE, HOQ, HDQ⟩ := hrel
        obtain ⟨⟨y0, y1, y2, y3, y4, y5, y6⟩, _⟩ := HS7.out wr HDQ.out.bel
        by_cases hj : j < RW
        · go_upto_region 19 with fail
          go_cut [92] from 85 to 141 (fun v wx => ∃ q : Bool, v = .bool q ∧ Hid (q = decide (i = tp ∧ j < k0)) ∧ wx = wr)
          case first =>
            by_cases hit : i = tp
            · have e1 : ((i : Int) == (tp : Int)) = true := by simp; omega
              have e2 : (i == tp) = true := by simpa using hit
              have HIT := Lib.hid hit
              clear hit
              by_cases hjk : j < k0
              · have e3 : decide (j < k0) = true := decide_eq_true hjk
                go_wp2_with fail
                go_meet
                exact ⟨true, rfl, Lib.hid (decide_eq_true ⟨HIT.out, hjk⟩).symm, rfl⟩
              · have e3 : decide (j < k0) = false := decide_eq_false hjk
                go_wp2_with fail
                go_meet
                exact ⟨false, rfl, Lib.hid (decide_eq_false (fun h => hjk h.2)).symm, rfl⟩
            · have e1 : ((i : Int) == (tp : Int)) = false := by simp; omega
              have e2 : (i == tp) = false := by simpa using hit
              have HIT := Lib.hid hit
              clear hit
              go_wp2_with fail
              go_meet
              exact ⟨false, rfl, Lib.hid (decide_eq_false (fun h => HIT.out h.1)).symm, rfl⟩
          case rest =>
            obtain ⟨q, rfl, HQ, rfl⟩ := hcut
            cases q with
            | true =>
              have HQT := Lib.hid (of_decide_eq_true HQ.out.symm)
              clear HQ
              go_wp2_with fail
              exact ⟨⟨j + 1, Q, by omega, by go_num, ⟨_, _, rfl⟩, by omega, Lib.hid (by
                have h1 := HQT.out.2
                have h2 := HQE.out
                rw [if_pos HQT.out.1] at h2 ⊢
                rw [lineI_none s i (by omega)] at h2 ⊢
                exact h2), HOQ, HDQ⟩, by simp [intOf]; omega⟩
            | false =>
              have HQF := Lib.hid (of_decide_eq_false HQ.out.symm)
              clear HQ
              have HSJ : Hid ((if i = tp then k0 else 0) ≤ j) := Lib.hid (by
                split
                · rename_i h; have := HQF.out; omega
                · omega)
              have HQN : Hid (Q ++ [s.item i j] = itemsTo s tp i ++ lineI s i (if i = tp then k0 else 0) (j + 1)) := Lib.hid (by rw [lineI_succ s i HSJ.out, ← List.append_assoc, ← HQE.out])
              go_upto_region 20 with fail
              go_cut [105] from 93 to 141 (fun v wx => ∃ q : Bool, v = .bool q ∧ Hid (q = decide (Q.length < R - 1 ∧ (i : Int) = line)) ∧ wx = wc)
              case first =>
                by_cases hql : Q.length < R - 1
                · have hq2 : (Q.length : Int) < (R : Int) - 1 := by omega
                  by_cases hil : (i : Int) = line
                  · have HIL := Lib.hid hil
                    have hd4 : ((i : Int) == line) = true := by simpa using hil
                    clear hil
                    go_wp2_with fail
                    go_meet
                    exact ⟨true, rfl, Lib.hid (decide_eq_true ⟨hql, HIL.out⟩).symm, rfl⟩
                  · have HIL := Lib.hid hil
                    have hd4 : ((i : Int) == line) = false := by simpa using hil
                    clear hil
                    go_wp2_with fail
                    go_meet
                    exact ⟨false, rfl, Lib.hid (decide_eq_false (fun h => HIL.out h.2)).symm, rfl⟩
                · have hq2 : ¬ (Q.length : Int) < (R : Int) - 1 := by omega
                  have hd4 : decide ((Q.length : Int) < (R : Int) - 1) = false := decide_eq_false hq2
                  go_wp2_with fail
                  go_meet
                  exact ⟨false, rfl, Lib.hid (decide_eq_false (fun h => hql h.1)).symm, rfl⟩
              case rest =>
                obtain ⟨q, rfl, HQ, rfl⟩ := hcut
                go_upto_if 105 with fail
                go_cut [15, 16] from 93 to 141 (fun _ _ wx => ∃ x y : Int, Hid (x = ((curT (Q ++ [s.item i j]) (R - 1)).1 : Nat) ∧ y = ((curT (Q ++ [s.item i j]) (R - 1)).2 : Nat)) ∧ Hid (wx.ownsRow BT 9 1 (.slice fb Q.length fd) Q.length (txs Q)) ∧ Hid (DI s R C B2 hb GB gcap rb ro rc w1 wx [] x y))
                case first =>
                  cases q with
                  | true =>
                    have HQT := Lib.hid (of_decide_eq_true HQ.out.symm)
                    clear HQ
                    go_upto_region 21 with fail
                    refine wp_region_held_drew (S := fun wx => (wx.cell? ⟨B0, 0, none⟩ = some (.slice (some ⟨tb, tq, none⟩) n c) ∧ wx.cell? ⟨B0, 2, none⟩ = some (.int .i64 s.col) ∧ wx.cell? ⟨B0, 6, none⟩ = some (.int .i64 (C : Int)) ∧ wx.cell? ⟨tb, tq + (i - 1), none⟩ = some (.string tx)) ∧ Below B2 w1 wx) (by kernel_rfl) (HS1.out _ HDQ.out.bel.drew) (fun hH => ?_)
                    clear y0 y1 y2 y3 y4 y5 y6
                    (refine hTake (i := 0) (v := ?_) rfl (by kernel_rfl) (by kernel_rfl) (by kernel_rfl) (fun _ _ _ h => h) (by kernel_rfl) ?_ (by assumption) ?_; rotate_left; focus (intro w' hS'; (try dsimp only at hS'); go_split_ands; (try go_simp); (try (with_reducible rfl)); done); try simp only [Act.put, List.setIfInBounds_toArray, List.set_cons_zero, List.set_cons_succ]); (refine hTake (i := 1) (v := ?_) rfl (by kernel_rfl) (by kernel_rfl) (by kernel_rfl) (fun _ _ _ h => h) (by kernel_rfl) ?_ (by assumption) ?_; rotate_left; focus (intro w' hS'; (try dsimp only at hS'); go_split_ands; (try go_simp); (try (with_reducible rfl)); done); try simp only [Act.put, List.setIfInBounds_toArray, List.set_cons_zero, List.set_cons_succ]); (refine hTake (i := 2) (v := ?_) rfl (by kernel_rfl) (by kernel_rfl) (by kernel_rfl) (fun _ _ _ h => h) (by kernel_rfl) ?_ (by assumption) ?_; rotate_left; focus (intro w' hS'; (try dsimp only at hS'); go_split_ands; (try go_simp); (try (with_reducible rfl)); done); try simp only [Act.put, List.setIfInBounds_toArray, List.set_cons_zero, List.set_cons_succ]); (refine hTake (i := 3) (v := ?_) rfl (by kernel_rfl) (by kernel_rfl) (by kernel_rfl) (fun _ _ _ h => h) (by kernel_rfl) ?_ (by assumption) ?_; rotate_left; focus (intro w' hS'; (try dsimp only at hS'); go_split_ands; (try go_simp); (try (with_reducible rfl)); done); try simp only [Act.put, List.setIfInBounds_toArray, List.set_cons_zero, List.set_cons_succ]); (refine hTake (i := 4) (v := ?_) rfl (by kernel_rfl) (by kernel_rfl) (by kernel_rfl) (fun _ _ _ h => h) (by kernel_rfl) ?_ (by assumption) ?_; rotate_left; focus (intro w' hS'; (try dsimp only at hS'); go_split_ands; (try go_simp); (try (with_reducible rfl)); done); try simp only [Act.put, List.setIfInBounds_toArray, List.set_cons_zero, List.set_cons_succ]); (refine hTake (i := 5) (v := ?_) rfl (by kernel_rfl) (by kernel_rfl) (by kernel_rfl) (fun _ _ _ h => h) (by kernel_rfl) ?_ (by assumption) ?_; rotate_left; focus (intro w' hS'; (try dsimp only at hS'); go_split_ands; (try go_simp); (try (with_reducible rfl)); done); try simp only [Act.put, List.setIfInBounds_toArray, List.set_cons_zero, List.set_cons_succ]); (refine hTake (i := 6) (v := ?_) rfl (by kernel_rfl) (by kernel_rfl) (by kernel_rfl) (fun _ _ _ h => h) (by kernel_rfl) ?_ (by assumption) ?_; rotate_left; focus (intro w' hS'; (try dsimp only at hS'); go_split_ands; (try go_simp); (try (with_reducible rfl)); done); try simp only [Act.put, List.setIfInBounds_toArray, List.set_cons_zero, List.set_cons_succ]); (refine hTake (i := 7) (v := ?_) rfl (by kernel_rfl) (by kernel_rfl) (by kernel_rfl) (fun _ _ _ h => h) (by kernel_rfl) ?_ (by assumption) ?_; rotate_left; focus (intro w' hS'; (try dsimp only at hS'); go_split_ands; (try go_simp); (try (with_reducible rfl)); done); try simp only [Act.put, List.setIfInBounds_toArray, List.set_cons_zero, List.set_cons_succ]); (refine hTake (i := 8) (v := ?_) rfl (by kernel_rfl) (by kernel_rfl) (by kernel_rfl) (fun _ _ _ h => h) (by kernel_rfl) ?_ (by assumption) ?_; rotate_left; focus (intro w' hS'; (try dsimp only at hS'); go_split_ands; (try go_simp); (try (with_reducible rfl)); done); try simp only [Act.put, List.setIfInBounds_toArray, List.set_cons_zero, List.set_cons_succ]); (refine hTake (i := 9) (v := ?_) rfl (by kernel_rfl) (by kernel_rfl) (by kernel_rfl) (fun _ _ _ h => h) (by kernel_rfl) ?_ (by assumption) ?_; rotate_left; focus (intro w' hS'; (try dsimp only at hS'); go_split_ands; (try go_simp); (try (with_reducible rfl)); done); try simp only [Act.put, List.setIfInBounds_toArray, List.set_cons_zero, List.set_cons_succ]); (refine hTake (i := 10) (v := ?_) rfl (by kernel_rfl) (by kernel_rfl) (by kernel_rfl) (fun _ _ _ h => h) (by kernel_rfl) ?_ (by assumption) ?_; rotate_left; focus (intro w' hS'; (try dsimp only at hS'); go_split_ands; (try go_simp); (try (with_reducible rfl)); done); try simp only [Act.put, List.setIfInBounds_toArray, List.set_cons_zero, List.set_cons_succ])
                    refine hOne (i := 11) rfl (by kernel_rfl) (fun K hK => ?_)
                    go_simp
                    refine (CAT.out _ hH.2).mono ?_
                    rintro e wB ⟨rfl, hbB⟩
                    have hbB : Below _ _ wB := (Below.refl _ _).drew.trans hbB
                    have HDB := Lib.hid (HDQ.out.later hbB)
                    have HOB := Lib.hid (own_over HOQ.out hbB (Nat.le_refl _))
                    clear hbB
                    go_wp2_with fail
                    refine hK.out _ _ (HS1.out _ HDB.out.bel) (fun hH => ?_)
                    clear hK K
                    (refine hTake (i := 12) (v := ?_) rfl (by kernel_rfl) (by kernel_rfl) (by kernel_rfl) (fun _ _ _ h => h) (by kernel_rfl) ?_ (by assumption) ?_; rotate_left; focus (intro w' hS'; (try dsimp only at hS'); go_split_ands; (try go_simp); (try (with_reducible rfl)); done); try simp only [Act.put, List.setIfInBounds_toArray, List.set_cons_zero, List.set_cons_succ]); (refine hTake (i := 13) (v := ?_) rfl (by kernel_rfl) (by kernel_rfl) (by kernel_rfl) (fun _ _ _ h => h) (by kernel_rfl) ?_ (by assumption) ?_; rotate_left; focus (intro w' hS'; (try dsimp only at hS'); go_split_ands; (try go_simp); (try (with_reducible rfl)); done); try simp only [Act.put, List.setIfInBounds_toArray, List.set_cons_zero, List.set_cons_succ]); (refine hTake (i := 14) (v := ?_) rfl (by kernel_rfl) (by kernel_rfl) (by kernel_rfl) (fun _ _ _ h => h) (by kernel_rfl) ?_ (by assumption) ?_; rotate_left; focus (intro w' hS'; (try dsimp only at hS'); go_split_ands; (try go_simp); (try (with_reducible rfl)); done); try simp only [Act.put, List.setIfInBounds_toArray, List.set_cons_zero, List.set_cons_succ]); (refine hTake (i := 15) (v := ?_) rfl (by kernel_rfl) (by kernel_rfl) (by kernel_rfl) (fun _ _ _ h => h) (by kernel_rfl) ?_ (by assumption) ?_; rotate_left; focus (intro w' hS'; (try dsimp only at hS'); go_split_ands; (try go_simp); (try (with_reducible rfl)); done); try simp only [Act.put, List.setIfInBounds_toArray, List.set_cons_zero, List.set_cons_succ]); (refine hTake (i := 16) (v := ?_) rfl (by kernel_rfl) (by kernel_rfl) (by kernel_rfl) (fun _ _ _ h => h) (by kernel_rfl) ?_ (by assumption) ?_; rotate_left; focus (intro w' hS'; (try dsimp only at hS'); go_split_ands; (try go_simp); (try (with_reducible rfl)); done); try simp only [Act.put, List.setIfInBounds_toArray, List.set_cons_zero, List.set_cons_succ])
                    refine wpAnyH_done (by kernel_rfl) ?_ _
                    clear hH
                    by_cases hak : A1 = j
                    · have hd5 : ((A1 : Int) == (j : Int)) = true := by simp; omega
                      have hd6 : (A1 == j) = true := by simpa using hak
                      have HIT : Hid ((s.item i j).2 = some A2) := Lib.hid (by unfold SH.item; rw [if_pos ⟨by rw [← HLI.out]; exact HQT.out.2, by rw [← HA.out]; exact hak⟩, ← HA.out])
                      have HCU : Hid (curT (Q ++ [s.item i j]) (R - 1) = (Q.length, A2)) := Lib.hid (by rw [curT_lt _ HQT.out.1, HIT.out])
                      have b3 := HDB.out.box.c3
                      have b4 := HDB.out.box.c4
                      have e3 := HDB.out.box.free 3
                      have e4 := HDB.out.box.free 4
                      have HDC := Lib.hid (HDB.out.cur (Nat.zero_le _) (Q.length : Nat) (A2 : Nat))
                      have HOC := Lib.hid (ownsRow_setCell (ownsRow_setCell HOB.out GB 3 (.int .i64 (Q.length : Nat)) HBT.out) GB 4 (.int .i64 (A2 : Nat)) HBT.out)
                      clear hak
                      go_wp2_with fail
                      go_meet
                      exact ⟨_, _, Lib.hid (by rw [HCU.out]; exact ⟨rfl, rfl⟩), HOC, HDC⟩
                    · have hd5 : ((A1 : Int) == (j : Int)) = false := by simp; omega
                      have hd6 : (A1 == j) = false := by simpa using hak
                      have HCU : Hid (curT (Q ++ [s.item i j]) (R - 1) = curT Q (R - 1)) := Lib.hid (curT_none _ (by unfold SH.item; rw [if_neg (fun h => hak (by rw [← HA.out] at h; exact h.2))]))
                      clear hak
                      go_wp2_with fail
                      go_meet
                      exact ⟨_, _, Lib.hid (by rw [HCU.out]; exact ⟨rfl, rfl⟩), HOB, HDB⟩
                  | false =>
                    have HQG := Lib.hid (of_decide_eq_false HQ.out.symm)
                    clear HQ
                    have HCU : Hid (curT (Q ++ [s.item i j]) (R - 1) = curT Q (R - 1)) := Lib.hid (by
                      by_cases hql : Q.length < R - 1
                      · refine curT_none _ (item_no' s i j (fun h => HQG.out ⟨hql, by rw [HLI.out]; exact h⟩))
                      · exact curT_ge _ (by omega))
                    go_wp2_with fail
                    go_meet
                    exact ⟨_, _, Lib.hid (by rw [HCU.out]; exact ⟨rfl, rfl⟩), HOQ, HDQ⟩
                case rest =>
                  obtain ⟨x, y, HXY, HOZ, HDZ⟩ := hcut
                  have CR1 := fun wx hb => Lib.hid (CRO.out j wx hb)
                  obtain ⟨tj, htj⟩ : ∃ t, t = (s.item i j).1 := ⟨_, rfl⟩
                  have HTJ := Lib.hid htj
                  rw [← htj] at CR1
                  clear htj
                  go_upto_region 24 with fail
                  refine wp_region_held_drew (S := fun wx => (wx.cell? ⟨B0, 0, none⟩ = some (.slice (some ⟨tb, tq, none⟩) n c) ∧ wx.cell? ⟨B0, 2, none⟩ = some (.int .i64 s.col) ∧ wx.cell? ⟨B0, 6, none⟩ = some (.int .i64 (C : Int)) ∧ wx.cell? ⟨tb, tq + (i - 1), none⟩ = some (.string tx)) ∧ Below B2 w1 wx) (by kernel_rfl) (HS1.out _ HDZ.out.bel.drew) (fun hH => ?_)
                  (refine hTake (i := 0) (v := ?_) rfl (by kernel_rfl) (by kernel_rfl) (by kernel_rfl) (fun _ _ _ h => h) (by kernel_rfl) ?_ (by assumption) ?_; rotate_left; focus (intro w' hS'; (try dsimp only at hS'); go_split_ands; (try go_simp); (try (with_reducible rfl)); done); try simp only [Act.put, List.setIfInBounds_toArray, List.set_cons_zero, List.set_cons_succ]); (refine hTake (i := 1) (v := ?_) rfl (by kernel_rfl) (by kernel_rfl) (by kernel_rfl) (fun _ _ _ h => h) (by kernel_rfl) ?_ (by assumption) ?_; rotate_left; focus (intro w' hS'; (try dsimp only at hS'); go_split_ands; (try go_simp); (try (with_reducible rfl)); done); try simp only [Act.put, List.setIfInBounds_toArray, List.set_cons_zero, List.set_cons_succ]); (refine hTake (i := 2) (v := ?_) rfl (by kernel_rfl) (by kernel_rfl) (by kernel_rfl) (fun _ _ _ h => h) (by kernel_rfl) ?_ (by assumption) ?_; rotate_left; focus (intro w' hS'; (try dsimp only at hS'); go_split_ands; (try go_simp); (try (with_reducible rfl)); done); try simp only [Act.put, List.setIfInBounds_toArray, List.set_cons_zero, List.set_cons_succ]); (refine hTake (i := 3) (v := ?_) rfl (by kernel_rfl) (by kernel_rfl) (by kernel_rfl) (fun _ _ _ h => h) (by kernel_rfl) ?_ (by assumption) ?_; rotate_left; focus (intro w' hS'; (try dsimp only at hS'); go_split_ands; (try go_simp); (try (with_reducible rfl)); done); try simp only [Act.put, List.setIfInBounds_toArray, List.set_cons_zero, List.set_cons_succ]); (refine hTake (i := 4) (v := ?_) rfl (by kernel_rfl) (by kernel_rfl) (by kernel_rfl) (fun _ _ _ h => h) (by kernel_rfl) ?_ (by assumption) ?_; rotate_left; focus (intro w' hS'; (try dsimp only at hS'); go_split_ands; (try go_simp); (try (with_reducible rfl)); done); try simp only [Act.put, List.setIfInBounds_toArray, List.set_cons_zero, List.set_cons_succ]); (refine hTake (i := 5) (v := ?_) rfl (by kernel_rfl) (by kernel_rfl) (by kernel_rfl) (fun _ _ _ h => h) (by kernel_rfl) ?_ (by assumption) ?_; rotate_left; focus (intro w' hS'; (try dsimp only at hS'); go_split_ands; (try go_simp); (try (with_reducible rfl)); done); try simp only [Act.put, List.setIfInBounds_toArray, List.set_cons_zero, List.set_cons_succ]); (refine hTake (i := 6) (v := ?_) rfl (by kernel_rfl) (by kernel_rfl) (by kernel_rfl) (fun _ _ _ h => h) (by kernel_rfl) ?_ (by assumption) ?_; rotate_left; focus (intro w' hS'; (try dsimp only at hS'); go_split_ands; (try go_simp); (try (with_reducible rfl)); done); try simp only [Act.put, List.setIfInBounds_toArray, List.set_cons_zero, List.set_cons_succ]); (refine hTake (i := 7) (v := ?_) rfl (by kernel_rfl) (by kernel_rfl) (by kernel_rfl) (fun _ _ _ h => h) (by kernel_rfl) ?_ (by assumption) ?_; rotate_left; focus (intro w' hS'; (try dsimp only at hS'); go_split_ands; (try go_simp); (try (with_reducible rfl)); done); try simp only [Act.put, List.setIfInBounds_toArray, List.set_cons_zero, List.set_cons_succ]); (refine hTake (i := 8) (v := ?_) rfl (by kernel_rfl) (by kernel_rfl) (by kernel_rfl) (fun _ _ _ h => h) (by kernel_rfl) ?_ (by assumption) ?_; rotate_left; focus (intro w' hS'; (try dsimp only at hS'); go_split_ands; (try go_simp); (try (with_reducible rfl)); done); try simp only [Act.put, List.setIfInBounds_toArray, List.set_cons_zero, List.set_cons_succ]); (refine hTake (i := 9) (v := ?_) rfl (by kernel_rfl) (by kernel_rfl) (by kernel_rfl) (fun _ _ _ h => h) (by kernel_rfl) ?_ (by assumption) ?_; rotate_left; focus (intro w' hS'; (try dsimp only at hS'); go_split_ands; (try go_simp); (try (with_reducible rfl)); done); try simp only [Act.put, List.setIfInBounds_toArray, List.set_cons_zero, List.set_cons_succ])
                  refine hOne (i := 10) rfl (by kernel_rfl) (fun K hK => ?_)
                  go_simp
                  refine (CR1 _ hH.2).out.mono ?_
                  rintro e wB ⟨rfl, hbB⟩
                  have hbB : Below _ _ wB := (Below.refl _ _).drew.trans hbB
                  have HDB := Lib.hid (HDZ.out.later hbB)
                  have HOB := Lib.hid (own_over HOZ.out hbB (Nat.le_refl _))
                  clear hbB
                  go_wp2_with fail
                  refine hK.out _ _ (HS1.out _ HDB.out.bel) (fun hH => ?_)
                  clear hK K
                  refine hOne (i := 11) rfl (by kernel_rfl) (fun K hK => ?_)
                  go_simp
                  have hb5 : Below wB.heap.size wB (wB.alloc (.cells #[.string ⟨tj.toArray⟩] 9)) := (Below.refl _ _).alloc (Nat.le_refl _) _
                  refine hK.out _ _ (HS1.out _ (HDB.out.later hb5).bel) (fun hH => ?_)
                  clear hK K
                  refine hOne (i := 12) rfl (by kernel_rfl) (fun K hK => ?_)
                  refine step_append_one rfl (.tmp 129) (.tmp 140) 22 rfl 9 (.string ByteArray.empty) 16 (by kernel_rfl) (by kernel_rfl) rfl BT (.slice fb Q.length fd) Q.length (txs Q) (by simp [Act.eval]) (own_over HOB.out hb5 (Nat.le_refl _)) wB.heap.size 1 (by simp [Act.eval]) (.string ⟨tj.toArray⟩) (new_one wB _ _) rfl (by have := HPL0.out; omega) (by decide) (HBT2.out _ _ _ _ (HDB.out.later hb5)) ?_
                  intro g7 c7 w7 hown7 hb7
                  have HD7 := Lib.hid ((HDB.out.later hb5).over (Nat.zero_le _) HBT.out hb7)
                  refine hK.out _ _ (HS1.out _ HD7.out.bel) (fun hH => ?_)
                  clear hK K
                  (refine hTake (i := 13) (v := ?_) rfl (by kernel_rfl) (by kernel_rfl) (by kernel_rfl) (fun _ _ _ h => h) (by kernel_rfl) ?_ (by assumption) ?_; rotate_left; focus (intro w' hS'; (try dsimp only at hS'); go_split_ands; (try go_simp); (try (with_reducible rfl)); done); try simp only [Act.put, List.setIfInBounds_toArray, List.set_cons_zero, List.set_cons_succ])
                  refine wpAnyH_done (by kernel_rfl) ?_ _
                  clear hH hb5 hb7
                  go_wp2_with fail
                  exact ⟨⟨j + 1, Q ++ [s.item i j], by omega, by go_num, ⟨_, _, by rw [List.length_append]; rfl⟩, by rw [List.length_append]; simp; omega, HQN, Lib.hid (by rw [List.length_append, txs_snoc, ← HTJ.out]; exact hown7.out), Lib.hid (by rw [← HXY.out.1, ← HXY.out.2]; exact HD7.out)⟩, by simp [intOf]; omega⟩
        · have hjr : j = RW := by omega
          have HJR := Lib.hid hjr
          clear hjr
          go_wp2_with fail
          exact ⟨⟨i + 1, Q, by omega, .inl (by omega), by go_num, ⟨_, _, rfl⟩, by have := HPL0.out; omega, Lib.hid (by rw [items_succ s hi1, HSKI.out, ← HRW.out, ← HJR.out]; exact HQE.out), HOQ, HDQ⟩, by simp [intOf]; omega⟩
    · have HPE : Hid (P = itemsTo s tp (n + 1)) := Lib.hid (by rw [← show i = n + 1 by omega]; exact HP.out)
      have hPl2 : P.length ≤ 120000 := by omega
      have HSH : Hid (shownI s tp = P.take (R - 1)) := Lib.hid (by unfold shownI; rw [← HN.out, HR.out, HPE.out]; rfl)
      obtain ⟨cx, hcx⟩ : ∃ x : Int, x = ((curT P (R - 1)).1 : Nat) := ⟨_, rfl⟩
      obtain ⟨cy, hcy⟩ : ∃ x : Int, x = ((curT P (R - 1)).2 : Nat) := ⟨_, rfl⟩
      have HCX : Hid (cx = ((curF (shownI s tp)).2.1 : Nat)) := Lib.hid (by rw [hcx, HSH.out]; rfl)
      have HCY : Hid (cy = ((curF (shownI s tp)).2.2 : Nat)) := Lib.hid (by rw [hcy, HSH.out]; rfl)
      rw [← hcx, ← hcy] at HD
      clear hcx hcy hPl
      have FIN0 : Hid (∀ (x y : Int) (wz : World), DI s R C B2 hb GB gcap rb ro rc w1 wz (allRows s tp) x y → ∀ W', W' = ((((wz.setCell ⟨B4, 0, none⟩ (.int .i64 (R : Int))).setCell ⟨B4, 1, none⟩ (.int .i64 (C : Int))).setCell ⟨B4, 2, none⟩ (.slice (some ⟨hb, 0, none⟩) R gcap)).setCell ⟨B4, 3, none⟩ (.int .i64 x)).setCell ⟨B4, 4, none⟩ (.int .i64 y) → (if s.typing = true then x = (R : Int) - 1 ∧ y = min ((statT s).length : Int) ((C : Int) - 1) else x = cx ∧ y = cy) → QQ (.returned (.tuple #[.agg #[.int .i64 (R : Int), .int .i64 (C : Int), .slice (some ⟨hb, 0, none⟩) R gcap, .int .i64 x, .int .i64 y], .int .i64 0])) W') := Lib.hid (fun x y wz hd W' hW' hxy => by
        rw [HQQ.out, HE0.out, if_pos rfl, Int.toNat_natCast]
        have hlt5 : B4 < B2 := by rw [HB2.out]; exact HB5.out.lt'
        have hoth : ∀ c : Nat, B2 ≤ c → c < wz.heap.size → W'.heap[c]? = wz.heap[c]? := fun c hc _ => by rw [hW']; exact sets_other _ _ _ _ _ _ _ _ (by omega)
        have hsz : wz.heap.size ≤ W'.heap.size := by rw [hW', set_size, set_size, set_size, set_size, set_size]; exact Nat.le_refl _
        have hlA : (allRows s tp).length = R := by rw [all_len s tp HF.out.r2, hd.rn]
        have hgr := hd.grid hlA W' hsz hoth
        have hwb : w.heap.size ≤ B2 := by rw [HB2.out]; exact HBEL.out.size
        have hbz : Below w.heap.size w wz := HBEL.out.trans (hd.bel.mono hwb)
        refine ⟨⟨_, rfl, ?_⟩, by rw [hW']; exact Below_sets hbz _ HB4.out _ _ _ _ _⟩
        have hG : drawG s tp = ⟨s.rows, s.cols, cellsOf s (allRows s tp), x, y⟩ := by
          unfold drawG
          cases hty : s.typing with
          | true =>
            rw [hty, if_pos rfl] at hxy
            rw [if_pos rfl, if_pos rfl, hxy.1, hxy.2, hd.rr, hd.cc]
          | false =>
            rw [hty, if_neg (by decide)] at hxy
            rw [if_neg (by decide), if_neg (by decide), hxy.1, hxy.2, HCX.out, HCY.out]
        rw [hG]
        exact hgr.mono hwb)
      go_wp2_with fail
      go_loopw [11] (fun s11 wr => ∃ Q3 : List It, (∃ fa fc, s11 = .slice fa Q3.length fc) ∧ Q3.length ≤ 130000 ∧ Hid (Q3.length = P.length ∨ Q3.length ≤ R - 1) ∧ Hid (Q3 = itemsTo s tp (n + 1) ++ pads s P.length Q3.length) ∧ P.length ≤ Q3.length ∧ Hid (wr.ownsRow BT 9 1 s11 Q3.length (txs Q3)) ∧ Hid (DI s R C B2 hb GB gcap rb ro rc w1 wr [] cx cy)) (fun s11 _ => R - lenV s11)
      case atStart => exact ⟨P, ⟨_, _, rfl⟩, by omega, Lib.hid (.inl rfl), Lib.hid (by rw [pads_same, List.append_nil]; exact HPE.out), Nat.le_refl _, HO, HD⟩
      case round =>
        clear y0 y1 y2 y3 y4 y5 y6
        obtain ⟨Q3, ⟨fb, fd, rfl⟩, hQ3l, HQ3a, HQ3b, hQ3c, HO3, HD3⟩ := hrel
        obtain ⟨⟨y0, y1, y2, y3, y4, y5, y6⟩, _⟩ := HS7.out wr HD3.out.bel
        by_cases hq3 : Q3.length < R - 1
        · have hq4 : (Q3.length : Int) < (R : Int) - 1 := by omega
          have HNX : Hid (∀ t, padI s Q3.length = (t, none) → Q3 ++ [(t, none)] = itemsTo s tp (n + 1) ++ pads s P.length (Q3.length + 1)) := Lib.hid (fun t ht => by rw [pads_succ s hQ3c, ht, ← List.append_assoc, ← HQ3b.out])
          have hBl := HBT2.out _ _ _ _ HD3.out
          have hBa : ∀ o, BT ≤ (wr.alloc o).heap.size := fun o => by rw [alloc_size]; omega
          have hBa := hBa (.cells #[.string ⟨[126].toArray⟩] 9)
          by_cases hn0 : n = 0
          · have n1 : ((n : Int) == 0) = true := by simpa using hn0
            have n2 : (n == 0) = true := by simpa using hn0
            by_cases hq0 : Q3.length = 0
            · have m1 : ((Q3.length : Int) == 0) = true := by rw [beq_iff_eq]; omega
              have m2 : (Q3.length == 0) = true := by simpa using hq0
              have HT := Lib.hid (HNX.out [] (by unfold padI; rw [if_pos ⟨hq0, by rw [← HN.out]; exact hn0⟩]))
              have hBa : BT ≤ (wr.alloc (.cells #[.string ⟨([] : List UInt8).toArray⟩] 9)).heap.size := by rw [alloc_size]; omega
              clear HNX hn0 hq0
              go_wp2_with (at_builtin; refine wpList_append_one rfl (.tmp 155) (.tmp 157) 22 rfl 9 (.string ByteArray.empty) 16 (by kernel_rfl) (by kernel_rfl) rfl BT (.slice fb Q3.length fd) Q3.length (txs Q3) (by simp [Act.eval]) (HO3.out.alloc _) wr.heap.size 1 (by simp [Act.eval]) (.string ⟨([] : List UInt8).toArray⟩) (new_one _ _ _) rfl (by omega) (by decide) hBa ?_; intro g7 c7 w7 hown7 hgr7 hb7)
              exact ⟨⟨Q3 ++ [(([] : List UInt8), none)], ⟨_, _, by rw [List.length_append]; rfl⟩, by rw [List.length_append]; simp; omega, Lib.hid (.inr (by rw [List.length_append]; simp; omega)), Lib.hid (by rw [List.length_append]; exact HT.out), by rw [List.length_append]; omega, Lib.hid (by rw [List.length_append, txs_snoc]; exact hown7.out), Lib.hid ((HD3.out.later ((Below.refl _ _).alloc (Nat.le_refl _) _)).over (Nat.zero_le _) HBT.out hb7)⟩, by simp [lenV]; omega⟩
            · have m1 : ((Q3.length : Int) == 0) = false := by rw [beq_eq_false_iff_ne]; omega
              have m2 : (Q3.length == 0) = false := by simpa using hq0
              have HT := Lib.hid (HNX.out [126] (by unfold padI; rw [if_neg (fun h => hq0 h.1)]))
              clear HNX hn0 hq0
              go_wp2_with (at_builtin; refine wpList_append_one rfl (.tmp 155) (.tmp 157) 22 rfl 9 (.string ByteArray.empty) 16 (by kernel_rfl) (by kernel_rfl) rfl BT (.slice fb Q3.length fd) Q3.length (txs Q3) (by simp [Act.eval]) (HO3.out.alloc _) wr.heap.size 1 (by simp [Act.eval]) (.string ⟨[126].toArray⟩) (new_one _ _ _) rfl (by omega) (by decide) hBa ?_; intro g7 c7 w7 hown7 hgr7 hb7)
              exact ⟨⟨Q3 ++ [([126], none)], ⟨_, _, by rw [List.length_append]; rfl⟩, by rw [List.length_append]; simp; omega, Lib.hid (.inr (by rw [List.length_append]; simp; omega)), Lib.hid (by rw [List.length_append]; exact HT.out), by rw [List.length_append]; omega, Lib.hid (by rw [List.length_append, txs_snoc]; exact hown7.out), Lib.hid ((HD3.out.later ((Below.refl _ _).alloc (Nat.le_refl _) _)).over (Nat.zero_le _) HBT.out hb7)⟩, by simp [lenV]; omega⟩
          · have n1 : ((n : Int) == 0) = false := by simp; omega
            have n2 : (n == 0) = false := by simpa using hn0
            have HT := Lib.hid (HNX.out [126] (by unfold padI; rw [if_neg (fun h => hn0 (by rw [HN.out]; exact h.2))]))
            clear HNX hn0
            go_wp2_with (at_builtin; refine wpList_append_one rfl (.tmp 155) (.tmp 157) 22 rfl 9 (.string ByteArray.empty) 16 (by kernel_rfl) (by kernel_rfl) rfl BT (.slice fb Q3.length fd) Q3.length (txs Q3) (by simp [Act.eval]) (HO3.out.alloc _) wr.heap.size 1 (by simp [Act.eval]) (.string ⟨[126].toArray⟩) (new_one _ _ _) rfl (by omega) (by decide) hBa ?_; intro g7 c7 w7 hown7 hgr7 hb7)
            exact ⟨⟨Q3 ++ [([126], none)], ⟨_, _, by rw [List.length_append]; rfl⟩, by rw [List.length_append]; simp; omega, Lib.hid (.inr (by rw [List.length_append]; simp; omega)), Lib.hid (by rw [List.length_append]; exact HT.out), by rw [List.length_append]; omega, Lib.hid (by rw [List.length_append, txs_snoc]; exact hown7.out), Lib.hid ((HD3.out.later ((Below.refl _ _).alloc (Nat.le_refl _) _)).over (Nat.zero_le _) HBT.out hb7)⟩, by simp [lenV]; omega⟩
        · have hq4 : ¬ (Q3.length : Int) < (R : Int) - 1 := by omega
          have hcap := own_cap HO3.out
          obtain ⟨g, rfl, hgB, hgl, _⟩ := own_cells HO3.out (by omega)
          obtain ⟨r1, hr1⟩ : ∃ r1, r1 = R - 1 := ⟨_, rfl⟩
          have HR1 := Lib.hid hr1
          have HOS : Hid (wr.ownsRow BT 9 1 (.slice (some ⟨g, 0, none⟩) r1 fd) r1 (txs (Q3.take r1))) := Lib.hid (by
            rw [← txs_take]
            exact own_cut HO3.out r1 (by omega) (by omega))
          have HALL : Hid (Q3.take r1 ++ [(statT s, none)] = allRows s tp) := Lib.hid (by
            rw [hr1]
            exact rows_all s tp n R HN.out (by rw [HR.out]; rfl) Q3 P.length (by rw [HPE.out]) HQ3a.out HQ3b.out (by omega))
          have hr2 : (r1 : Int) = (R : Int) - 1 := by omega
          have hr3 : ((R : Int) - 1).toNat = r1 := by omega
          have hr4 : (R : Int) - 1 ≤ (fd : Int) := by omega
          have hr5 : (0 : Int) ≤ (R : Int) - 1 := by omega
          have hr6 : r1 ≤ 59 := by omega
          have HR2 := Lib.hid hr2
          clear hr1 hr2
          have hst := HF.out.lim.st
          have CST : Hid (Calls Tryd.prog 22 #[.string s.status] wr fun e w' => (∃ v, e = .returned (.tuple #[.string ⟨(lcells s.status).toArray⟩, v])) ∧ Below wr.heap.size wr w') := Lib.hid (by
            refine (rcells_any s.status wr (by omega)).mono ?_
            rintro e w' ⟨⟨v, he, _⟩, hb⟩
            exact ⟨⟨v, he⟩, hb⟩)
          have hlen : (lcells s.status).length ≤ 8000 := by
            have h2 := (cellsTo_len s.status.data.toList s.status.size (Nat.le_refl _)).2
            have h4 : (lcells s.status).length = (cellsTo s.status.data.toList s.status.size).length := rfl
            omega
          have HX : Hid (statT s = if s.typing = true ∧ s.cols ≤ ((lcells s.status).length : Int) then (lcells s.status).drop ((lcells s.status).length - s.cols.toNat + 1) else lcells s.status) := Lib.hid rfl
          have HSTL : Hid ((statT s).length ≤ 100000) := Lib.hid (by
            rw [HX.out]
            split
            · rw [List.length_drop]; omega
            · omega)
          obtain ⟨l, hl0⟩ : ∃ l, l = lcells s.status := ⟨_, rfl⟩
          rw [← hl0] at CST hlen HX
          obtain ⟨S, hS⟩ : ∃ S : ByteArray, S = ⟨l.toArray⟩ := ⟨_, rfl⟩
          have HS := Lib.hid hS
          rw [← hS] at CST
          have HSL : Hid (S.size = l.length) := Lib.hid (by rw [hS]; rfl)
          have hSb : S.size ≤ 8000 := by rw [HSL.out]; exact hlen
          clear hl0 hS hlen hst hq4
          have hq4 : decide ((Q3.length : Int) < (R : Int) - 1) = false := decide_eq_false (by omega)
          go_wp2_with fail
          (with_reducible refine CST.out.mono ?_); rintro e w7 ⟨⟨v, rfl⟩, hb7⟩
          have HD7 := Lib.hid (HD3.out.later hb7)
          have HO7 := Lib.hid (own_over HOS.out hb7 (Nat.le_refl _))
          clear y0 y1 y2 y3 y4 y5 y6 CST hb7 hr4 hr5
          obtain ⟨⟨y0, y1, y2, y3, y4, y5, y6⟩, _⟩ := HS7.out w7 HD7.out.bel
          have hwr2 : IntKind.i64.wrap ((C : Int) - 1) = (C : Int) - 1 := IntWalk.i64_in _ ⟨by omega, by omega⟩
          go_upto_region 32 with fail
          go_cut [178] from 170 (fun v wx => ∃ q : Bool, v = .bool q ∧ Hid (q = decide (s.typing = true ∧ C ≤ S.size)) ∧ wx = w7)
          case first =>
            rcases Bool.eq_false_or_eq_true s.typing with hty | hty
            rotate_left
            · have HTY := Lib.hid hty
              rw [hty] at y4
              clear hty
              go_wp2_with fail
              go_meet
              exact ⟨false, rfl, Lib.hid (by rw [HTY.out]; simp), rfl⟩
            · have HTY := Lib.hid hty
              rw [hty] at y4
              clear hty
              by_cases hle : C ≤ S.size
              · have hd : decide ((C : Int) ≤ ((S.size : Nat) : Int)) = true := decide_eq_true (by omega)
                have hd2 : (C : Int) ≤ ((S.size : Nat) : Int) := by omega
                have HLE := Lib.hid hle
                go_wp2_with fail
                go_meet
                exact ⟨true, rfl, Lib.hid (by rw [HTY.out]; simp; exact HLE.out), rfl⟩
              · have hd : decide ((C : Int) ≤ ((S.size : Nat) : Int)) = false := decide_eq_false (by omega)
                have hd2 : ¬ (C : Int) ≤ ((S.size : Nat) : Int) := by omega
                have HLE := Lib.hid hle
                go_wp2_with fail
                go_meet
                exact ⟨false, rfl, Lib.hid (by rw [HTY.out]; simp; have := HLE.out; omega), rfl⟩
          case rest =>
            obtain ⟨q, rfl, HQ, rfl⟩ := hcut
            go_upto_if 178 with fail
            go_cut [18] from 170 (fun v wx => v = .string ⟨(statT s).toArray⟩ ∧ wx = wc)
            case first =>
              cases q with
              | true =>
                have HQT := Lib.hid (of_decide_eq_true HQ.out.symm)
                clear HQ
                have HF1 : Hid (⟨(statT s).toArray⟩ = S.extract (S.size - (C - 1)) S.size) := Lib.hid (by
                  have h1 := HQT.out.2
                  rw [HX.out, if_pos ⟨HQT.out.1, by rw [HC.out, ← HSL.out]; omega⟩, HSL.out, stat_cut S l HS.out, HC.out, Int.toNat_natCast]
                  rw [HSL.out] at h1
                  rw [show l.length - C + 1 = l.length - (C - 1) by omega])
                have hcs : C ≤ S.size := HQT.out.2
                have hw1 : IntKind.i64.wrap (((S.size : Nat) : Int) - ((C : Int) - 1)) = ((S.size - (C - 1) : Nat) : Int) := by rw [show ((S.size : Nat) : Int) - ((C : Int) - 1) = ((S.size - (C - 1) : Nat) : Int) by omega]; exact IntWalk.i64_in _ ⟨by omega, by omega⟩
                go_wp2_with fail
                go_meet
                exact ⟨by rw [HF1.out], rfl⟩
              | false =>
                have HQG := Lib.hid (of_decide_eq_false HQ.out.symm)
                clear HQ
                have HF1 : Hid ((⟨(statT s).toArray⟩ : ByteArray) = S) := Lib.hid (by
                  rw [HX.out, if_neg (fun h => HQG.out ⟨h.1, by have h2 := h.2; rw [HC.out, ← HSL.out] at h2; omega⟩)]
                  exact HS.out.symm)
                go_wp2_with fail
                go_meet
                exact ⟨by rw [HF1.out], rfl⟩
            case rest =>
              obtain ⟨rfl, rfl⟩ := hcut
              clear HX HS HSL hSb HQ HO3 HD3 HQ3a HQ3b
              obtain ⟨wd, rfl⟩ : ∃ wd : World, wd = wc := ⟨_, rfl⟩
              obtain ⟨ST, hST⟩ : ∃ ST : ByteArray, ST = ⟨(statT s).toArray⟩ := ⟨_, rfl⟩
              have HST := Lib.hid hST
              rw [← hST]
              have HSZ2 : Hid (((ST.size : Nat) : Int) = ((statT s).length : Nat)) := Lib.hid (by rw [hST]; rfl)
              clear hST
              have hBa : BT ≤ (wd.alloc (.cells #[.string ST] 9)).heap.size := by rw [alloc_size]; have := HBT2.out _ _ _ _ HD7.out; omega
              go_upto_region 34 with fail
              rename_i KK hKK
              have HKK := Lib.hid hKK
              clear hKK
              go_wp2_with (at_builtin; refine wpList_append_one rfl (.tmp 187) (.tmp 189) 22 rfl 9 (.string ByteArray.empty) 16 (by kernel_rfl) (by kernel_rfl) rfl BT (.slice (some ⟨g, 0, none⟩) r1 fd) r1 (txs (Q3.take r1)) (by simp [Act.eval]) (HO7.out.alloc _) wd.heap.size 1 (by simp [Act.eval]) (.string ST) (new_one _ _ _) rfl (by omega) (by decide) hBa ?_; intro g9 c9 w9 hown9 hgr9 hb9)
              refine HKK.out _ _ ?_
              have HLA : Hid ((allRows s tp).length = R) := Lib.hid (by rw [all_len s tp HF.out.r2, HR.out]; rfl)
              obtain ⟨g8, hg8, hgB8, hgl8, hgc⟩ := own_cells hown9.out (Nat.succ_pos _)
              injection hg8 with hg8
              injection hg8 with hg8 _ _
              subst hg8
              have hrR : R = r1 + 1 := by have := HR1.out; omega
              have HRR := Lib.hid hrR
              clear hrR
              have HTXC : Hid (∀ (j : Nat) (x : It), (allRows s tp)[j]? = some x → w9.cell? ⟨g9, j, none⟩ = some (.string ⟨x.1.toArray⟩)) := Lib.hid (fun j x hx => by
                have hj := (List.getElem?_eq_some_iff.1 hx).1
                rw [HLA.out, HRR.out] at hj
                rw [hgc j hj]
                have e : txs (Q3.take r1) ++ [.string ST] = txs (allRows s tp) := by rw [← HALL.out, txs_snoc, HST.out]
                rw [e]; exact txs_get _ hx)
              have HD9 : Hid (DI s R C B2 hb GB gcap rb ro rc w1 w9 ((allRows s tp).take 0) cx cy) := Lib.hid ((HD7.out.later ((Below.refl _ _).alloc (Nat.le_refl _) _)).over (Nat.zero_le _) HBT.out hb9)
              have HGB9 : Hid (BT ≤ g9) := Lib.hid hgB8
              have HGL9 : Hid (g9 < w9.heap.size) := Lib.hid hgl8
              clear hgc hown9 hgr9 hgB8 hgl8 hBa hb9 HD7 HO7 y0 y1 y2 y3 y4 y5 y6
              exact rfill_any HF hC2 HS7 HKB HB5 HLA HRR hr6 HTXC HD9 HGB9 HGL9 HBT HSZ2 hwr hwr2 FIN0
end Go.Proofs.YtnpdpfkoghhioaaDoor
