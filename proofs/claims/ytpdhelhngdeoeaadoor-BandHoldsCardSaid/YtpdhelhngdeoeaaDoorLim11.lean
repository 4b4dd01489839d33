/- The reference of layer 26: stations, Problem. -/
import Derived.Test.YtpdhelhngdeoeaaDoorLim01
import Derived.Test.YtpdhelhngdeoeaaDoorLim07
import Derived.Test.YtpdhelhngdeoeaaDoorLim08
import Derived.Test.YtpdhelhngdeoeaaDoorLim09
import Derived.Test.YtpdhelhngdeoeaaDoorLim10
/- The reference of layer 17: a loop of ValidRules. -/
namespace Go.Proofs.YtpdhelhngdeoeaaDoor
open Go.RowKit

set_option maxRecDepth 100000 in
set_option maxHeartbeats 8000000 in
theorem rv_caps (w W0 wi : World) (A0 A1 A2 : Option Addr) (n0 c0 n1 c1 n2 c2 : Nat) (r : Rul) (ans : Bool) (h : RulAt W0 W0.heap.size ⟨A0, n0, c0, A1, n1, c1, A2, n2, c2⟩ r)
    (hx : Blk W0 w.heap.size 27 [.slice A0 n0 c0, .slice A1 n1 c1, .slice A2 n2 c2]) (hans : Eqn ans (goF goodC R4.nums none r.caps)) (hwi : Below W0.heap.size W0 wi)
    (_d0 : n0 ≤ 4096) (_d1 : n1 ≤ 1024) (d2 : n2 ≤ 1024)
    (x_0 x_2 x_3 x_4 x_5 x_6 x_8 x_9 x_10 x_11 x_12 x_13 x_14 x_15 x_16 x_17 x_18 x_19 x_20 x_21 x_22 x_23 x_24 x_25 x_26 x_27 x_28 x_29 x_30 x_31 x_32 x_33 x_34 x_35 x_36 x_37 x_38 x_39 x_40 x_41 x_42 x_43 x_44 x_45 x_46 x_47 x_48 x_49 x_50 x_51 x_52 x_53 x_54 x_55 x_56 x_57 x_58 x_59 x_60 x_61 x_62 x_63 x_64 x_65 x_66 x_67 x_68 x_69 x_70 x_71 x_72 x_73 x_74 x_75 x_76 x_77 x_78 x_79 x_80 x_81 x_82 x_83 x_84 x_85 x_86 x_87 x_88 x_89 x_90 x_91 x_92 x_93 x_94 x_95 x_96 x_97 x_98 x_99 x_100 x_101 x_102 x_103 x_104 x_105 x_106 x_107 x_108 x_109 x_110 x_111 x_112 x_113 x_114 x_115 x_116 x_117 x_118 x_119 x_120 x_121 x_122 x_123 x_124 x_125 x_126 x_127 x_128 x_129 x_130 x_131 x_132 x_133 x_134 x_135 x_136 x_137 x_138 x_139 x_140 x_141 x_142 x_143 x_144 x_145 x_146 x_147 x_148 x_149 x_150 x_151 x_152 x_153 x_154 x_155 x_156 x_157 x_158 x_159 x_160 x_161 x_162 x_163 x_164 x_165 x_166 x_167 x_168 x_169 x_170 x_171 x_172 x_173 x_174 x_175 x_176 x_177 x_178 x_179 x_180 x_181 x_182 x_183 x_184 x_185 x_186 x_187 x_188 x_189 x_190 x_191 x_192 x_193 x_194 x_195 x_196 x_197 x_198 x_199 x_200 x_201 x_202 x_203 : Value) (Q : Exit → Act → World → Prop)
    (hQ : ∀ (u2 u7 u8 u153 u154 u155 u156 u157 u158 u159 u160 u161 u162 u163 u164 u165 u166 u167 u168 u169 u170 u171 u172 u173 u174 u175 u176 u177 u178 u179 u180 u181 u182 u183 u184 u185 u186 u187 u188 u189 u190 u191 u192 u193 u194 u195 u196 u197 u198 u199 u200 u201 u202 u203 : Value) (w' : World), Eqn ans (true) → Below W0.heap.size W0 w' → Q (.exit 4) ⟨List.toArray (x_0 :: Value.pointer (some ⟨w.heap.size, 0, none⟩) :: u2 :: x_3 :: x_4 :: x_5 :: x_6 :: u7 :: u8 :: x_9 :: x_10 :: x_11 :: x_12 :: x_13 :: x_14 :: x_15 :: x_16 :: x_17 :: x_18 :: x_19 :: x_20 :: x_21 :: x_22 :: x_23 :: x_24 :: x_25 :: x_26 :: x_27 :: x_28 :: x_29 :: x_30 :: x_31 :: x_32 :: x_33 :: x_34 :: x_35 :: x_36 :: x_37 :: x_38 :: x_39 :: x_40 :: x_41 :: x_42 :: x_43 :: x_44 :: x_45 :: x_46 :: x_47 :: x_48 :: x_49 :: x_50 :: x_51 :: x_52 :: x_53 :: x_54 :: x_55 :: x_56 :: x_57 :: x_58 :: x_59 :: x_60 :: x_61 :: x_62 :: x_63 :: x_64 :: x_65 :: x_66 :: x_67 :: x_68 :: x_69 :: x_70 :: x_71 :: x_72 :: x_73 :: x_74 :: x_75 :: x_76 :: x_77 :: x_78 :: x_79 :: x_80 :: x_81 :: x_82 :: x_83 :: x_84 :: x_85 :: x_86 :: x_87 :: x_88 :: x_89 :: x_90 :: x_91 :: x_92 :: x_93 :: x_94 :: x_95 :: x_96 :: x_97 :: x_98 :: x_99 :: x_100 :: x_101 :: x_102 :: x_103 :: x_104 :: x_105 :: x_106 :: x_107 :: x_108 :: x_109 :: x_110 :: x_111 :: x_112 :: x_113 :: x_114 :: x_115 :: x_116 :: x_117 :: x_118 :: x_119 :: x_120 :: x_121 :: x_122 :: x_123 :: x_124 :: x_125 :: x_126 :: x_127 :: x_128 :: x_129 :: x_130 :: x_131 :: x_132 :: x_133 :: x_134 :: x_135 :: x_136 :: x_137 :: x_138 :: x_139 :: x_140 :: x_141 :: x_142 :: x_143 :: x_144 :: x_145 :: x_146 :: x_147 :: x_148 :: x_149 :: x_150 :: x_151 :: x_152 :: u153 :: u154 :: u155 :: u156 :: u157 :: u158 :: u159 :: u160 :: u161 :: u162 :: u163 :: u164 :: u165 :: u166 :: u167 :: u168 :: u169 :: u170 :: u171 :: u172 :: u173 :: u174 :: u175 :: u176 :: u177 :: u178 :: u179 :: u180 :: u181 :: u182 :: u183 :: u184 :: u185 :: u186 :: u187 :: u188 :: u189 :: u190 :: u191 :: u192 :: u193 :: u194 :: u195 :: u196 :: u197 :: u198 :: u199 :: u200 :: u201 :: u202 :: u203 :: []), []⟩ w')
    (hR : ∀ (u7 u8 u153 u154 u155 u156 u157 u158 u159 u160 u161 u162 u163 u164 u165 u166 u167 u168 u169 u170 u171 u172 u173 u174 u175 u176 u177 u178 u179 u180 u181 u182 u183 u184 u185 u186 u187 u188 u189 u190 u191 u192 u193 u194 u195 u196 u197 u198 u199 u200 u201 u202 u203 : Value) (w' : World), Eqn ans false → Below W0.heap.size W0 w' → Q .ret ⟨List.toArray (x_0 :: Value.pointer (some ⟨w.heap.size, 0, none⟩) :: Value.bool false :: x_3 :: x_4 :: x_5 :: x_6 :: u7 :: u8 :: x_9 :: x_10 :: x_11 :: x_12 :: x_13 :: x_14 :: x_15 :: x_16 :: x_17 :: x_18 :: x_19 :: x_20 :: x_21 :: x_22 :: x_23 :: x_24 :: x_25 :: x_26 :: x_27 :: x_28 :: x_29 :: x_30 :: x_31 :: x_32 :: x_33 :: x_34 :: x_35 :: x_36 :: x_37 :: x_38 :: x_39 :: x_40 :: x_41 :: x_42 :: x_43 :: x_44 :: x_45 :: x_46 :: x_47 :: x_48 :: x_49 :: x_50 :: x_51 :: x_52 :: x_53 :: x_54 :: x_55 :: x_56 :: x_57 :: x_58 :: x_59 :: x_60 :: x_61 :: x_62 :: x_63 :: x_64 :: x_65 :: x_66 :: x_67 :: x_68 :: x_69 :: x_70 :: x_71 :: x_72 :: x_73 :: x_74 :: x_75 :: x_76 :: x_77 :: x_78 :: x_79 :: x_80 :: x_81 :: x_82 :: x_83 :: x_84 :: x_85 :: x_86 :: x_87 :: x_88 :: x_89 :: x_90 :: x_91 :: x_92 :: x_93 :: x_94 :: x_95 :: x_96 :: x_97 :: x_98 :: x_99 :: x_100 :: x_101 :: x_102 :: x_103 :: x_104 :: x_105 :: x_106 :: x_107 :: x_108 :: x_109 :: x_110 :: x_111 :: x_112 :: x_113 :: x_114 :: x_115 :: x_116 :: x_117 :: x_118 :: x_119 :: x_120 :: x_121 :: x_122 :: x_123 :: x_124 :: x_125 :: x_126 :: x_127 :: x_128 :: x_129 :: x_130 :: x_131 :: x_132 :: x_133 :: x_134 :: x_135 :: x_136 :: x_137 :: x_138 :: x_139 :: x_140 :: x_141 :: x_142 :: x_143 :: x_144 :: x_145 :: x_146 :: x_147 :: x_148 :: x_149 :: x_150 :: x_151 :: x_152 :: u153 :: u154 :: u155 :: u156 :: u157 :: u158 :: u159 :: u160 :: u161 :: u162 :: u163 :: u164 :: u165 :: u166 :: u167 :: u168 :: u169 :: u170 :: u171 :: u172 :: u173 :: u174 :: u175 :: u176 :: u177 :: u178 :: u179 :: u180 :: u181 :: u182 :: u183 :: u184 :: u185 :: u186 :: u187 :: u188 :: u189 :: u190 :: u191 :: u192 :: u193 :: u194 :: u195 :: u196 :: u197 :: u198 :: u199 :: u200 :: u201 :: u202 :: u203 :: []), []⟩ w') :
    Code.wp Tryd.prog (Code.loop (rvLoop 2)) Q ⟨List.toArray (x_0 :: Value.pointer (some ⟨w.heap.size, 0, none⟩) :: x_2 :: x_3 :: x_4 :: x_5 :: x_6 :: Value.int .i64 0 :: x_8 :: x_9 :: x_10 :: x_11 :: x_12 :: x_13 :: x_14 :: x_15 :: x_16 :: x_17 :: x_18 :: x_19 :: x_20 :: x_21 :: x_22 :: x_23 :: x_24 :: x_25 :: x_26 :: x_27 :: x_28 :: x_29 :: x_30 :: x_31 :: x_32 :: x_33 :: x_34 :: x_35 :: x_36 :: x_37 :: x_38 :: x_39 :: x_40 :: x_41 :: x_42 :: x_43 :: x_44 :: x_45 :: x_46 :: x_47 :: x_48 :: x_49 :: x_50 :: x_51 :: x_52 :: x_53 :: x_54 :: x_55 :: x_56 :: x_57 :: x_58 :: x_59 :: x_60 :: x_61 :: x_62 :: x_63 :: x_64 :: x_65 :: x_66 :: x_67 :: x_68 :: x_69 :: x_70 :: x_71 :: x_72 :: x_73 :: x_74 :: x_75 :: x_76 :: x_77 :: x_78 :: x_79 :: x_80 :: x_81 :: x_82 :: x_83 :: x_84 :: x_85 :: x_86 :: x_87 :: x_88 :: x_89 :: x_90 :: x_91 :: x_92 :: x_93 :: x_94 :: x_95 :: x_96 :: x_97 :: x_98 :: x_99 :: x_100 :: x_101 :: x_102 :: x_103 :: x_104 :: x_105 :: x_106 :: x_107 :: x_108 :: x_109 :: x_110 :: x_111 :: x_112 :: x_113 :: x_114 :: x_115 :: x_116 :: x_117 :: x_118 :: x_119 :: x_120 :: x_121 :: x_122 :: x_123 :: x_124 :: x_125 :: x_126 :: x_127 :: x_128 :: x_129 :: x_130 :: x_131 :: x_132 :: x_133 :: x_134 :: x_135 :: x_136 :: x_137 :: x_138 :: x_139 :: x_140 :: x_141 :: x_142 :: x_143 :: x_144 :: x_145 :: x_146 :: x_147 :: x_148 :: x_149 :: x_150 :: x_151 :: x_152 :: x_153 :: x_154 :: x_155 :: x_156 :: x_157 :: x_158 :: x_159 :: x_160 :: x_161 :: x_162 :: x_163 :: x_164 :: x_165 :: x_166 :: x_167 :: x_168 :: x_169 :: x_170 :: x_171 :: x_172 :: x_173 :: x_174 :: x_175 :: x_176 :: x_177 :: x_178 :: x_179 :: x_180 :: x_181 :: x_182 :: x_183 :: x_184 :: x_185 :: x_186 :: x_187 :: x_188 :: x_189 :: x_190 :: x_191 :: x_192 :: x_193 :: x_194 :: x_195 :: x_196 :: x_197 :: x_198 :: x_199 :: x_200 :: x_201 :: x_202 :: x_203 :: []), []⟩ wi := by
  have HQ := Lib.hid hQ
  have HRT := Lib.hid hR
  have HC : Hid (∀ W, Below W0.heap.size W0 W → W.cell? ⟨w.heap.size, 0, none⟩ = some (.slice A0 n0 c0) ∧ W.cell? ⟨w.heap.size, 1, none⟩ = some (.slice A1 n1 c1) ∧ W.cell? ⟨w.heap.size, 2, none⟩ = some (.slice A2 n2 c2)) := Lib.hid (fun W hb => ⟨(hx.keep hb).cell rfl, (hx.keep hb).cell rfl, (hx.keep hb).cell rfl⟩)
  have HH := Lib.hid h
  have HL : Hid (r.pairs.length = n0 ∧ r.loads.length = n1 ∧ r.caps.length = n2) := Lib.hid ⟨h.1.1, h.2.1.1, h.2.2.1.1⟩
  have HST := Lib.hid (fun n w => rst_any n w)
  have HSP := Lib.hid (fun a b w => rsp_any a b w)
  have HANS : Eqn ans (goF goodC R4.nums (prevR r.caps 0) (r.caps.drop 0)) := hans
  have B0 := Lib.hid hwi
  clear h hx hans hwi hQ hR
  conv => arg 2; arg 1; whnf
  go_loopw [7] (fun i wr => ∃ k : Nat, k ≤ n2 ∧ i = .int .i64 k ∧ Eqn ans (goF goodC R4.nums (prevR r.caps k) (r.caps.drop k)) ∧ Below W0.heap.size W0 wr) (fun i _ => n2 - (intOf i).toNat)
  case atStart => exact ⟨0, Nat.zero_le _, rfl, HANS, B0.out⟩
  case round =>
    obtain ⟨k, hk, rfl, HR, hB⟩ := hrel
    have HB := Lib.hid hB
    have hbs := hB.size
    obtain ⟨b0, b1, b2⟩ := HC.out _ hB
    have hwr : w.heap.size < wr.heap.size := (cell_lt b0)
    by_cases hlt : k < n2
    · obtain ⟨p, hp, hpd⟩ := drop_at (xs := r.caps) (k := k) (by rw [HL.out.2.2]; exact hlt)
      have hrow := HH.out.2.2.1.below hB
      obtain ⟨b, off, hA, hbl, hc⟩ := hrow.2 (by dsimp only; omega)
      dsimp only at hA hbl hc
      subst hA
      have e0 := hc k p hp 0 (by omega)
      have e1 := hc k p hp 1 (by omega)
      have e2 := hc k p hp 2 (by omega)
      have e3 := hc k p hp 3 (by omega)
      have hnx : prevR r.caps (k + 1) = some p := by rw [prevR_succ, hp]
      obtain ⟨y, hy, hpy⟩ : ∃ y : R4, (0 < k → ∀ j, j < 4 → wr.cell? ⟨b, off + (k - 1) * 4 + j, none⟩ = some (y.cell j)) ∧ (0 < k → prevR r.caps k = some y) := by
        by_cases h0 : 0 < k
        · obtain ⟨q, hq, _⟩ := drop_at (xs := r.caps) (k := k - 1) (by rw [HL.out.2.2]; omega)
          exact ⟨q, fun _ j hj => hc (k - 1) q hq j hj, fun _ => by unfold prevR; rw [if_neg (by omega), hq]⟩
        · exact ⟨p, fun h => absurd h h0, fun h => absurd h h0⟩
      obtain ⟨x0, x1, x2, x3⟩ := p
      obtain ⟨y0, y1, y2, y3⟩ := y
      simp only [R4.cell, Nat.add_zero] at e0 e1 e2 e3
      have HR2 := HR.out
      rw [hpd] at HR2
      have HRR := Eqn.mk HR2
      have HNX := Eqn.mk hnx
      have HPY := Lib.hid hpy
      obtain ⟨W2, hW2⟩ : ∃ W2, W2 = wr.alloc (.cells #[.int .i64 x0, .int .i64 x1, .int .i64 x2, .int .i64 x3] 79) := ⟨_, rfl⟩
      have hB2 : Below wr.heap.size wr W2 := by rw [hW2]; exact (Below.refl _ wr).alloc (Nat.le_refl _) _
      have hX : Blk W2 wr.heap.size 79 [.int .i64 x0, .int .i64 x1, .int .i64 x2, .int .i64 x3] := by rw [hW2]; exact blk_new _ _ _
      have v0 : W2.cell? ⟨wr.heap.size, 0, none⟩ = some (.int .i64 x0) := hX.cell rfl
      have v1 : W2.cell? ⟨wr.heap.size, 1, none⟩ = some (.int .i64 x1) := hX.cell rfl
      have v2 : W2.cell? ⟨wr.heap.size, 2, none⟩ = some (.int .i64 x2) := hX.cell rfl
      have v3 : W2.cell? ⟨wr.heap.size, 3, none⟩ = some (.int .i64 x3) := hX.cell rfl
      have hw2 := hX.lt
      have HX := Lib.hid hX
      have HB2 := Lib.hid (hB.trans (hB2.mono hbs))
      obtain ⟨z0, z1, z2⟩ := HC.out _ HB2.out
      have HY : Hid (0 < k → ∀ j, j < 4 → W2.cell? ⟨b, off + (k - 1) * 4 + j, none⟩ = some ((⟨y0, y1, y2, y3⟩ : R4).cell j)) := Lib.hid (fun h j hj => (hB2.cell (p := ⟨b, off + (k - 1) * 4 + j, none⟩) (by dsimp only; omega)).trans (hy h j hj))
      have j0 : (k : Int) < (n2 : Int) := by omega
      have HOFx : Hid (∀ W, Calls Tryd.prog 42 #[.agg #[.int .i64 x0, .int .i64 x1, .int .i64 x2, .int .i64 x3]] W (NumsPost [x0, x1, x2, x3] W)) := Lib.hid (fun W => rCapOf_any ⟨x0, x1, x2, x3⟩ W)
      have HOFy : Hid (∀ W, Calls Tryd.prog 42 #[.agg #[.int .i64 y0, .int .i64 y1, .int .i64 y2, .int .i64 y3]] W (NumsPost [y0, y1, y2, y3] W)) := Lib.hid (fun W => rCapOf_any ⟨y0, y1, y2, y3⟩ W)
      have HLS := Lib.hid (fun A B a b w h1 h2 => rless_any A B 4 4 4 4 a b w (by decide) h1 h2 rfl)
      have hC0 : Below W2.heap.size W2 W2.drew ∧ W2.drew.cell? ⟨wr.heap.size, 0, none⟩ = some (.int .i64 x0) ∧ W2.drew.cell? ⟨wr.heap.size, 1, none⟩ = some (.int .i64 x1) ∧ W2.drew.cell? ⟨wr.heap.size, 2, none⟩ = some (.int .i64 x2) ∧ W2.drew.cell? ⟨wr.heap.size, 3, none⟩ = some (.int .i64 x3) := ⟨(Below.refl _ _).drew, v0, v1, v2, v3⟩
      have HCK : Hid (∀ X, Below W2.heap.size W2 X → Below W2.heap.size W2 X ∧ X.cell? ⟨wr.heap.size, 0, none⟩ = some (.int .i64 x0) ∧ X.cell? ⟨wr.heap.size, 1, none⟩ = some (.int .i64 x1) ∧ X.cell? ⟨wr.heap.size, 2, none⟩ = some (.int .i64 x2) ∧ X.cell? ⟨wr.heap.size, 3, none⟩ = some (.int .i64 x3)) := Lib.hid (fun X hb => ⟨hb, (hb.cell (p := ⟨wr.heap.size, 0, none⟩) hw2).trans v0, (hb.cell (p := ⟨wr.heap.size, 1, none⟩) hw2).trans v1, (hb.cell (p := ⟨wr.heap.size, 2, none⟩) hw2).trans v2, (hb.cell (p := ⟨wr.heap.size, 3, none⟩) hw2).trans v3⟩)
      have HC0 := Lib.hid hC0
      clear hc hp hpd HR HR2 hB hrow hy hpy hnx hB2 hX hC0 hbl
      go_wp2_with fail
      rw [← hW2]
      clear hW2 b0 b1 b2 e0 e1 e2 e3
      by_cases hs0 : stF x0 = false
      · have hg : goodC (⟨x0, x1, x2, x3⟩ : R4) = false := by unfold goodC; dsimp only; simp [hs0]
        have HE : Eqn ans false := by rw [Eqn, HRR.out, goF_bad hg]
        clear HRR hg hlt HOFx HOFy HLS HPY HY HNX HCK
        refine Lx.region (C := fun X => Below W2.heap.size W2 X ∧ X.cell? ⟨wr.heap.size, 0, none⟩ = some (.int .i64 x0) ∧ X.cell? ⟨wr.heap.size, 1, none⟩ = some (.int .i64 x1) ∧ X.cell? ⟨wr.heap.size, 2, none⟩ = some (.int .i64 x2) ∧ X.cell? ⟨wr.heap.size, 3, none⟩ = some (.int .i64 x3)) (hs := [33]) (by kernel_rfl) (by kernel_rfl) HC0.out ?_
        repeat' (first
          | (refine Lx.lex_no (Lx.n1 rfl rfl rfl (by with_reducible rfl)) (fun K hK => ?_); go_simp; skip; refine hK _ ?_; clear hK K)
          | (refine Lx.lex_no (Lx.n0 rfl rfl rfl (by with_reducible rfl)) (fun K hK => ?_); go_simp; skip; refine hK _ ?_; clear hK K)
          | (refine Lx.lex_no (Lx.n2 rfl rfl rfl) (fun K hK => ?_); go_simp; skip; refine hK _ ?_; clear hK K)
          | (refine Lx.lex_pure (v := ?_) rfl (by first | exact Lx.w0 rfl | exact Lx.w1 rfl rfl rfl (by with_reducible rfl)) ?_ (fun K hK => ?_); rotate_left 1; (intro w' hCw; (try dsimp only at hCw); go_simp; first | done | with_reducible rfl); go_simp; skip; refine hK _ ?_; clear hK K)
          | (refine Lx.lex_read (v := ?_) rfl (by first | exact Lx.w0 rfl | exact Lx.w1 rfl rfl rfl (by with_reducible rfl)) ?_ (fun K hK => ?_); rotate_left 1; (go_simp; first | done | with_reducible rfl); go_simp; skip; refine hK _ ?_; clear hK K)
          | (refine Lx.lex_eff rfl (by first | exact Lx.w0 rfl | exact Lx.w1 rfl rfl rfl (by with_reducible rfl)) (fun K hK => ?_); go_simp; (first | (go_at_call 34; refine (HST.out _ _).mono ?_; rintro e wz ⟨rfl, rfl⟩) | (go_at_call 38; refine (HSP.out _ _ _).mono ?_; rintro e wz ⟨rfl, rfl⟩)); refine hK _ _ (by first | exact HC0.out) ?_; clear hK K))
        all_goals (refine Lx.lex_nil ?_)
        go_wp2_with fail
        exact HRT.out _ _ _ _ _ _ _ _ _ _ _ _ _ _ _ _ _ _ _ _ _ _ _ _ _ _ _ _ _ _ _ _ _ _ _ _ _ _ _ _ _ _ _ _ _ _ _ _ _ _ _ _ _ _ HE (HB2.out.drew)
      · have hs0' : stF x0 = true := by simpa using hs0
        by_cases hx1 : x1 < 0
        · have hg : goodC (⟨x0, x1, x2, x3⟩ : R4) = false := by unfold goodC; dsimp only; simp [show ¬ (0 ≤ x1) by omega]
          have HE : Eqn ans false := by rw [Eqn, HRR.out, goF_bad hg]
          have hx1d : decide (x1 < 0) = true := decide_eq_true hx1
          clear HRR hg hlt HOFx HOFy HLS HPY HY HNX HCK hx1
          refine Lx.region (C := fun X => Below W2.heap.size W2 X ∧ X.cell? ⟨wr.heap.size, 0, none⟩ = some (.int .i64 x0) ∧ X.cell? ⟨wr.heap.size, 1, none⟩ = some (.int .i64 x1) ∧ X.cell? ⟨wr.heap.size, 2, none⟩ = some (.int .i64 x2) ∧ X.cell? ⟨wr.heap.size, 3, none⟩ = some (.int .i64 x3)) (hs := [33]) (by kernel_rfl) (by kernel_rfl) HC0.out ?_
          repeat' (first
            | (refine Lx.lex_no (Lx.n1 rfl rfl rfl (by with_reducible rfl)) (fun K hK => ?_); go_simp; skip; refine hK _ ?_; clear hK K)
            | (refine Lx.lex_no (Lx.n0 rfl rfl rfl (by with_reducible rfl)) (fun K hK => ?_); go_simp; skip; refine hK _ ?_; clear hK K)
            | (refine Lx.lex_no (Lx.n2 rfl rfl rfl) (fun K hK => ?_); go_simp; skip; refine hK _ ?_; clear hK K)
            | (refine Lx.lex_pure (v := ?_) rfl (by first | exact Lx.w0 rfl | exact Lx.w1 rfl rfl rfl (by with_reducible rfl)) ?_ (fun K hK => ?_); rotate_left 1; (intro w' hCw; (try dsimp only at hCw); go_simp; first | done | with_reducible rfl); go_simp; skip; refine hK _ ?_; clear hK K)
            | (refine Lx.lex_read (v := ?_) rfl (by first | exact Lx.w0 rfl | exact Lx.w1 rfl rfl rfl (by with_reducible rfl)) ?_ (fun K hK => ?_); rotate_left 1; (go_simp; first | done | with_reducible rfl); go_simp; skip; refine hK _ ?_; clear hK K)
            | (refine Lx.lex_eff rfl (by first | exact Lx.w0 rfl | exact Lx.w1 rfl rfl rfl (by with_reducible rfl)) (fun K hK => ?_); go_simp; (first | (go_at_call 34; refine (HST.out _ _).mono ?_; rintro e wz ⟨rfl, rfl⟩) | (go_at_call 38; refine (HSP.out _ _ _).mono ?_; rintro e wz ⟨rfl, rfl⟩)); refine hK _ _ (by first | exact HC0.out) ?_; clear hK K))
          all_goals (refine Lx.lex_nil ?_)
          go_wp2_with fail
          exact HRT.out _ _ _ _ _ _ _ _ _ _ _ _ _ _ _ _ _ _ _ _ _ _ _ _ _ _ _ _ _ _ _ _ _ _ _ _ _ _ _ _ _ _ _ _ _ _ _ _ _ _ _ _ _ _ HE (HB2.out.drew)
        · have hx1' : decide (x1 < 0) = false := by exact decide_eq_false hx1
          by_cases hx2 : (1099511627776 : Int) < x1
          · have hg : goodC (⟨x0, x1, x2, x3⟩ : R4) = false := by unfold goodC; dsimp only; simp [show ¬ (x1 ≤ 1099511627776) by omega]
            have HE : Eqn ans false := by rw [Eqn, HRR.out, goF_bad hg]
            have hx2d : decide ((1099511627776 : Int) < x1) = true := decide_eq_true hx2
            clear HRR hg hlt HOFx HOFy HLS HPY HY HNX HCK hx2
            refine Lx.region (C := fun X => Below W2.heap.size W2 X ∧ X.cell? ⟨wr.heap.size, 0, none⟩ = some (.int .i64 x0) ∧ X.cell? ⟨wr.heap.size, 1, none⟩ = some (.int .i64 x1) ∧ X.cell? ⟨wr.heap.size, 2, none⟩ = some (.int .i64 x2) ∧ X.cell? ⟨wr.heap.size, 3, none⟩ = some (.int .i64 x3)) (hs := [33]) (by kernel_rfl) (by kernel_rfl) HC0.out ?_
            repeat' (first
              | (refine Lx.lex_no (Lx.n1 rfl rfl rfl (by with_reducible rfl)) (fun K hK => ?_); go_simp; skip; refine hK _ ?_; clear hK K)
              | (refine Lx.lex_no (Lx.n0 rfl rfl rfl (by with_reducible rfl)) (fun K hK => ?_); go_simp; skip; refine hK _ ?_; clear hK K)
              | (refine Lx.lex_no (Lx.n2 rfl rfl rfl) (fun K hK => ?_); go_simp; skip; refine hK _ ?_; clear hK K)
              | (refine Lx.lex_pure (v := ?_) rfl (by first | exact Lx.w0 rfl | exact Lx.w1 rfl rfl rfl (by with_reducible rfl)) ?_ (fun K hK => ?_); rotate_left 1; (intro w' hCw; (try dsimp only at hCw); go_simp; first | done | with_reducible rfl); go_simp; skip; refine hK _ ?_; clear hK K)
              | (refine Lx.lex_read (v := ?_) rfl (by first | exact Lx.w0 rfl | exact Lx.w1 rfl rfl rfl (by with_reducible rfl)) ?_ (fun K hK => ?_); rotate_left 1; (go_simp; first | done | with_reducible rfl); go_simp; skip; refine hK _ ?_; clear hK K)
              | (refine Lx.lex_eff rfl (by first | exact Lx.w0 rfl | exact Lx.w1 rfl rfl rfl (by with_reducible rfl)) (fun K hK => ?_); go_simp; (first | (go_at_call 34; refine (HST.out _ _).mono ?_; rintro e wz ⟨rfl, rfl⟩) | (go_at_call 38; refine (HSP.out _ _ _).mono ?_; rintro e wz ⟨rfl, rfl⟩)); refine hK _ _ (by first | exact HC0.out) ?_; clear hK K))
            all_goals (refine Lx.lex_nil ?_)
            go_wp2_with fail
            exact HRT.out _ _ _ _ _ _ _ _ _ _ _ _ _ _ _ _ _ _ _ _ _ _ _ _ _ _ _ _ _ _ _ _ _ _ _ _ _ _ _ _ _ _ _ _ _ _ _ _ _ _ _ _ _ _ HE (HB2.out.drew)
          · have hx2' : decide ((1099511627776 : Int) < x1) = false := by exact decide_eq_false hx2
            by_cases hs3 : spF x2 x3 = false
            · have hg : goodC (⟨x0, x1, x2, x3⟩ : R4) = false := by unfold goodC; dsimp only; simp [hs3]
              have HE : Eqn ans false := by rw [Eqn, HRR.out, goF_bad hg]
              clear HRR hg hlt HOFx HOFy HLS HPY HY HNX HCK
              refine Lx.region (C := fun X => Below W2.heap.size W2 X ∧ X.cell? ⟨wr.heap.size, 0, none⟩ = some (.int .i64 x0) ∧ X.cell? ⟨wr.heap.size, 1, none⟩ = some (.int .i64 x1) ∧ X.cell? ⟨wr.heap.size, 2, none⟩ = some (.int .i64 x2) ∧ X.cell? ⟨wr.heap.size, 3, none⟩ = some (.int .i64 x3)) (hs := [33]) (by kernel_rfl) (by kernel_rfl) HC0.out ?_
              repeat' (first
                | (refine Lx.lex_no (Lx.n1 rfl rfl rfl (by with_reducible rfl)) (fun K hK => ?_); go_simp; skip; refine hK _ ?_; clear hK K)
                | (refine Lx.lex_no (Lx.n0 rfl rfl rfl (by with_reducible rfl)) (fun K hK => ?_); go_simp; skip; refine hK _ ?_; clear hK K)
                | (refine Lx.lex_no (Lx.n2 rfl rfl rfl) (fun K hK => ?_); go_simp; skip; refine hK _ ?_; clear hK K)
                | (refine Lx.lex_pure (v := ?_) rfl (by first | exact Lx.w0 rfl | exact Lx.w1 rfl rfl rfl (by with_reducible rfl)) ?_ (fun K hK => ?_); rotate_left 1; (intro w' hCw; (try dsimp only at hCw); go_simp; first | done | with_reducible rfl); go_simp; skip; refine hK _ ?_; clear hK K)
                | (refine Lx.lex_read (v := ?_) rfl (by first | exact Lx.w0 rfl | exact Lx.w1 rfl rfl rfl (by with_reducible rfl)) ?_ (fun K hK => ?_); rotate_left 1; (go_simp; first | done | with_reducible rfl); go_simp; skip; refine hK _ ?_; clear hK K)
                | (refine Lx.lex_eff rfl (by first | exact Lx.w0 rfl | exact Lx.w1 rfl rfl rfl (by with_reducible rfl)) (fun K hK => ?_); go_simp; (first | (go_at_call 34; refine (HST.out _ _).mono ?_; rintro e wz ⟨rfl, rfl⟩) | (go_at_call 38; refine (HSP.out _ _ _).mono ?_; rintro e wz ⟨rfl, rfl⟩)); refine hK _ _ (by first | exact HC0.out) ?_; clear hK K))
              all_goals (refine Lx.lex_nil ?_)
              go_wp2_with fail
              exact HRT.out _ _ _ _ _ _ _ _ _ _ _ _ _ _ _ _ _ _ _ _ _ _ _ _ _ _ _ _ _ _ _ _ _ _ _ _ _ _ _ _ _ _ _ _ _ _ _ _ _ _ _ _ _ _ HE (HB2.out.drew)
            · have hs3' : spF x2 x3 = true := by simpa using hs3
              have hg : goodC (⟨x0, x1, x2, x3⟩ : R4) = true := by unfold goodC; dsimp only; simp [hs0', hs3', show 0 ≤ x1 by omega, show x1 ≤ 1099511627776 by omega]
              clear hs0 hx1 hx2 hs3
              by_cases h0 : 0 < k
              · have HP := Eqn.mk (HPY.out h0)
                obtain ⟨k', hk'⟩ : ∃ k', k - 1 = k' := ⟨_, rfl⟩
                have HYY := HY.out h0
                rw [hk'] at HYY
                have f0 := HYY 0 (by omega)
                have f1 := HYY 1 (by omega)
                have f2 := HYY 2 (by omega)
                have f3 := HYY 3 (by omega)
                simp only [R4.cell, Nat.add_zero] at f0 f1 f2 f3
                have k1 : decide ((0 : Int) < (k : Int)) = true := decide_eq_true (by omega)
                have k5 : decide (0 < k) = true := decide_eq_true h0
                have r1 : IntKind.i64.wrap ((k : Int) - 1) = (k' : Int) := by rw [IntWalk.i64_in _ (by omega)]; omega
                have r3 : (k : Int) - 1 = (k' : Int) := by omega
                have r4 : (0 : Int) ≤ (k' : Int) := by omega
                have r5 : (k' : Int) < (n2 : Int) := by omega
                have r9 : IntKind.i64.wrap (k' : Int) = (k' : Int) := IntWalk.i64_in _ (by omega)
                have HG := Lib.hid hg
                clear hk' hg HYY HY HPY h0
                cases hll : lessL [y0, y1, y2, y3] [x0, x1, x2, x3] with
                | false =>
                  have HE : Eqn ans false := by rw [Eqn, HRR.out, HP.out, goF_not hll]
                  clear HRR HP hlt
                  refine Lx.region (C := fun X => Below W2.heap.size W2 X ∧ X.cell? ⟨wr.heap.size, 0, none⟩ = some (.int .i64 x0) ∧ X.cell? ⟨wr.heap.size, 1, none⟩ = some (.int .i64 x1) ∧ X.cell? ⟨wr.heap.size, 2, none⟩ = some (.int .i64 x2) ∧ X.cell? ⟨wr.heap.size, 3, none⟩ = some (.int .i64 x3)) (hs := [33]) (by kernel_rfl) (by kernel_rfl) HC0.out ?_
                  repeat' (first
                    | (refine Lx.lex_no (Lx.n1 rfl rfl rfl (by with_reducible rfl)) (fun K hK => ?_); go_simp; skip; refine hK _ ?_; clear hK K)
                    | (refine Lx.lex_no (Lx.n0 rfl rfl rfl (by with_reducible rfl)) (fun K hK => ?_); go_simp; skip; refine hK _ ?_; clear hK K)
                    | (refine Lx.lex_no (Lx.n2 rfl rfl rfl) (fun K hK => ?_); go_simp; skip; refine hK _ ?_; clear hK K)
                    | (refine Lx.lex_pure (v := ?_) rfl (by first | exact Lx.w0 rfl | exact Lx.w1 rfl rfl rfl (by with_reducible rfl)) ?_ (fun K hK => ?_); rotate_left 1; (intro w' hCw; (try dsimp only at hCw); go_simp; first | done | with_reducible rfl); go_simp; skip; refine hK _ ?_; clear hK K)
                    | (refine Lx.lex_read (v := ?_) rfl (by first | exact Lx.w0 rfl | exact Lx.w1 rfl rfl rfl (by with_reducible rfl)) ?_ (fun K hK => ?_); rotate_left 1; (go_simp; first | done | with_reducible rfl); go_simp; skip; refine hK _ ?_; clear hK K)
                    | (refine Lx.lex_eff rfl (by first | exact Lx.w0 rfl | exact Lx.w1 rfl rfl rfl (by with_reducible rfl)) (fun K hK => ?_); go_simp; (first | (go_at_call 34; refine (HST.out _ _).mono ?_; rintro e wz ⟨rfl, rfl⟩) | (go_at_call 38; refine (HSP.out _ _ _).mono ?_; rintro e wz ⟨rfl, rfl⟩) | (go_at_call_of 42 (Value.agg #[.int .i64 y0, .int .i64 y1, .int .i64 y2, .int .i64 y3]); refine (HOFy.out _).mono ?_; rintro e Wy ⟨rfl, hry, hby⟩; simp only [List.length_cons, List.length_nil] at hry; have hbw : Below W2.heap.size W2 Wy := (Below.refl _ _).drew.trans (hby.mono (Nat.le_refl _))) | (go_at_call_of 42 (Value.agg #[.int .i64 x0, .int .i64 x1, .int .i64 x2, .int .i64 x3]); refine (HOFx.out _).mono ?_; rintro e Wx ⟨rfl, hrx, hbx⟩; simp only [List.length_cons, List.length_nil] at hrx; have hbw2 : Below W2.heap.size W2 Wx := hbw.trans (hbx.mono hbw.size); have hry2 := hry.keep hbx) | (go_at_call 39; refine (HLS.out _ _ _ _ _ hry2 hrx).mono ?_; rintro e Wl ⟨rfl, hbl⟩; have hbw3 : Below W2.heap.size W2 Wl := hbw2.trans (hbl.mono hbw2.size))); refine hK _ _ (by first | exact HCK.out _ hbw3 | exact HCK.out _ hbw2 | exact HCK.out _ hbw | exact HC0.out) ?_; clear hK K))
                  all_goals (refine Lx.lex_nil ?_)
                  go_wp2_with fail
                  exact HRT.out _ _ _ _ _ _ _ _ _ _ _ _ _ _ _ _ _ _ _ _ _ _ _ _ _ _ _ _ _ _ _ _ _ _ _ _ _ _ _ _ _ _ _ _ _ _ _ _ _ _ _ _ _ _ HE (HB2.out.trans (hbw3.mono HB2.out.size))
                | true =>
                  have HE : Eqn ans (goF goodC R4.nums (prevR r.caps (k + 1)) (r.caps.drop (k + 1))) := by rw [Eqn, HRR.out, HP.out, goF_less HG.out hll, HNX.out]
                  clear HRR HP HNX
                  refine Lx.region (C := fun X => Below W2.heap.size W2 X ∧ X.cell? ⟨wr.heap.size, 0, none⟩ = some (.int .i64 x0) ∧ X.cell? ⟨wr.heap.size, 1, none⟩ = some (.int .i64 x1) ∧ X.cell? ⟨wr.heap.size, 2, none⟩ = some (.int .i64 x2) ∧ X.cell? ⟨wr.heap.size, 3, none⟩ = some (.int .i64 x3)) (hs := [33]) (by kernel_rfl) (by kernel_rfl) HC0.out ?_
                  repeat' (first
                    | (refine Lx.lex_no (Lx.n1 rfl rfl rfl (by with_reducible rfl)) (fun K hK => ?_); go_simp; skip; refine hK _ ?_; clear hK K)
                    | (refine Lx.lex_no (Lx.n0 rfl rfl rfl (by with_reducible rfl)) (fun K hK => ?_); go_simp; skip; refine hK _ ?_; clear hK K)
                    | (refine Lx.lex_no (Lx.n2 rfl rfl rfl) (fun K hK => ?_); go_simp; skip; refine hK _ ?_; clear hK K)
                    | (refine Lx.lex_pure (v := ?_) rfl (by first | exact Lx.w0 rfl | exact Lx.w1 rfl rfl rfl (by with_reducible rfl)) ?_ (fun K hK => ?_); rotate_left 1; (intro w' hCw; (try dsimp only at hCw); go_simp; first | done | with_reducible rfl); go_simp; skip; refine hK _ ?_; clear hK K)
                    | (refine Lx.lex_read (v := ?_) rfl (by first | exact Lx.w0 rfl | exact Lx.w1 rfl rfl rfl (by with_reducible rfl)) ?_ (fun K hK => ?_); rotate_left 1; (go_simp; first | done | with_reducible rfl); go_simp; skip; refine hK _ ?_; clear hK K)
                    | (refine Lx.lex_eff rfl (by first | exact Lx.w0 rfl | exact Lx.w1 rfl rfl rfl (by with_reducible rfl)) (fun K hK => ?_); go_simp; (first | (go_at_call 34; refine (HST.out _ _).mono ?_; rintro e wz ⟨rfl, rfl⟩) | (go_at_call 38; refine (HSP.out _ _ _).mono ?_; rintro e wz ⟨rfl, rfl⟩) | (go_at_call_of 42 (Value.agg #[.int .i64 y0, .int .i64 y1, .int .i64 y2, .int .i64 y3]); refine (HOFy.out _).mono ?_; rintro e Wy ⟨rfl, hry, hby⟩; simp only [List.length_cons, List.length_nil] at hry; have hbw : Below W2.heap.size W2 Wy := (Below.refl _ _).drew.trans (hby.mono (Nat.le_refl _))) | (go_at_call_of 42 (Value.agg #[.int .i64 x0, .int .i64 x1, .int .i64 x2, .int .i64 x3]); refine (HOFx.out _).mono ?_; rintro e Wx ⟨rfl, hrx, hbx⟩; simp only [List.length_cons, List.length_nil] at hrx; have hbw2 : Below W2.heap.size W2 Wx := hbw.trans (hbx.mono hbw.size); have hry2 := hry.keep hbx) | (go_at_call 39; refine (HLS.out _ _ _ _ _ hry2 hrx).mono ?_; rintro e Wl ⟨rfl, hbl⟩; have hbw3 : Below W2.heap.size W2 Wl := hbw2.trans (hbl.mono hbw2.size))); refine hK _ _ (by first | exact HCK.out _ hbw3 | exact HCK.out _ hbw2 | exact HCK.out _ hbw | exact HC0.out) ?_; clear hK K))
                  all_goals (refine Lx.lex_nil ?_)
                  go_wp2_with fail
                  go_roundw
                  case rel => exact ⟨k + 1, hlt, by go_num, HE, HB2.out.trans (hbw3.mono HB2.out.size)⟩
                  case measure => simp [intOf]; omega
              · have HP0 : prevR r.caps k = none := by unfold prevR; rw [if_pos (by omega)]
                have HE : Eqn ans (goF goodC R4.nums (prevR r.caps (k + 1)) (r.caps.drop (k + 1))) := by rw [Eqn, HRR.out, HP0, goF_first hg, HNX.out]
                have k1 : decide ((0 : Int) < (k : Int)) = false := decide_eq_false (by omega)
                have k5 : decide (0 < k) = false := decide_eq_false h0
                clear HRR HNX hg HY HPY h0 HP0
                refine Lx.region (C := fun X => Below W2.heap.size W2 X ∧ X.cell? ⟨wr.heap.size, 0, none⟩ = some (.int .i64 x0) ∧ X.cell? ⟨wr.heap.size, 1, none⟩ = some (.int .i64 x1) ∧ X.cell? ⟨wr.heap.size, 2, none⟩ = some (.int .i64 x2) ∧ X.cell? ⟨wr.heap.size, 3, none⟩ = some (.int .i64 x3)) (hs := [33]) (by kernel_rfl) (by kernel_rfl) HC0.out ?_
                repeat' (first
                  | (refine Lx.lex_no (Lx.n1 rfl rfl rfl (by with_reducible rfl)) (fun K hK => ?_); go_simp; skip; refine hK _ ?_; clear hK K)
                  | (refine Lx.lex_no (Lx.n0 rfl rfl rfl (by with_reducible rfl)) (fun K hK => ?_); go_simp; skip; refine hK _ ?_; clear hK K)
                  | (refine Lx.lex_no (Lx.n2 rfl rfl rfl) (fun K hK => ?_); go_simp; skip; refine hK _ ?_; clear hK K)
                  | (refine Lx.lex_pure (v := ?_) rfl (by first | exact Lx.w0 rfl | exact Lx.w1 rfl rfl rfl (by with_reducible rfl)) ?_ (fun K hK => ?_); rotate_left 1; (intro w' hCw; (try dsimp only at hCw); go_simp; first | done | with_reducible rfl); go_simp; skip; refine hK _ ?_; clear hK K)
                  | (refine Lx.lex_read (v := ?_) rfl (by first | exact Lx.w0 rfl | exact Lx.w1 rfl rfl rfl (by with_reducible rfl)) ?_ (fun K hK => ?_); rotate_left 1; (go_simp; first | done | with_reducible rfl); go_simp; skip; refine hK _ ?_; clear hK K)
                  | (refine Lx.lex_eff rfl (by first | exact Lx.w0 rfl | exact Lx.w1 rfl rfl rfl (by with_reducible rfl)) (fun K hK => ?_); go_simp; (first | (go_at_call 34; refine (HST.out _ _).mono ?_; rintro e wz ⟨rfl, rfl⟩) | (go_at_call 38; refine (HSP.out _ _ _).mono ?_; rintro e wz ⟨rfl, rfl⟩)); refine hK _ _ (by first | exact HC0.out) ?_; clear hK K))
                all_goals (refine Lx.lex_nil ?_)
                go_wp2_with fail
                go_roundw
                case rel => exact ⟨k + 1, hlt, by go_num, HE, HB2.out.drew⟩
                case measure => simp [intOf]; omega
    · obtain rfl : k = n2 := by omega
      have HNEXT : Eqn ans (true) := by rw [Eqn, HR.out, drop_end (by rw [HL.out.2.2]; omega)]; simp [goF]
      clear hB HR hlt hk
      go_wp2_with fail
      exact HQ.out _ _ _ _ _ _ _ _ _ _ _ _ _ _ _ _ _ _ _ _ _ _ _ _ _ _ _ _ _ _ _ _ _ _ _ _ _ _ _ _ _ _ _ _ _ _ _ _ _ _ _ _ _ _ _ HNEXT HB.out
end Go.Proofs.YtpdhelhngdeoeaaDoor

/- The reference of layer 17: ValidRules. -/
namespace Go.Proofs.YtpdhelhngdeoeaaDoor
open Go.RowKit

set_option maxRecDepth 100000 in
set_option maxHeartbeats 8000000 in
theorem rrules_any (s : RulS) (w : World) (r : Rul) (h : RulAt w w.heap.size s r) : Calls Tryd.prog 17 #[s.val] w (RetPost (.bool (rulesR r)) w.heap.size w) := by
  obtain ⟨A0, n0, c0, A1, n1, c1, A2, n2, c2⟩ := s
  obtain ⟨W0, hW0⟩ : ∃ W0, W0 = w.alloc (.cells #[.slice A0 n0 c0, .slice A1 n1 c1, .slice A2 n2 c2] 27) := ⟨_, rfl⟩
  have HB0 : Hid (Below w.heap.size w W0) := Lib.hid (by rw [hW0]; exact (Below.refl _ w).alloc (Nat.le_refl _) _)
  have h0 := h.keep HB0.out
  have hs0 : W0.heap.size = w.heap.size + 1 := by rw [hW0]; simp
  have HC0 : Hid (W0.cell? ⟨w.heap.size, 0, none⟩ = some (.slice A0 n0 c0) ∧ W0.cell? ⟨w.heap.size, 1, none⟩ = some (.slice A1 n1 c1) ∧ W0.cell? ⟨w.heap.size, 2, none⟩ = some (.slice A2 n2 c2)) := Lib.hid (by rw [hW0]; refine ⟨?_, ?_, ?_⟩ <;> simp [go_sem])
  have HC : Hid (∀ W, Below W0.heap.size W0 W → W.cell? ⟨w.heap.size, 0, none⟩ = some (.slice A0 n0 c0) ∧ W.cell? ⟨w.heap.size, 1, none⟩ = some (.slice A1 n1 c1) ∧ W.cell? ⟨w.heap.size, 2, none⟩ = some (.slice A2 n2 c2)) := Lib.hid (fun W hb => ⟨(hb.cell (p := ⟨w.heap.size, 0, none⟩) (by dsimp only; omega)).trans HC0.out.1, (hb.cell (p := ⟨w.heap.size, 1, none⟩) (by dsimp only; omega)).trans HC0.out.2.1, (hb.cell (p := ⟨w.heap.size, 2, none⟩) (by dsimp only; omega)).trans HC0.out.2.2⟩)
  have HBW : Hid (∀ W, Below W0.heap.size W0 W → Below w.heap.size w W) := Lib.hid (fun W hb => HB0.out.trans (hb.mono HB0.out.size))
  have HH := Lib.hid h0
  have HL : Hid (r.pairs.length = n0 ∧ r.loads.length = n1 ∧ r.caps.length = n2) := Lib.hid ⟨h0.1.1, h0.2.1.1, h0.2.2.1.1⟩
  have HX : Hid (Blk W0 w.heap.size 27 [.slice A0 n0 c0, .slice A1 n1 c1, .slice A2 n2 c2]) := Lib.hid (by rw [hW0]; exact blk_new w _ _)
  have B0 := Lib.hid (Below.refl W0.heap.size W0)
  obtain ⟨q0, q1, q2⟩ := HC.out _ B0.out
  clear h h0 HC0 HB0 hs0
  unfold RulS.val
  dsimp only
  by_cases g0 : 4096 < n0 ∨ 1024 < n1 ∨ 1024 < n2
  · have HF : Eqn (rulesR r) false := by rw [Eqn, rulesR, HL.out.1, HL.out.2.1, HL.out.2.2, if_pos g0]
    by_cases d0 : (4096 : Int) < n0
    · clear g0
      go_enter Tryd.func17, Tryd.ntmps17
      go_wp2_with fail
      go_ret
      exact ⟨ret_bool HF.out.symm, by first | (rw [← hW0]; exact HBW.out _ B0.out) | exact HBW.out _ B0.out⟩
    · by_cases d1 : (1024 : Int) < n1
      · clear g0
        go_enter Tryd.func17, Tryd.ntmps17
        go_wp2_with fail
        go_ret
        exact ⟨ret_bool HF.out.symm, by first | (rw [← hW0]; exact HBW.out _ B0.out) | exact HBW.out _ B0.out⟩
      · have d2 : (1024 : Int) < n2 := by omega
        clear g0
        go_enter Tryd.func17, Tryd.ntmps17
        go_wp2_with fail
        go_ret
        exact ⟨ret_bool HF.out.symm, by first | (rw [← hW0]; exact HBW.out _ B0.out) | exact HBW.out _ B0.out⟩
  have d0 : ¬ (4096 : Int) < n0 := by omega
  have d1 : ¬ (1024 : Int) < n1 := by omega
  have d2 : ¬ (1024 : Int) < n2 := by omega
  have HF : Eqn (rulesR r) (goF goodP R5.nums none r.pairs && goF goodL R5.nums none r.loads && goF goodC R4.nums none r.caps) := by rw [Eqn, rulesR, HL.out.1, HL.out.2.1, HL.out.2.2, if_neg g0]
  rw [show rulesR r = _ from HF.out]
  obtain ⟨ans, hans⟩ : ∃ ans, ans = (goF goodP R5.nums none r.pairs && goF goodL R5.nums none r.loads && goF goodC R4.nums none r.caps) := ⟨_, rfl⟩
  rw [← hans]
  have HANS := Eqn.mk hans
  have d0' : n0 ≤ 4096 := by omega
  have d1' : n1 ≤ 1024 := by omega
  have d2' : n2 ≤ 1024 := by omega
  clear HF hans g0
  go_enter Tryd.func17, Tryd.ntmps17
  go_wp2_with fail
  rw [← hW0]
  clear hW0 q0 q1 q2
  refine rv_pairs w W0 _ A0 A1 A2 n0 c0 n1 c1 n2 c2 r ans HH.out HX.out HANS B0.out d0' d1' d2' _ _ _ _ _ _ _ _ _ _ _ _ _ _ _ _ _ _ _ _ _ _ _ _ _ _ _ _ _ _ _ _ _ _ _ _ _ _ _ _ _ _ _ _ _ _ _ _ _ _ _ _ _ _ _ _ _ _ _ _ _ _ _ _ _ _ _ _ _ _ _ _ _ _ _ _ _ _ _ _ _ _ _ _ _ _ _ _ _ _ _ _ _ _ _ _ _ _ _ _ _ _ _ _ _ _ _ _ _ _ _ _ _ _ _ _ _ _ _ _ _ _ _ _ _ _ _ _ _ _ _ _ _ _ _ _ _ _ _ _ _ _ _ _ _ _ _ _ _ _ _ _ _ _ _ _ _ _ _ _ _ _ _ _ _ _ _ _ _ _ _ _ _ _ _ _ _ _ _ _ _ _ _ _ _ _ _ _ _ _ _ _ _ _ _ _ _ _ _ _ _ _ _ ?_ ?_
  case refine_2 =>
    intro u3 u4 u25 u26 u27 u28 u29 u30 u31 u32 u33 u34 u35 u36 u37 u38 u39 u40 u41 u42 u43 u44 u45 u46 u47 u48 u49 u50 u51 u52 u53 u54 u55 u56 u57 u58 u59 u60 u61 u62 u63 u64 u65 u66 u67 u68 u69 u70 u71 u72 u73 u74 u75 u76 u77 u78 u79 u80 u81 u82 u83 u84 u85 u86 u87 u88 w' hE hB
    have HB := Lib.hid hB
    clear hB
    go_wp2_with fail
    go_ret
    exact ⟨ret_bool hE.out.symm, HBW.out _ HB.out⟩
  intro u2 u3 u4 u25 u26 u27 u28 u29 u30 u31 u32 u33 u34 u35 u36 u37 u38 u39 u40 u41 u42 u43 u44 u45 u46 u47 u48 u49 u50 u51 u52 u53 u54 u55 u56 u57 u58 u59 u60 u61 u62 u63 u64 u65 u66 u67 u68 u69 u70 u71 u72 u73 u74 u75 u76 u77 u78 u79 u80 u81 u82 u83 u84 u85 u86 u87 u88 w0 hE0 hB0
  have HB0 := Lib.hid hB0
  clear hB0
  go_wp2_with fail
  refine rv_loads w W0 _ A0 A1 A2 n0 c0 n1 c1 n2 c2 r ans HH.out HX.out hE0 HB0.out d0' d1' d2' _ _ _ _ _ _ _ _ _ _ _ _ _ _ _ _ _ _ _ _ _ _ _ _ _ _ _ _ _ _ _ _ _ _ _ _ _ _ _ _ _ _ _ _ _ _ _ _ _ _ _ _ _ _ _ _ _ _ _ _ _ _ _ _ _ _ _ _ _ _ _ _ _ _ _ _ _ _ _ _ _ _ _ _ _ _ _ _ _ _ _ _ _ _ _ _ _ _ _ _ _ _ _ _ _ _ _ _ _ _ _ _ _ _ _ _ _ _ _ _ _ _ _ _ _ _ _ _ _ _ _ _ _ _ _ _ _ _ _ _ _ _ _ _ _ _ _ _ _ _ _ _ _ _ _ _ _ _ _ _ _ _ _ _ _ _ _ _ _ _ _ _ _ _ _ _ _ _ _ _ _ _ _ _ _ _ _ _ _ _ _ _ _ _ _ _ _ _ _ _ _ _ _ ?_ ?_
  case refine_2 =>
    intro u5 u6 u89 u90 u91 u92 u93 u94 u95 u96 u97 u98 u99 u100 u101 u102 u103 u104 u105 u106 u107 u108 u109 u110 u111 u112 u113 u114 u115 u116 u117 u118 u119 u120 u121 u122 u123 u124 u125 u126 u127 u128 u129 u130 u131 u132 u133 u134 u135 u136 u137 u138 u139 u140 u141 u142 u143 u144 u145 u146 u147 u148 u149 u150 u151 u152 w' hE hB
    have HB := Lib.hid hB
    clear hB
    go_wp2_with fail
    go_ret
    exact ⟨ret_bool hE.out.symm, HBW.out _ HB.out⟩
  intro u2 u5 u6 u89 u90 u91 u92 u93 u94 u95 u96 u97 u98 u99 u100 u101 u102 u103 u104 u105 u106 u107 u108 u109 u110 u111 u112 u113 u114 u115 u116 u117 u118 u119 u120 u121 u122 u123 u124 u125 u126 u127 u128 u129 u130 u131 u132 u133 u134 u135 u136 u137 u138 u139 u140 u141 u142 u143 u144 u145 u146 u147 u148 u149 u150 u151 u152 w1 hE1 hB1
  have HB1 := Lib.hid hB1
  clear hB1
  go_wp2_with fail
  refine rv_caps w W0 _ A0 A1 A2 n0 c0 n1 c1 n2 c2 r ans HH.out HX.out hE1 HB1.out d0' d1' d2' _ _ _ _ _ _ _ _ _ _ _ _ _ _ _ _ _ _ _ _ _ _ _ _ _ _ _ _ _ _ _ _ _ _ _ _ _ _ _ _ _ _ _ _ _ _ _ _ _ _ _ _ _ _ _ _ _ _ _ _ _ _ _ _ _ _ _ _ _ _ _ _ _ _ _ _ _ _ _ _ _ _ _ _ _ _ _ _ _ _ _ _ _ _ _ _ _ _ _ _ _ _ _ _ _ _ _ _ _ _ _ _ _ _ _ _ _ _ _ _ _ _ _ _ _ _ _ _ _ _ _ _ _ _ _ _ _ _ _ _ _ _ _ _ _ _ _ _ _ _ _ _ _ _ _ _ _ _ _ _ _ _ _ _ _ _ _ _ _ _ _ _ _ _ _ _ _ _ _ _ _ _ _ _ _ _ _ _ _ _ _ _ _ _ _ _ _ _ _ _ _ _ _ ?_ ?_
  case refine_2 =>
    intro u7 u8 u153 u154 u155 u156 u157 u158 u159 u160 u161 u162 u163 u164 u165 u166 u167 u168 u169 u170 u171 u172 u173 u174 u175 u176 u177 u178 u179 u180 u181 u182 u183 u184 u185 u186 u187 u188 u189 u190 u191 u192 u193 u194 u195 u196 u197 u198 u199 u200 u201 u202 u203 w' hE hB
    have HB := Lib.hid hB
    clear hB
    go_wp2_with fail
    go_ret
    exact ⟨ret_bool hE.out.symm, HBW.out _ HB.out⟩
  intro u2 u7 u8 u153 u154 u155 u156 u157 u158 u159 u160 u161 u162 u163 u164 u165 u166 u167 u168 u169 u170 u171 u172 u173 u174 u175 u176 u177 u178 u179 u180 u181 u182 u183 u184 u185 u186 u187 u188 u189 u190 u191 u192 u193 u194 u195 u196 u197 u198 u199 u200 u201 u202 u203 w2 hE2 hB2
  have HB2 := Lib.hid hB2
  clear hB2
  go_wp2_with fail
  go_ret
  exact ⟨ret_bool hE2.out.symm, HBW.out _ HB2.out⟩
end Go.Proofs.YtpdhelhngdeoeaaDoor

/- The reference of layer 17: Valid, the plain part. -/
namespace Go.Proofs.YtpdhelhngdeoeaaDoor
open Go.RowKit

/-- channels from 2 to 51, increasing -/
def chIn : Option Int → List Int → Bool
  | _, [] => true
  | prev, x :: r => if x < 2 ∨ 51 < x ∨ notUp prev x = true then false else chIn (some x) r
/-- domains: stations from 0 to 511, increasing, each with at most 50 channels -/
def domGo : Option Int → List Dom → Bool
  | _, [] => true
  | prev, d :: r => if stF d.st = false ∨ notUp prev d.st = true ∨ 50 < d.len then false else if chIn none d.chs then domGo (some d.st) r else false
def inD (ds : List Dom) (x : Int) : Bool := decide (0 ≤ findD x 0 ds)
theorem inD_mem (ds : List Dom) (x : Int) : inD ds x = decide (x ∈ ds.map Dom.st) := by
  have h := findD_neg x ds 0
  unfold inD
  by_cases hx : x ∈ ds.map Dom.st
  · rw [decide_eq_true hx] at h ⊢
    have : ¬ findD x 0 ds < 0 := by simpa using h
    exact decide_eq_true (by omega)
  · rw [decide_eq_false hx] at h ⊢
    have : findD x 0 ds < 0 := by simpa using h
    exact decide_eq_false (by omega)
def validR (ds : List Dom) (r : Rul) : Bool := decide (ds.length ≤ 512) && rulesR r && (domGo none ds && (r.pairs.all (fun x => inD ds x.a && inD ds x.b) && (r.loads.all (fun x => inD ds x.a && inD ds x.b) && r.caps.all (fun x => inD ds x.a))))
/-- the loops of a code, in their order -/
noncomputable def vdLoop (k : Nat) : Code := ((Tryd.f11.body.map loopsOf).getD []).getD k .skip
end Go.Proofs.YtpdhelhngdeoeaaDoor

/- A problem in memory, as it is being made: its four slices in a box, with rows of the call's own. -/
namespace Go.Proofs.YtpdhelhngdeoeaaDoor
open Go.RowKit

/-- the channels of a domain: a row of the call's own, or one that lay there before -/
def ChOk (B0 : Nat) (W1 : World) (d : Dom) (W : World) : Prop := W.ownsRow W1.heap.size 3 1 (.slice d.adr d.len d.cap) d.len (d.chs.map intV) ∨ Row1 intV W1 B0 d.adr d.len d.chs
/-- the block of a domain's channels -/
def ChBlk (d : Dom) : Nat := match d.adr with | some a => a.block | none => 0
theorem chBlk_own {d : Dom} {k : Nat} (h : (Value.slice d.adr d.len d.cap).ownBlock = some k) : some (ChBlk d) = (Value.slice d.adr d.len d.cap).ownBlock := by
  rw [h]
  unfold Value.ownBlock at h
  unfold ChBlk
  cases hd : d.adr with
  | none => rw [hd] at h; simp at h
  | some a => rw [hd] at h; simpa using h
def QSt (B0 : Nat) (W1 : World) (g8 : Nat) (v : PrbV) (x : PrbL) (W : World) : Prop :=
  Below W1.heap.size W1 W ∧ W1.heap.size ≤ g8 ∧ Blk W g8 29 [v.d, v.p, v.l, v.c] ∧
  W.ownsRow W1.heap.size 65 2 v.d x.ds.length (flat 2 Dom.cell x.ds) ∧ (∀ d ∈ x.ds, ChOk B0 W1 d W) ∧
  W.ownsRow W1.heap.size 73 5 v.p x.ps.length (flat 5 R5.cell x.ps) ∧ W.ownsRow W1.heap.size 77 5 v.l x.ls.length (flat 5 R5.cell x.ls) ∧ W.ownsRow W1.heap.size 79 4 v.c x.cs.length (flat 4 R4.cell x.cs)
theorem ChOk.row {B0 : Nat} {W1 W : World} {d : Dom} (h : ChOk B0 W1 d W) (hb : Below W1.heap.size W1 W) (hB : B0 ≤ W1.heap.size) : Row1 intV W W.heap.size d.adr d.len d.chs := by
  rcases h with h | h
  · exact row1_own h
  · exact (h.up hB).keep hb
section
variable {W1 W W' : World} {B0 g8 : Nat} {v : PrbV} {x : PrbL}
theorem QSt.call (h : QSt B0 W1 g8 v x W) (hb : Below W.heap.size W W') : QSt B0 W1 g8 v x W' := by
  obtain ⟨h1, h2, h4, h6, h7, h8, h9, h10⟩ := h
  exact ⟨h1.trans (hb.mono h1.size), h2, h4.keep hb, own_keep h6 hb, fun d hd => (h7 d hd).imp (fun h => own_keep h hb) id, own_keep h8 hb, own_keep h9 hb, own_keep h10 hb⟩
theorem QSt.alloc (h : QSt B0 W1 g8 v x W) (o : Obj) : QSt B0 W1 g8 v x (W.alloc o) := h.call ((Below.refl _ W).alloc (Nat.le_refl _) o)
theorem QSt.addD (h : QSt B0 W1 g8 v x W) {v' : Value} {y : Dom} (hg : W.grownBy W' v.d.ownBlock) (hown : W'.ownsRow W1.heap.size 65 2 v' (x.ds.length + 1) (flat 2 Dom.cell x.ds ++ (List.range 2).map y.cell)) (hd' : ChOk B0 W1 y W) : QSt B0 W1 g8 ⟨v', v.p, v.l, v.c⟩ ⟨x.ds ++ [y], x.ps, x.ls, x.cs⟩ (W'.setCell ⟨g8, 0, none⟩ v') := by
  obtain ⟨h1, h2, h4, h6, h7, h8, h9, h10⟩ := h
  have hb2 : Blk W' g8 29 [v.d, v.p, v.l, v.c] := blk_kept h4 hg (blk_not_row h4 (by decide) h6)
  have hB : Below W1.heap.size W1 W' := h1.grown hg h1.size (fun k e => own_ge h6 k e)
  refine ⟨hB.setCell (p := ⟨g8, 0, none⟩) h2 _, h2, hb2.set_ 0 v', by have := row_set hown hb2 (by decide) 0 v'; rw [List.length_append, flat_snoc]; exact this, fun d hd => by
    rcases List.mem_append.1 hd with h | h
    · exact (h7 d h).imp (fun h => row_set (row_kept h hg h6 (by decide)) hb2 (by decide) _ _) id
    · obtain rfl : d = y := by simpa using h
      exact hd'.imp (fun h => row_set (row_kept h hg h6 (by decide)) hb2 (by decide) _ _) id, row_set (row_kept h8 hg h6 (by decide)) hb2 (by decide) _ _, row_set (row_kept h9 hg h6 (by decide)) hb2 (by decide) _ _, row_set (row_kept h10 hg h6 (by decide)) hb2 (by decide) _ _⟩
theorem QSt.addP (h : QSt B0 W1 g8 v x W) {v' : Value} {y : R5} (hg : W.grownBy W' v.p.ownBlock) (hown : W'.ownsRow W1.heap.size 73 5 v' (x.ps.length + 1) (flat 5 R5.cell x.ps ++ (List.range 5).map y.cell)) : QSt B0 W1 g8 ⟨v.d, v', v.l, v.c⟩ ⟨x.ds, x.ps ++ [y], x.ls, x.cs⟩ (W'.setCell ⟨g8, 1, none⟩ v') := by
  obtain ⟨h1, h2, h4, h6, h7, h8, h9, h10⟩ := h
  have hb2 : Blk W' g8 29 [v.d, v.p, v.l, v.c] := blk_kept h4 hg (blk_not_row h4 (by decide) h8)
  have hB : Below W1.heap.size W1 W' := h1.grown hg h1.size (fun k e => own_ge h8 k e)
  refine ⟨hB.setCell (p := ⟨g8, 1, none⟩) h2 _, h2, hb2.set_ 1 v', row_set (row_kept h6 hg h8 (by decide)) hb2 (by decide) _ _, fun d hd => (h7 d hd).imp (fun h => row_set (row_kept h hg h8 (by decide)) hb2 (by decide) _ _) id, by have := row_set hown hb2 (by decide) 1 v'; rw [List.length_append, flat_snoc]; exact this, row_set (row_kept h9 hg h8 (by decide)) hb2 (by decide) _ _, row_set (row_kept h10 hg h8 (by decide)) hb2 (by decide) _ _⟩
theorem QSt.addL (h : QSt B0 W1 g8 v x W) {v' : Value} {y : R5} (hg : W.grownBy W' v.l.ownBlock) (hown : W'.ownsRow W1.heap.size 77 5 v' (x.ls.length + 1) (flat 5 R5.cell x.ls ++ (List.range 5).map y.cell)) : QSt B0 W1 g8 ⟨v.d, v.p, v', v.c⟩ ⟨x.ds, x.ps, x.ls ++ [y], x.cs⟩ (W'.setCell ⟨g8, 2, none⟩ v') := by
  obtain ⟨h1, h2, h4, h6, h7, h8, h9, h10⟩ := h
  have hb2 : Blk W' g8 29 [v.d, v.p, v.l, v.c] := blk_kept h4 hg (blk_not_row h4 (by decide) h9)
  have hB : Below W1.heap.size W1 W' := h1.grown hg h1.size (fun k e => own_ge h9 k e)
  refine ⟨hB.setCell (p := ⟨g8, 2, none⟩) h2 _, h2, hb2.set_ 2 v', row_set (row_kept h6 hg h9 (by decide)) hb2 (by decide) _ _, fun d hd => (h7 d hd).imp (fun h => row_set (row_kept h hg h9 (by decide)) hb2 (by decide) _ _) id, row_set (row_kept h8 hg h9 (by decide)) hb2 (by decide) _ _, by have := row_set hown hb2 (by decide) 2 v'; rw [List.length_append, flat_snoc]; exact this, row_set (row_kept h10 hg h9 (by decide)) hb2 (by decide) _ _⟩
theorem QSt.addC (h : QSt B0 W1 g8 v x W) {v' : Value} {y : R4} (hg : W.grownBy W' v.c.ownBlock) (hown : W'.ownsRow W1.heap.size 79 4 v' (x.cs.length + 1) (flat 4 R4.cell x.cs ++ (List.range 4).map y.cell)) : QSt B0 W1 g8 ⟨v.d, v.p, v.l, v'⟩ ⟨x.ds, x.ps, x.ls, x.cs ++ [y]⟩ (W'.setCell ⟨g8, 3, none⟩ v') := by
  obtain ⟨h1, h2, h4, h6, h7, h8, h9, h10⟩ := h
  have hb2 : Blk W' g8 29 [v.d, v.p, v.l, v.c] := blk_kept h4 hg (blk_not_row h4 (by decide) h10)
  have hB : Below W1.heap.size W1 W' := h1.grown hg h1.size (fun k e => own_ge h10 k e)
  refine ⟨hB.setCell (p := ⟨g8, 3, none⟩) h2 _, h2, hb2.set_ 3 v', row_set (row_kept h6 hg h10 (by decide)) hb2 (by decide) _ _, fun d hd => (h7 d hd).imp (fun h => row_set (row_kept h hg h10 (by decide)) hb2 (by decide) _ _) id, row_set (row_kept h8 hg h10 (by decide)) hb2 (by decide) _ _, row_set (row_kept h9 hg h10 (by decide)) hb2 (by decide) _ _, by have := row_set hown hb2 (by decide) 3 v'; rw [List.length_append, flat_snoc]; exact this⟩
/-- a store into a box of a domain of the call's own -/
theorem QSt.other (h : QSt B0 W1 g8 v x W) {g : Nat} {s : List Value} (hb : Blk W g 65 s) (hg : W1.heap.size ≤ g) (hne : some g ≠ v.d.ownBlock) (i : Nat) (u : Value) : QSt B0 W1 g8 v x (W.setCell ⟨g, i, none⟩ u) := by
  obtain ⟨h1, h2, h4, h6, h7, h8, h9, h10⟩ := h
  have e8 : g ≠ g8 := by
    rintro rfl
    have := (show W.heap[g]? = _ from h4).symm.trans hb
    simp at this
  exact ⟨h1.setCell (p := ⟨g, i, none⟩) hg _, h2, h4.other _ _ e8, own_same h6 (fun k hk => Below.heap_setCell _ _ _ _ (fun e2 => by subst e2; exact hne hk.symm)), fun d hd => (h7 d hd).imp (fun h => row_set h hb (by decide) _ _) id, row_set h8 hb (by decide) _ _, row_set h9 hb (by decide) _ _, row_set h10 hb (by decide) _ _⟩
/-- a row of numbers of the call's own grows -/
theorem QSt.grow (h : QSt B0 W1 g8 v x W) {u : Value} {n : Nat} {ys : List Value} (hu : W.ownsRow W1.heap.size 3 1 u n ys) (hg : W.grownBy W' u.ownBlock) (hd : ∀ d ∈ x.ds, some (ChBlk d) ≠ u.ownBlock)   : QSt B0 W1 g8 v x W' := by
  obtain ⟨h1, h2, h4, h6, h7, h8, h9, h10⟩ := h
  refine ⟨h1.grown hg h1.size (fun k e => own_ge hu k e), h2, blk_kept h4 hg (blk_not_row h4 (by decide) hu), row_kept h6 hg hu (by decide), fun d hd2 => (h7 d hd2).imp (fun h => ?_) id, row_kept h8 hg hu (by decide), row_kept h9 hg hu (by decide), row_kept h10 hg hu (by decide)⟩
  exact own_same h fun k hk => hg.block k (by obtain ⟨c, hc⟩ := own_type h hk; exact (Array.getElem?_eq_some_iff.1 hc).1) (fun e => hd d hd2 (by rw [← e, ← hk]; exact (chBlk_own hk)))
end
end Go.Proofs.YtpdhelhngdeoeaaDoor

/- As XLex, with a tail: operations from n on that wait for all those ahead of them; what is said of the world (C) is owed only until the tail begins, then C'. So a load of a cell that the tail stores into may be unordered beside a call. Nothing of the program is named here. -/
namespace Go.Proofs.YtpdhelhngdeoeaaDoor
open Go.RowKit

namespace Lx
section
variable {P : Program} {ops : Array Oper} {C C' : World → Prop} {hs : List Nat}

def tailOk (n : Nat) (ops : Array Oper) : Bool :=
  let M := masks ops.toList []
  (List.range ops.size).all fun j => decide (j < n) || (List.range n).all fun i => (M.getD j 0).testBit i

theorem any_of_lexT {Q : Exit → Act → World → Prop} {n : Nat} (hok : ok hs ops = true) (ht : tailOk n ops = true) : ∀ (fuel : Nat) (L1 L2 : List Nat) (listed : Array Bool) (a : Act) (w : World), C w → (L1 ++ L2).length = fuel →
    (∀ i, i ∈ L1 ++ L2 ↔ i < ops.size ∧ listed.getD i true = false) → (L1 ++ L2).Pairwise (· < ·) → (∀ i ∈ L1, i < n) → (∀ i ∈ L2, n ≤ i) → Down ops listed → listed.size = ops.size →
    lexN P ops C hs (fun a w => C' w ∧ lexN P ops C' hs (fun a w => Q .normal a w) L2 a w) L1 a w → wpAny P .any ops Q fuel listed a w := by
  have htl : ∀ j, n ≤ j → j < ops.size → ∀ i, i < n → ((masks ops.toList []).getD j 0).testBit i = true := by
    intro j hj hjs i hi
    have h1 := List.all_eq_true.1 ht j (List.mem_range.2 hjs)
    simp only [Bool.or_eq_true, decide_eq_true_eq] at h1
    rcases h1 with h1 | h1
    · omega
    · exact List.all_eq_true.1 h1 i (List.mem_range.2 hi)
  have hok' : ∀ (j : Nat) (oj : Oper), ops[j]? = some oj → noSel oj = true ∧ (∀ e ∈ oj.after, Region.binds .any e = true → e.on < j) ∧ ∀ i, i < j → ((masks ops.toList []).getD j 0).testBit i = true ∨ pair ops hs i j = true := by
    intro j oj hj
    have hlt : j < ops.size := (Array.getElem?_eq_some_iff.1 hj).1
    have h1 := List.all_eq_true.1 hok j (List.mem_range.2 hlt)
    simp only [hj, Bool.and_eq_true] at h1
    obtain ⟨⟨h2, h3⟩, h4⟩ := h1
    refine ⟨h2, fun e he hb => ?_, fun i hi => ?_⟩
    · have := Array.all_eq_true'.1 h3 e he
      simpa [hb] using this
    · have := List.all_eq_true.1 h4 i (List.mem_range.2 hi)
      simpa using this
  have hsel : ∀ (j : Nat) (o : Oper) cs b, ops[j]? = some o → o.op ≠ .select cs b := by
    intro j o cs b hj he
    have := (hok' j o hj).1
    simp [noSel, he] at this
  intro fuel
  induction fuel with
  | zero =>
    intro L1 L2 listed a w hC hL hm hs' h1 h2 hD hsz h
    have hnil : L1 = [] := List.eq_nil_of_length_eq_zero (by simp at hL; simp [hL])
    subst hnil
    exact any_of_lex hok _ L2 listed a w h.1 (by simpa using hL) (by simpa using hm) (by simpa using hs') hD hsz h.2
  | succ fuel ih =>
    intro L1 L2 listed a w hC hL hm hs' h1 h2 hD hsz h
    cases L1 with
    | nil => exact any_of_lex hok _ L2 listed a w h.1 (by simpa using hL) (by simpa using hm) (by simpa using hs') hD hsz h.2
    | cons i0 L0 =>
      have hi0 : i0 < n := h1 i0 (by simp)
      obtain ⟨hi1, hi2⟩ := (hm i0).1 (by simp)
      refine ⟨fun hr => ?_, fun j hj => ?_⟩
      · exfalso
        have ho : ops[i0]? = some ops[i0] := Array.getElem?_eq_getElem hi1
        have hri : i0 ∈ Region.ready .any ops listed := by
          refine mem_ready.2 ⟨hi2, _, ho, fun e he hb => ?_⟩
          have hlt := (hok' i0 _ ho).2.1 e he hb
          by_cases hle : listed.getD e.on true = false
          · have hmem : e.on ∈ i0 :: (L0 ++ L2) := (hm e.on).2 ⟨by omega, hle⟩
            rcases List.mem_cons.1 hmem with h | h
            · omega
            · have := (List.pairwise_cons.1 hs').1 e.on h
              omega
          · have hb2 : e.on < listed.size := by omega
            simp only [Array.getD_eq_getD_getElem?, Array.getElem?_eq_getElem hb2, Option.getD_some] at hle ⊢
            simpa using hle
        rw [hr] at hri
        cases hri
      · obtain ⟨hj1, oj, hoj, hjr⟩ := mem_ready.1 hj
        have hjlt : j < ops.size := (Array.getElem?_eq_some_iff.1 hoj).1
        have hmem : j ∈ i0 :: L0 := by
          rcases List.mem_append.1 ((hm j).2 ⟨hjlt, hj1⟩) with h | h
          · exact h
          · exfalso
            have hl := masks_sound hD (j + 1) j oj (by omega) hoj hjr i0 (htl j (h2 j h) hjlt i0 hi0)
            have hb2 : i0 < listed.size := by omega
            simp only [Array.getD_eq_getD_getElem?, Array.getElem?_eq_getElem hb2, Option.getD_some] at hl hi2
            rw [hl] at hi2
            cases hi2
        obtain ⟨pre, post, hsplit⟩ := List.append_of_mem hmem
        rw [hsplit] at hs' hm hL h h1
        clear hsplit hmem
        have hs1 := (List.pairwise_append.1 hs').1
        have hpre : ∀ i ∈ pre, i < j := by
          intro i hi
          exact (List.pairwise_append.1 hs1).2.2 i hi j (by simp)
        have hpost : ∀ i ∈ post, j < i := fun i hi => (List.pairwise_cons.1 (List.pairwise_append.1 hs1).2.1).1 i hi
        have hpair : ∀ i ∈ pre, pair ops hs i j = true := by
          intro i hi
          rcases (hok' j oj hoj).2.2 i (hpre i hi) with h1 | h1
          · exfalso
            have hl := masks_sound hD (j + 1) j oj (by omega) hoj hjr i h1
            obtain ⟨hi1, hi2⟩ := (hm i).1 (by simp [hi])
            have hb2 : i < listed.size := by omega
            simp only [Array.getD_eq_getD_getElem?, Array.getElem?_eq_getElem hb2, Option.getD_some] at hl hi2
            rw [hl] at hi2
            cases hi2
          · exact h1
        have hp1 := pull hoj hsel post pre a w hpair hC h
        have hset : ∀ i, (listed.setIfInBounds j true).getD i true = false ↔ (listed.getD i true = false ∧ i ≠ j) := by
          intro i
          by_cases hij : i = j
          · subst hij
            simp [Array.getD_eq_getD_getElem?, Array.getElem?_setIfInBounds]
            split <;> simp_all
          · simp [Array.getD_eq_getD_getElem?, Array.getElem?_setIfInBounds_ne (Ne.symm hij), hij]
        have hp2 : step P ops C hs j oj (wpAny P .any ops Q fuel (listed.setIfInBounds j true)) a w := by
          refine step_mono hC hp1 fun a' w' hC' _ hK => ih (pre ++ post) L2 _ a' w' hC' ?_ ?_ ?_ ?_ h2 ?_ (by simp [hsz]) hK
          · simp at hL ⊢; omega
          · intro i
            rw [hset]
            constructor
            · intro hi
              have hi' : i ∈ (pre ++ j :: post) ++ L2 := by
                simp only [List.mem_append, List.mem_cons] at hi ⊢
                rcases hi with (h | h) | h <;> simp [h]
              obtain ⟨q1, q2⟩ := (hm i).1 hi'
              refine ⟨q1, q2, ?_⟩
              simp only [List.mem_append] at hi
              rcases hi with (h | h) | h
              · have := hpre i h; omega
              · have := hpost i h; omega
              · have := h1 j (by simp)
                have := h2 i h
                omega
            · rintro ⟨q1, q2, q3⟩
              have := (hm i).2 ⟨q1, q2⟩
              simp only [List.mem_append, List.mem_cons] at this ⊢
              rcases this with (h | h | h) | h
              · simp [h]
              · exact absurd h q3
              · simp [h]
              · simp [h]
          · have hp := List.pairwise_append.1 hs'
            refine List.pairwise_append.2 ⟨?_, hp.2.1, fun x hx y hy => hp.2.2 x (by simp only [List.mem_append, List.mem_cons] at hx ⊢; rcases hx with h | h <;> simp [h]) y hy⟩
            have hq := List.pairwise_append.1 hs1
            refine List.pairwise_append.2 ⟨hq.1, (List.pairwise_cons.1 hq.2.1).2, fun x hx y hy => ?_⟩
            have := hpre x hx
            have := hpost y hy
            omega
          · intro i hi
            refine h1 i ?_
            simp only [List.mem_append, List.mem_cons] at hi ⊢
            rcases hi with h | h <;> simp [h]
          · intro j' o' ho' hl' e he hb
            by_cases hjj : j' = j
            · subst hjj
              rw [hoj] at ho'
              injection ho' with ho'
              subst ho'
              exact getD_set_true (hjr e he hb)
            · rw [getD_set_ne false (Ne.symm hjj)] at hl'
              exact getD_set_true (hD j' o' ho' hl' e he hb)
        unfold step at hp2
        unfold wpOp
        simp only [hoj]
        split
        · rename_i hw
          rw [if_pos hw] at hp2
          left
          rcases hp2 with ⟨_, v, h3, h4⟩ | ⟨_, v, h3, h4⟩ | ⟨_, h3⟩
          · unfold Oper.wp; rw [h3 w hC]; exact h4
          · unfold Oper.wp; rw [h3]; exact h4
          · exact Oper.wp_mono (fun _ _ hh => hh.2) (wp_noQ h3)
        · rename_i hw
          rw [if_neg hw] at hp2
          exact hp2
end

theorem lexN_of_lexP {P : Program} {ops : Array Oper} {C : World → Prop} {hs : List Nat} {Q : Act → World → Prop} : ∀ (l : List Oper) (k : Nat), (∀ m, m < l.length → l[m]? = ops[k + m]?) → lex P ops C hs Q k l = lexN P ops C hs Q (List.range' k l.length) := by
  intro l
  induction l with
  | nil => intro k _; funext a w; simp [lex, lexN]
  | cons o r ih =>
    intro k h
    have h0 : ops[k]? = some o := by simpa using (h 0 (by simp)).symm
    have ih' := ih (k + 1) (fun m hm => by have := h (m + 1) (by simp; omega); simpa [Nat.add_assoc, Nat.add_comm 1 m] using this)
    funext a w
    simp only [lex, List.length_cons, List.range'_succ, lexN, h0, ih']

/-- THE REGION with a tail: l1 ahead, l2 behind -/
theorem regionT {P : Program} {C C' : World → Prop} {hs : List Nat} {id : Nat} {l : List Oper} {Q : Exit → Act → World → Prop} {a : Act} {w : World} (n : Nat) (l1 l2 : List Oper) (hl : l = l1 ++ l2) (hn : l1.length = n) (hm : P.follows .mixedOrders = true) (hok : ok hs l.toArray = true) (ht : tailOk n l.toArray = true) (hC : C w.drew)
    (h : lex P l.toArray C hs (fun a w => C' w ∧ lex P l.toArray C' hs (fun a w => Q .normal a w) n l2 a w) 0 l1 a w.drew) : (Code.region id l.toArray true).wp P Q a w := by
  subst hl
  refine wp_region_any hm ?_
  refine any_of_lexT (C := C) (C' := C') (hs := hs) (n := n) hok ht _ (List.range' 0 n) (List.range' n l2.length) _ a _ hC (by simp [hn]) ?_ ?_ ?_ ?_ ?_ (by simp) ?_
  · intro i
    simp [Array.getD_eq_getD_getElem?, Array.getElem?_replicate, hn]
    constructor
    · intro hi
      have : i < n + l2.length := by omega
      exact ⟨this, by simp [this]⟩
    · rintro ⟨hi, _⟩
      omega
  · have h1 := List.pairwise_lt_range (n := n + l2.length)
    rw [List.range_eq_range', List.range'_append_1.symm] at h1
    simpa using h1
  · intro i hi; simp at hi; exact hi
  · intro i hi; simp at hi; exact hi.1
  · intro j o ho hl
    simp [Array.getD_eq_getD_getElem?, Array.getElem?_replicate] at hl
    split at hl <;> simp at hl
  · have e2 := lexN_of_lex (P := P) (ops := (l1 ++ l2).toArray) (C := C') (hs := hs) (Q := fun a w => Q .normal a w) l2 n (fun m => by rw [List.getElem?_toArray, List.getElem?_append_right (by omega)]; congr 1; omega)
    rw [e2] at h
    have e1 := lexN_of_lexP (P := P) (ops := (l1 ++ l2).toArray) (C := C) (hs := hs) (Q := fun a w => C' w ∧ lexN P (l1 ++ l2).toArray C' hs (fun a w => Q .normal a w) (List.range' n l2.length) a w) l1 0 (fun m hm => by rw [Nat.zero_add, List.getElem?_toArray, List.getElem?_append_left hm])
    rw [e1, hn] at h
    exact h
section
variable {P : Program} {ops : Array Oper} {C : World → Prop} {hs : List Nat} {Q : Act → World → Prop} {k : Nat} {o : Oper} {r : List Oper} {a : Act} {w : World}
/-- append of a row of one-cell elements, whatever its address -/
theorem lex_append_row (hk : kind hs k o = 2) (hgd : o.guard = none) (s x : Operand) (t : TypeId)
    (ho : o.op = .call { callee := .builtin .append, args := #[s, x], argTypes := #[t, t] })
    {α : Type} {f : α → Value} (hf : ∀ a, (f a).oneCell' = true) (base : Nat) (e : TypeId) (i : TypeInfo) (z : Value) (bytes : Nat) (ht : P.underlying t = some (.slice e)) (hi : P.info? e = some i) (hz : i.zero = some z)
    (hsize : i.size = 1) (hby : i.bytes = bytes) (hzs : z.cells.size = 1)
    (v : Value) (n : Nat) (xs : List Value) (hsv : a.eval s = v) (hown : w.ownsRow base e 1 v n xs)
    (A : Option Addr) (m c : Nat) (ys : List α) (D : Nat) (hx : a.eval x = .slice A m c) (hy : Row1 f w D A m ys)
    (h63 : n + m ≤ maxLen) (hbytes : (n + m) * bytes ≤ 140737488355328) (hbase : base ≤ w.heap.size)
    (h : ∀ v' w', w'.ownsRow base e 1 v' (n + m) (xs ++ ys.map f) → w.grownBy w' v.ownBlock → (v'.ownBlock = v.ownBlock ∨ v'.ownBlock = some w.heap.size) → C w' ∧ lex P ops C hs Q (k + 1) r (a.put o.dst v') w') :
    lex P ops C hs Q k (o :: r) a w := by
  refine lex_eff hk (w0 hgd) fun K hK => ?_
  obtain ⟨v', w', hr, h2, h3, h5⟩ := run_append_row (P := P) hf w base t o.type e i z bytes ht hi hz hsize hby hzs v n xs hown A m c ys D hy h63 hbytes hbase
  unfold Oper.wp execOp
  simp only [ho, resolve, invoke, builtin, Sem.run_bind, Sem.run_pure, Result.andThen_ok, List.map_toArray, List.map_cons, List.map_nil, hsv, hx, hr]
  exact hK _ _ (h v' w' h2 h3 h5).1 (h v' w' h2 h3 h5).2
end
end Lx
end Go.Proofs.YtpdhelhngdeoeaaDoor

namespace Go.Proofs.YtpdhelhngdeoeaaDoor
open Go.RowKit

/-- what the reference's Problem answers -/
def domR (t : Int) (d : Dom) : Int × List Int := (d.st, d.chs.flatMap fun b => chR b t 50)
def keepR (l : List Int) (r : Rul) : Rul := ⟨r.pairs.filter (fun c => hasL l c.a && hasL l c.b), r.loads.filter (fun c => hasL l c.a && hasL l c.b), r.caps.filter (fun c => hasL l c.a)⟩
def PrbRet (o : List (Int × List Int) × Rul) (w : World) (e : Ending) (w' : World) : Prop := ∃ s ds, e = .returned (PrbS.val s) ∧ PrbAt w' w'.heap.size s ds o.2 ∧ ds.map Dom.say = o.1 ∧ Below w.heap.size w w'
section
variable {W1 W W' : World} {B0 g8 : Nat} {v : PrbV} {x : PrbL}
/-- another row of numbers of the call's own stays as one of the rows grows and the box is written -/
theorem QSt.keepI (h : QSt B0 W1 g8 v x W) {base e size k n : Nat} {vv u : Value} {zs ys : List Value} (hu : W.ownsRow W1.heap.size 3 1 u n ys) (hr : W.ownsRow base e size vv k zs) (hte : 3 ≠ e) (hpe : 29 ≠ e) (hg : W.grownBy W' vv.ownBlock) (i : Nat) (y : Value) : (W'.setCell ⟨g8, i, none⟩ y).ownsRow W1.heap.size 3 1 u n ys :=
  row_set (row_kept hu hg hr hte) (blk_kept h.2.2.1 hg (blk_not_row h.2.2.1 hpe hr)) (by decide) i y
end

end Go.Proofs.YtpdhelhngdeoeaaDoor
