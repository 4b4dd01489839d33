/- Plain laws on problems: what band.Problem answers is valid, and is what the reference answers. -/
import Derived.Test.YtdpbbhbegehcjaaGreatDoorPla05
import Derived.Test.YtdpbbhbegehcjaaGreatDoorPla07
set_option maxRecDepth 100000
set_option maxHeartbeats 8000000
namespace Go.Proofs.YtdpbbhbegehcjaaGreatDoor
open Go.RowKit
theorem vd_pairs (w W0 wi : World) (A : Option Addr) (n c : Nat) (A0 A1 A2 : Option Addr) (n0 c0 n1 c1 n2 c2 : Nat) (ds : List Dom) (ans rest : Bool) (hn : n ≤ 512) (h : DomsAt W0 W0.heap.size A n ds)
  (hx : Blk W0 w.heap.size 29 [.slice A n c, .slice A0 n0 c0, .slice A1 n1 c1, .slice A2 n2 c2]) (l : List R5) (hlr : RowS 5 R5.cell W0 W0.heap.size A0 n0 l) (hln : n0 ≤ 4096) (hans : Eqn ans (l.all (fun x => inD ds x.a && inD ds x.b) && rest)) (hwi : Below W0.heap.size W0 wi)
  (x_0 x_2 x_3 x_4 x_5 x_7 x_8 x_9 x_10 x_11 x_12 x_13 x_14 x_15 x_16 x_17 x_18 x_19 x_20 x_21 x_22 x_23 x_24 x_25 x_26 x_27 x_28 x_29 x_30 x_31 x_32 x_33 x_34 x_35 x_36 x_37 x_38 x_39 x_40 x_41 x_42 x_43 x_44 x_45 x_46 x_47 x_48 x_49 x_50 x_51 x_52 x_53 x_54 x_55 x_56 x_57 x_58 x_59 x_60 x_61 x_62 x_63 x_64 x_65 x_66 x_67 x_68 x_69 x_70 x_71 x_72 x_73 x_74 x_75 x_76 x_77 x_78 x_79 x_80 x_81 x_82 x_83 x_84 x_85 x_86 x_87 x_88 x_89 x_90 x_91 x_92 x_93 x_94 x_95 x_96 x_97 x_98 x_99 x_100 x_101 x_102 x_103 x_104 x_105 x_106 x_107 x_108 x_109 x_110 x_111 x_112 x_113 x_114 x_115 x_116 x_117 x_118 x_119 x_120 x_121 x_122 x_123 x_124 x_125 x_126 x_127 x_128 x_129 x_130 x_131 x_132 x_133 x_134 x_135 x_136 x_137 x_138 x_139 x_140 x_141 x_142 x_143 x_144 x_145 x_146 x_147 x_148 x_149 x_150 x_151 x_152 x_153 x_154 x_155 x_156 x_157 x_158 x_159 x_160 x_161 x_162 x_163 x_164 x_165 x_166 x_167 x_168 x_169 x_170 x_171 x_172 x_173 : Value) (Q : Exit → Act → World → Prop)
  (hQ : ∀ (u2 u6 u96 u97 u98 u99 u100 u101 u102 u103 u104 u105 u106 u107 u108 u109 u110 u111 u112 u113 u114 u115 u116 u117 u118 u119 u120 u121 u122 u123 u124 u125 : Value) (w' : World), Eqn ans rest → Below W0.heap.size W0 w' → Q (.exit 4) ⟨List.toArray (x_0 :: Value.pointer (some ⟨w.heap.size, 0, none⟩) :: u2 :: x_3 :: x_4 :: x_5 :: u6 :: x_7 :: x_8 :: x_9 :: x_10 :: x_11 :: x_12 :: x_13 :: x_14 :: x_15 :: x_16 :: x_17 :: x_18 :: x_19 :: x_20 :: x_21 :: x_22 :: x_23 :: x_24 :: x_25 :: x_26 :: x_27 :: x_28 :: x_29 :: x_30 :: x_31 :: x_32 :: x_33 :: x_34 :: x_35 :: x_36 :: x_37 :: x_38 :: x_39 :: x_40 :: x_41 :: x_42 :: x_43 :: x_44 :: x_45 :: x_46 :: x_47 :: x_48 :: x_49 :: x_50 :: x_51 :: x_52 :: x_53 :: x_54 :: x_55 :: x_56 :: x_57 :: x_58 :: x_59 :: x_60 :: x_61 :: x_62 :: x_63 :: x_64 :: x_65 :: x_66 :: x_67 :: x_68 :: x_69 :: x_70 :: x_71 :: x_72 :: x_73 :: x_74 :: x_75 :: x_76 :: x_77 :: x_78 :: x_79 :: x_80 :: x_81 :: x_82 :: x_83 :: x_84 :: x_85 :: x_86 :: x_87 :: x_88 :: x_89 :: x_90 :: x_91 :: x_92 :: x_93 :: x_94 :: x_95 :: u96 :: u97 :: u98 :: u99 :: u100 :: u101 :: u102 :: u103 :: u104 :: u105 :: u106 :: u107 :: u108 :: u109 :: u110 :: u111 :: u112 :: u113 :: u114 :: u115 :: u116 :: u117 :: u118 :: u119 :: u120 :: u121 :: u122 :: u123 :: u124 :: u125 :: x_126 :: x_127 :: x_128 :: x_129 :: x_130 :: x_131 :: x_132 :: x_133 :: x_134 :: x_135 :: x_136 :: x_137 :: x_138 :: x_139 :: x_140 :: x_141 :: x_142 :: x_143 :: x_144 :: x_145 :: x_146 :: x_147 :: x_148 :: x_149 :: x_150 :: x_151 :: x_152 :: x_153 :: x_154 :: x_155 :: x_156 :: x_157 :: x_158 :: x_159 :: x_160 :: x_161 :: x_162 :: x_163 :: x_164 :: x_165 :: x_166 :: x_167 :: x_168 :: x_169 :: x_170 :: x_171 :: x_172 :: x_173 :: []), []⟩ w')
  (hR : ∀ (u6 u96 u97 u98 u99 u100 u101 u102 u103 u104 u105 u106 u107 u108 u109 u110 u111 u112 u113 u114 u115 u116 u117 u118 u119 u120 u121 u122 u123 u124 u125 : Value) (w' : World), Eqn ans false → Below W0.heap.size W0 w' → Q .ret ⟨List.toArray (x_0 :: Value.pointer (some ⟨w.heap.size, 0, none⟩) :: Value.bool false :: x_3 :: x_4 :: x_5 :: u6 :: x_7 :: x_8 :: x_9 :: x_10 :: x_11 :: x_12 :: x_13 :: x_14 :: x_15 :: x_16 :: x_17 :: x_18 :: x_19 :: x_20 :: x_21 :: x_22 :: x_23 :: x_24 :: x_25 :: x_26 :: x_27 :: x_28 :: x_29 :: x_30 :: x_31 :: x_32 :: x_33 :: x_34 :: x_35 :: x_36 :: x_37 :: x_38 :: x_39 :: x_40 :: x_41 :: x_42 :: x_43 :: x_44 :: x_45 :: x_46 :: x_47 :: x_48 :: x_49 :: x_50 :: x_51 :: x_52 :: x_53 :: x_54 :: x_55 :: x_56 :: x_57 :: x_58 :: x_59 :: x_60 :: x_61 :: x_62 :: x_63 :: x_64 :: x_65 :: x_66 :: x_67 :: x_68 :: x_69 :: x_70 :: x_71 :: x_72 :: x_73 :: x_74 :: x_75 :: x_76 :: x_77 :: x_78 :: x_79 :: x_80 :: x_81 :: x_82 :: x_83 :: x_84 :: x_85 :: x_86 :: x_87 :: x_88 :: x_89 :: x_90 :: x_91 :: x_92 :: x_93 :: x_94 :: x_95 :: u96 :: u97 :: u98 :: u99 :: u100 :: u101 :: u102 :: u103 :: u104 :: u105 :: u106 :: u107 :: u108 :: u109 :: u110 :: u111 :: u112 :: u113 :: u114 :: u115 :: u116 :: u117 :: u118 :: u119 :: u120 :: u121 :: u122 :: u123 :: u124 :: u125 :: x_126 :: x_127 :: x_128 :: x_129 :: x_130 :: x_131 :: x_132 :: x_133 :: x_134 :: x_135 :: x_136 :: x_137 :: x_138 :: x_139 :: x_140 :: x_141 :: x_142 :: x_143 :: x_144 :: x_145 :: x_146 :: x_147 :: x_148 :: x_149 :: x_150 :: x_151 :: x_152 :: x_153 :: x_154 :: x_155 :: x_156 :: x_157 :: x_158 :: x_159 :: x_160 :: x_161 :: x_162 :: x_163 :: x_164 :: x_165 :: x_166 :: x_167 :: x_168 :: x_169 :: x_170 :: x_171 :: x_172 :: x_173 :: []), []⟩ w') :
  Code.wp Tryz.prog (Code.loop (vdLoop 2)) Q ⟨List.toArray (x_0 :: Value.pointer (some ⟨w.heap.size, 0, none⟩) :: x_2 :: x_3 :: x_4 :: x_5 :: Value.int .i64 0 :: x_7 :: x_8 :: x_9 :: x_10 :: x_11 :: x_12 :: x_13 :: x_14 :: x_15 :: x_16 :: x_17 :: x_18 :: x_19 :: x_20 :: x_21 :: x_22 :: x_23 :: x_24 :: x_25 :: x_26 :: x_27 :: x_28 :: x_29 :: x_30 :: x_31 :: x_32 :: x_33 :: x_34 :: x_35 :: x_36 :: x_37 :: x_38 :: x_39 :: x_40 :: x_41 :: x_42 :: x_43 :: x_44 :: x_45 :: x_46 :: x_47 :: x_48 :: x_49 :: x_50 :: x_51 :: x_52 :: x_53 :: x_54 :: x_55 :: x_56 :: x_57 :: x_58 :: x_59 :: x_60 :: x_61 :: x_62 :: x_63 :: x_64 :: x_65 :: x_66 :: x_67 :: x_68 :: x_69 :: x_70 :: x_71 :: x_72 :: x_73 :: x_74 :: x_75 :: x_76 :: x_77 :: x_78 :: x_79 :: x_80 :: x_81 :: x_82 :: x_83 :: x_84 :: x_85 :: x_86 :: x_87 :: x_88 :: x_89 :: x_90 :: x_91 :: x_92 :: x_93 :: x_94 :: x_95 :: x_96 :: x_97 :: x_98 :: x_99 :: x_100 :: x_101 :: x_102 :: x_103 :: x_104 :: x_105 :: x_106 :: x_107 :: x_108 :: x_109 :: x_110 :: x_111 :: x_112 :: x_113 :: x_114 :: x_115 :: x_116 :: x_117 :: x_118 :: x_119 :: x_120 :: x_121 :: x_122 :: x_123 :: x_124 :: x_125 :: x_126 :: x_127 :: x_128 :: x_129 :: x_130 :: x_131 :: x_132 :: x_133 :: x_134 :: x_135 :: x_136 :: x_137 :: x_138 :: x_139 :: x_140 :: x_141 :: x_142 :: x_143 :: x_144 :: x_145 :: x_146 :: x_147 :: x_148 :: x_149 :: x_150 :: x_151 :: x_152 :: x_153 :: x_154 :: x_155 :: x_156 :: x_157 :: x_158 :: x_159 :: x_160 :: x_161 :: x_162 :: x_163 :: x_164 :: x_165 :: x_166 :: x_167 :: x_168 :: x_169 :: x_170 :: x_171 :: x_172 :: x_173 :: []), []⟩ wi := by
 have HQ := Lib.hid hQ
 have HRT := Lib.hid hR
 have HX := Lib.hid hx
 have HC : Hid (∀ W, Below W0.heap.size W0 W → W.cell? ⟨w.heap.size, 0, none⟩ = some (.slice A n c) ∧ W.cell? ⟨w.heap.size, 1, none⟩ = some (.slice A0 n0 c0) ∧ W.cell? ⟨w.heap.size, 2, none⟩ = some (.slice A1 n1 c1) ∧ W.cell? ⟨w.heap.size, 3, none⟩ = some (.slice A2 n2 c2)) := Lib.hid (fun W hb => ⟨(hx.keep hb).cell rfl, (hx.keep hb).cell rfl, (hx.keep hb).cell rfl, (hx.keep hb).cell rfl⟩)
 have HH := Lib.hid h
 have Hlen := Eqn.mk h.1.1
 have HST := Lib.hid (fun n w => rst_any n w)
 have HANS := hans
 have B0 := Lib.hid hwi
 have HLR := Lib.hid hlr
 have Hll := Eqn.mk hlr.1
 have HFD : Hid (∀ (x : Int) W, Below W0.heap.size W0 W → Calls Tryz.prog 31 #[.agg #[.slice A n c, .slice A0 n0 c0, .slice A1 n1 c1, .slice A2 n2 c2], .int .i64 x] W (RetPost (.int .i64 (findD x 0 ds)) W.heap.size W)) := Lib.hid (fun x W hW => rfind_any ⟨A, n, c, ⟨A0, n0, c0, A1, n1, c1, A2, n2, c2⟩⟩ x W ds (by dsimp only; omega) (h.keep hW))
 clear h hx hans hwi hQ hR hlr
 conv => arg 2; arg 1; whnf
 go_loopw [6] (fun i wr => ∃ k : Nat, k ≤ n0 ∧ i = .int .i64 k ∧ Eqn ans ((l.drop k).all (fun x => inD ds x.a && inD ds x.b) && rest) ∧ Below W0.heap.size W0 wr) (fun i _ => n0 - (intOf i).toNat)
 case atStart => exact ⟨0, Nat.zero_le _, rfl, HANS, B0.out⟩
 case round =>
  clear HANS
  obtain ⟨k, hk, rfl, HR, hB⟩ := hrel
  have HB := Lib.hid hB
  have hbs := hB.size
  obtain ⟨b0, b1, b2, b3⟩ := HC.out _ hB
  have hwr : w.heap.size < wr.heap.size := (HX.out.keep hB).lt
  by_cases hlt : k < n0
  ·obtain ⟨y, hy, hyd⟩ := drop_at (xs := l) (k := k) (by rw [Hll.out]; exact hlt)
   obtain ⟨b, off, hA, hbl, hc⟩ := (HLR.out.below hB).2 (by omega)
   subst hA
   have HRR : Eqn ans ((fun x => inD ds x.a && inD ds x.b) y && ((l.drop (k + 1)).all (fun x => inD ds x.a && inD ds x.b) && rest)) := by rw [Eqn, HR.out, hyd, List.all_cons, Bool.and_assoc]
   have e0 := hc k y hy 0 (by omega)
   have hbw : b < wr.heap.size := by omega
   have j0 : (k : Int) < (n0 : Int) := by omega
   have HE1 : Hid (∀ W, Below wr.heap.size wr W → W.cell? ⟨b, off + k * 5 + 1, none⟩ = some (.int .i64 y.b)) := Lib.hid (fun W hW => (hW.cell (p := ⟨b, off + k * 5 + 1, none⟩) hbw).trans (hc k y hy 1 (by omega)))
   have HCW : Hid (∀ W, Below wr.heap.size wr W → W.cell? ⟨w.heap.size, 0, none⟩ = some (.slice A n c) ∧ W.cell? ⟨w.heap.size, 1, none⟩ = some (.slice (some ⟨b, off, none⟩) n0 c0) ∧ W.cell? ⟨w.heap.size, 2, none⟩ = some (.slice A1 n1 c1) ∧ W.cell? ⟨w.heap.size, 3, none⟩ = some (.slice A2 n2 c2) ∧ w.heap.size < W.heap.size) := Lib.hid (fun W hW => by
    have hb := HB.out.trans (hW.mono hbs)
    obtain ⟨q0, q1, q2, q3⟩ := HC.out W hb
    exact ⟨q0, q1, q2, q3, (HX.out.keep hb).lt⟩)
   obtain ⟨y0, y1, y2, y3, y4⟩ := y
   simp only [R5.cell, Nat.add_zero] at e0
   dsimp only at *
   have HFW : Hid (∀ (x : Int) W, Below wr.heap.size wr W → Calls Tryz.prog 31 #[.agg #[.slice A n c, .slice (some ⟨b, off, none⟩) n0 c0, .slice A1 n1 c1, .slice A2 n2 c2], .int .i64 x] W (RetPost (.int .i64 (findD x 0 ds)) W.heap.size W)) := Lib.hid (fun x W hW => HFD.out x W (HB.out.trans (hW.mono hbs)))
   have HDR := Lib.hid ((Below.refl wr.heap.size wr).drew)
   clear hc hy hyd HR hB
   go_wp2_with fail
   by_cases h0 : findD y0 0 ds < 0
   ·have hi0 : inD ds y0 = false := by unfold inD; exact decide_eq_false (by omega)
    have HE : Eqn ans false := by rw [Eqn, HRR.out]; simp [hi0]
    have g0 : decide (findD y0 0 ds < 0) = true := decide_eq_true h0
    clear HRR hi0 h0
    refine Lx.region (C := fun X => Below wr.heap.size wr X) (hs := []) (by kernel_rfl) (by kernel_rfl) HDR.out ?_
    repeat' (first | ((first | refine Lx.ln (fun K hK => ?_) | (first | (refine Lx.lp (v := ?_) ?_ (fun K hK => ?_); rotate_left 1; intro w' hCw; try dsimp only at hCw) | (refine Lx.lr (v := ?_) ?_ (fun K hK => ?_); rotate_left 1)); go_simp; first | done | with_reducible rfl); go_simp; refine hK _ ?_; clear hK K) | (refine Lx.le (fun K hK => ?_); go_simp; (first | (go_at_call_of 31 (Value.int .i64 y0); refine (HFW.out y0 _ HDR.out).mono ?_; rintro e Wx ⟨rfl, hbx⟩; have hbx1 : Below wr.heap.size wr Wx := HDR.out.trans (hbx.mono HDR.out.size))); refine hK _ _ (hbx1) ?_; clear hK K))
    all_goals (refine Lx.lex_nil ?_)
    go_wp2_with fail
    exact HRT.out _ _ _ _ _ _ _ _ _ _ _ _ _ _ _ _ _ _ _ _ _ _ _ _ _ _ _ _ _ _ _ _ HE (HB.out.trans (hbx1.mono hbs))
   have hi0 : inD ds y0 = true := by unfold inD; exact decide_eq_true (by omega)
   have g0 : decide (findD y0 0 ds < 0) = false := decide_eq_false h0
   clear h0
   by_cases h1 : findD y1 0 ds < 0
   ·have hi1 : inD ds y1 = false := by unfold inD; exact decide_eq_false (by omega)
    have HE : Eqn ans false := by rw [Eqn, HRR.out]; simp [hi1]
    have g1 : decide (findD y1 0 ds < 0) = true := decide_eq_true h1
    clear HRR hi0 hi1 h1
    refine Lx.region (C := fun X => Below wr.heap.size wr X) (hs := []) (by kernel_rfl) (by kernel_rfl) HDR.out ?_
    repeat' (first | ((first | refine Lx.ln (fun K hK => ?_) | (first | (refine Lx.lp (v := ?_) ?_ (fun K hK => ?_); rotate_left 1; intro w' hCw; try dsimp only at hCw) | (refine Lx.lr (v := ?_) ?_ (fun K hK => ?_); rotate_left 1)); go_simp; first | done | with_reducible rfl); go_simp; refine hK _ ?_; clear hK K) | (refine Lx.le (fun K hK => ?_); go_simp; (first | (go_at_call_of 31 (Value.int .i64 y0); refine (HFW.out y0 _ HDR.out).mono ?_; rintro e Wx ⟨rfl, hbx⟩; have hbx1 : Below wr.heap.size wr Wx := HDR.out.trans (hbx.mono HDR.out.size); have E1 := HE1.out _ hbx1; obtain ⟨t0, t1, t2, t3, t4⟩ := HCW.out _ hbx1; have t5 : b < Wx.heap.size := Nat.lt_of_lt_of_le hbw hbx1.size) | (go_at_call_of 31 (Value.int .i64 y1); refine (HFW.out y1 _ hbx1).mono ?_; rintro e Wy ⟨rfl, hby⟩; have hby1 : Below wr.heap.size wr Wy := hbx1.trans (hby.mono hbx1.size))); refine hK _ _ (by first | exact hby1 | exact hbx1) ?_; clear hK K))
    all_goals (refine Lx.lex_nil ?_)
    go_wp2_with fail
    exact HRT.out _ _ _ _ _ _ _ _ _ _ _ _ _ _ _ _ _ _ _ _ _ _ _ _ _ _ _ _ _ _ _ _ HE (HB.out.trans (hby1.mono hbs))
   ·have hi1 : inD ds y1 = true := by unfold inD; exact decide_eq_true (by omega)
    have g1 : decide (findD y1 0 ds < 0) = false := decide_eq_false h1
    have HN : Eqn ans ((l.drop (k + 1)).all (fun x => inD ds x.a && inD ds x.b) && rest) := by rw [Eqn, HRR.out]; simp [hi0, hi1]
    clear HRR hi0 hi1 h1
    refine Lx.region (C := fun X => Below wr.heap.size wr X) (hs := []) (by kernel_rfl) (by kernel_rfl) HDR.out ?_
    repeat' (first | ((first | refine Lx.ln (fun K hK => ?_) | (first | (refine Lx.lp (v := ?_) ?_ (fun K hK => ?_); rotate_left 1; intro w' hCw; try dsimp only at hCw) | (refine Lx.lr (v := ?_) ?_ (fun K hK => ?_); rotate_left 1)); go_simp; first | done | with_reducible rfl); go_simp; refine hK _ ?_; clear hK K) | (refine Lx.le (fun K hK => ?_); go_simp; (first | (go_at_call_of 31 (Value.int .i64 y0); refine (HFW.out y0 _ HDR.out).mono ?_; rintro e Wx ⟨rfl, hbx⟩; have hbx1 : Below wr.heap.size wr Wx := HDR.out.trans (hbx.mono HDR.out.size); have E1 := HE1.out _ hbx1; obtain ⟨t0, t1, t2, t3, t4⟩ := HCW.out _ hbx1; have t5 : b < Wx.heap.size := Nat.lt_of_lt_of_le hbw hbx1.size) | (go_at_call_of 31 (Value.int .i64 y1); refine (HFW.out y1 _ hbx1).mono ?_; rintro e Wy ⟨rfl, hby⟩; have hby1 : Below wr.heap.size wr Wy := hbx1.trans (hby.mono hbx1.size))); refine hK _ _ (by first | exact hby1 | exact hbx1) ?_; clear hK K))
    all_goals (refine Lx.lex_nil ?_)
    go_wp2_with fail
    go_roundw
    case rel => exact ⟨k + 1, hlt, by go_num, HN, HB.out.trans (hby1.mono hbs)⟩
    case measure => simp [intOf]; omega
  ·obtain rfl : k = n0 := by omega
   have HNEXT : Eqn ans rest := by rw [Eqn, HR.out, drop_end (by rw [Hll.out]; omega)]; rfl
   clear hB HR hlt hk
   go_wp2_with fail
   exact HQ.out _ _ _ _ _ _ _ _ _ _ _ _ _ _ _ _ _ _ _ _ _ _ _ _ _ _ _ _ _ _ _ _ _ HNEXT HB.out
theorem vd_loads (w W0 wi : World) (A : Option Addr) (n c : Nat) (A0 A1 A2 : Option Addr) (n0 c0 n1 c1 n2 c2 : Nat) (ds : List Dom) (ans rest : Bool) (hn : n ≤ 512) (h : DomsAt W0 W0.heap.size A n ds)
  (hx : Blk W0 w.heap.size 29 [.slice A n c, .slice A0 n0 c0, .slice A1 n1 c1, .slice A2 n2 c2]) (l : List R5) (hlr : RowS 5 R5.cell W0 W0.heap.size A1 n1 l) (hln : n1 ≤ 4096) (hans : Eqn ans (l.all (fun x => inD ds x.a && inD ds x.b) && rest)) (hwi : Below W0.heap.size W0 wi)
  (x_0 x_2 x_3 x_4 x_5 x_6 x_8 x_9 x_10 x_11 x_12 x_13 x_14 x_15 x_16 x_17 x_18 x_19 x_20 x_21 x_22 x_23 x_24 x_25 x_26 x_27 x_28 x_29 x_30 x_31 x_32 x_33 x_34 x_35 x_36 x_37 x_38 x_39 x_40 x_41 x_42 x_43 x_44 x_45 x_46 x_47 x_48 x_49 x_50 x_51 x_52 x_53 x_54 x_55 x_56 x_57 x_58 x_59 x_60 x_61 x_62 x_63 x_64 x_65 x_66 x_67 x_68 x_69 x_70 x_71 x_72 x_73 x_74 x_75 x_76 x_77 x_78 x_79 x_80 x_81 x_82 x_83 x_84 x_85 x_86 x_87 x_88 x_89 x_90 x_91 x_92 x_93 x_94 x_95 x_96 x_97 x_98 x_99 x_100 x_101 x_102 x_103 x_104 x_105 x_106 x_107 x_108 x_109 x_110 x_111 x_112 x_113 x_114 x_115 x_116 x_117 x_118 x_119 x_120 x_121 x_122 x_123 x_124 x_125 x_126 x_127 x_128 x_129 x_130 x_131 x_132 x_133 x_134 x_135 x_136 x_137 x_138 x_139 x_140 x_141 x_142 x_143 x_144 x_145 x_146 x_147 x_148 x_149 x_150 x_151 x_152 x_153 x_154 x_155 x_156 x_157 x_158 x_159 x_160 x_161 x_162 x_163 x_164 x_165 x_166 x_167 x_168 x_169 x_170 x_171 x_172 x_173 : Value) (Q : Exit → Act → World → Prop)
  (hQ : ∀ (u2 u7 u126 u127 u128 u129 u130 u131 u132 u133 u134 u135 u136 u137 u138 u139 u140 u141 u142 u143 u144 u145 u146 u147 u148 u149 u150 u151 u152 u153 u154 u155 : Value) (w' : World), Eqn ans rest → Below W0.heap.size W0 w' → Q (.exit 6) ⟨List.toArray (x_0 :: Value.pointer (some ⟨w.heap.size, 0, none⟩) :: u2 :: x_3 :: x_4 :: x_5 :: x_6 :: u7 :: x_8 :: x_9 :: x_10 :: x_11 :: x_12 :: x_13 :: x_14 :: x_15 :: x_16 :: x_17 :: x_18 :: x_19 :: x_20 :: x_21 :: x_22 :: x_23 :: x_24 :: x_25 :: x_26 :: x_27 :: x_28 :: x_29 :: x_30 :: x_31 :: x_32 :: x_33 :: x_34 :: x_35 :: x_36 :: x_37 :: x_38 :: x_39 :: x_40 :: x_41 :: x_42 :: x_43 :: x_44 :: x_45 :: x_46 :: x_47 :: x_48 :: x_49 :: x_50 :: x_51 :: x_52 :: x_53 :: x_54 :: x_55 :: x_56 :: x_57 :: x_58 :: x_59 :: x_60 :: x_61 :: x_62 :: x_63 :: x_64 :: x_65 :: x_66 :: x_67 :: x_68 :: x_69 :: x_70 :: x_71 :: x_72 :: x_73 :: x_74 :: x_75 :: x_76 :: x_77 :: x_78 :: x_79 :: x_80 :: x_81 :: x_82 :: x_83 :: x_84 :: x_85 :: x_86 :: x_87 :: x_88 :: x_89 :: x_90 :: x_91 :: x_92 :: x_93 :: x_94 :: x_95 :: x_96 :: x_97 :: x_98 :: x_99 :: x_100 :: x_101 :: x_102 :: x_103 :: x_104 :: x_105 :: x_106 :: x_107 :: x_108 :: x_109 :: x_110 :: x_111 :: x_112 :: x_113 :: x_114 :: x_115 :: x_116 :: x_117 :: x_118 :: x_119 :: x_120 :: x_121 :: x_122 :: x_123 :: x_124 :: x_125 :: u126 :: u127 :: u128 :: u129 :: u130 :: u131 :: u132 :: u133 :: u134 :: u135 :: u136 :: u137 :: u138 :: u139 :: u140 :: u141 :: u142 :: u143 :: u144 :: u145 :: u146 :: u147 :: u148 :: u149 :: u150 :: u151 :: u152 :: u153 :: u154 :: u155 :: x_156 :: x_157 :: x_158 :: x_159 :: x_160 :: x_161 :: x_162 :: x_163 :: x_164 :: x_165 :: x_166 :: x_167 :: x_168 :: x_169 :: x_170 :: x_171 :: x_172 :: x_173 :: []), []⟩ w')
  (hR : ∀ (u7 u126 u127 u128 u129 u130 u131 u132 u133 u134 u135 u136 u137 u138 u139 u140 u141 u142 u143 u144 u145 u146 u147 u148 u149 u150 u151 u152 u153 u154 u155 : Value) (w' : World), Eqn ans false → Below W0.heap.size W0 w' → Q .ret ⟨List.toArray (x_0 :: Value.pointer (some ⟨w.heap.size, 0, none⟩) :: Value.bool false :: x_3 :: x_4 :: x_5 :: x_6 :: u7 :: x_8 :: x_9 :: x_10 :: x_11 :: x_12 :: x_13 :: x_14 :: x_15 :: x_16 :: x_17 :: x_18 :: x_19 :: x_20 :: x_21 :: x_22 :: x_23 :: x_24 :: x_25 :: x_26 :: x_27 :: x_28 :: x_29 :: x_30 :: x_31 :: x_32 :: x_33 :: x_34 :: x_35 :: x_36 :: x_37 :: x_38 :: x_39 :: x_40 :: x_41 :: x_42 :: x_43 :: x_44 :: x_45 :: x_46 :: x_47 :: x_48 :: x_49 :: x_50 :: x_51 :: x_52 :: x_53 :: x_54 :: x_55 :: x_56 :: x_57 :: x_58 :: x_59 :: x_60 :: x_61 :: x_62 :: x_63 :: x_64 :: x_65 :: x_66 :: x_67 :: x_68 :: x_69 :: x_70 :: x_71 :: x_72 :: x_73 :: x_74 :: x_75 :: x_76 :: x_77 :: x_78 :: x_79 :: x_80 :: x_81 :: x_82 :: x_83 :: x_84 :: x_85 :: x_86 :: x_87 :: x_88 :: x_89 :: x_90 :: x_91 :: x_92 :: x_93 :: x_94 :: x_95 :: x_96 :: x_97 :: x_98 :: x_99 :: x_100 :: x_101 :: x_102 :: x_103 :: x_104 :: x_105 :: x_106 :: x_107 :: x_108 :: x_109 :: x_110 :: x_111 :: x_112 :: x_113 :: x_114 :: x_115 :: x_116 :: x_117 :: x_118 :: x_119 :: x_120 :: x_121 :: x_122 :: x_123 :: x_124 :: x_125 :: u126 :: u127 :: u128 :: u129 :: u130 :: u131 :: u132 :: u133 :: u134 :: u135 :: u136 :: u137 :: u138 :: u139 :: u140 :: u141 :: u142 :: u143 :: u144 :: u145 :: u146 :: u147 :: u148 :: u149 :: u150 :: u151 :: u152 :: u153 :: u154 :: u155 :: x_156 :: x_157 :: x_158 :: x_159 :: x_160 :: x_161 :: x_162 :: x_163 :: x_164 :: x_165 :: x_166 :: x_167 :: x_168 :: x_169 :: x_170 :: x_171 :: x_172 :: x_173 :: []), []⟩ w') :
  Code.wp Tryz.prog (Code.loop (vdLoop 3)) Q ⟨List.toArray (x_0 :: Value.pointer (some ⟨w.heap.size, 0, none⟩) :: x_2 :: x_3 :: x_4 :: x_5 :: x_6 :: Value.int .i64 0 :: x_8 :: x_9 :: x_10 :: x_11 :: x_12 :: x_13 :: x_14 :: x_15 :: x_16 :: x_17 :: x_18 :: x_19 :: x_20 :: x_21 :: x_22 :: x_23 :: x_24 :: x_25 :: x_26 :: x_27 :: x_28 :: x_29 :: x_30 :: x_31 :: x_32 :: x_33 :: x_34 :: x_35 :: x_36 :: x_37 :: x_38 :: x_39 :: x_40 :: x_41 :: x_42 :: x_43 :: x_44 :: x_45 :: x_46 :: x_47 :: x_48 :: x_49 :: x_50 :: x_51 :: x_52 :: x_53 :: x_54 :: x_55 :: x_56 :: x_57 :: x_58 :: x_59 :: x_60 :: x_61 :: x_62 :: x_63 :: x_64 :: x_65 :: x_66 :: x_67 :: x_68 :: x_69 :: x_70 :: x_71 :: x_72 :: x_73 :: x_74 :: x_75 :: x_76 :: x_77 :: x_78 :: x_79 :: x_80 :: x_81 :: x_82 :: x_83 :: x_84 :: x_85 :: x_86 :: x_87 :: x_88 :: x_89 :: x_90 :: x_91 :: x_92 :: x_93 :: x_94 :: x_95 :: x_96 :: x_97 :: x_98 :: x_99 :: x_100 :: x_101 :: x_102 :: x_103 :: x_104 :: x_105 :: x_106 :: x_107 :: x_108 :: x_109 :: x_110 :: x_111 :: x_112 :: x_113 :: x_114 :: x_115 :: x_116 :: x_117 :: x_118 :: x_119 :: x_120 :: x_121 :: x_122 :: x_123 :: x_124 :: x_125 :: x_126 :: x_127 :: x_128 :: x_129 :: x_130 :: x_131 :: x_132 :: x_133 :: x_134 :: x_135 :: x_136 :: x_137 :: x_138 :: x_139 :: x_140 :: x_141 :: x_142 :: x_143 :: x_144 :: x_145 :: x_146 :: x_147 :: x_148 :: x_149 :: x_150 :: x_151 :: x_152 :: x_153 :: x_154 :: x_155 :: x_156 :: x_157 :: x_158 :: x_159 :: x_160 :: x_161 :: x_162 :: x_163 :: x_164 :: x_165 :: x_166 :: x_167 :: x_168 :: x_169 :: x_170 :: x_171 :: x_172 :: x_173 :: []), []⟩ wi := by
 have HQ := Lib.hid hQ
 have HRT := Lib.hid hR
 have HX := Lib.hid hx
 have HC : Hid (∀ W, Below W0.heap.size W0 W → W.cell? ⟨w.heap.size, 0, none⟩ = some (.slice A n c) ∧ W.cell? ⟨w.heap.size, 1, none⟩ = some (.slice A0 n0 c0) ∧ W.cell? ⟨w.heap.size, 2, none⟩ = some (.slice A1 n1 c1) ∧ W.cell? ⟨w.heap.size, 3, none⟩ = some (.slice A2 n2 c2)) := Lib.hid (fun W hb => ⟨(hx.keep hb).cell rfl, (hx.keep hb).cell rfl, (hx.keep hb).cell rfl, (hx.keep hb).cell rfl⟩)
 have HH := Lib.hid h
 have Hlen := Eqn.mk h.1.1
 have HST := Lib.hid (fun n w => rst_any n w)
 have HANS := hans
 have B0 := Lib.hid hwi
 have HLR := Lib.hid hlr
 have Hll := Eqn.mk hlr.1
 have HFD : Hid (∀ (x : Int) W, Below W0.heap.size W0 W → Calls Tryz.prog 31 #[.agg #[.slice A n c, .slice A0 n0 c0, .slice A1 n1 c1, .slice A2 n2 c2], .int .i64 x] W (RetPost (.int .i64 (findD x 0 ds)) W.heap.size W)) := Lib.hid (fun x W hW => rfind_any ⟨A, n, c, ⟨A0, n0, c0, A1, n1, c1, A2, n2, c2⟩⟩ x W ds (by dsimp only; omega) (h.keep hW))
 clear h hx hans hwi hQ hR hlr
 conv => arg 2; arg 1; whnf
 go_loopw [7] (fun i wr => ∃ k : Nat, k ≤ n1 ∧ i = .int .i64 k ∧ Eqn ans ((l.drop k).all (fun x => inD ds x.a && inD ds x.b) && rest) ∧ Below W0.heap.size W0 wr) (fun i _ => n1 - (intOf i).toNat)
 case atStart => exact ⟨0, Nat.zero_le _, rfl, HANS, B0.out⟩
 case round =>
  clear HANS
  obtain ⟨k, hk, rfl, HR, hB⟩ := hrel
  have HB := Lib.hid hB
  have hbs := hB.size
  obtain ⟨b0, b1, b2, b3⟩ := HC.out _ hB
  have hwr : w.heap.size < wr.heap.size := (HX.out.keep hB).lt
  by_cases hlt : k < n1
  ·obtain ⟨y, hy, hyd⟩ := drop_at (xs := l) (k := k) (by rw [Hll.out]; exact hlt)
   obtain ⟨b, off, hA, hbl, hc⟩ := (HLR.out.below hB).2 (by omega)
   subst hA
   have HRR : Eqn ans ((fun x => inD ds x.a && inD ds x.b) y && ((l.drop (k + 1)).all (fun x => inD ds x.a && inD ds x.b) && rest)) := by rw [Eqn, HR.out, hyd, List.all_cons, Bool.and_assoc]
   have e0 := hc k y hy 0 (by omega)
   have hbw : b < wr.heap.size := by omega
   have j0 : (k : Int) < (n1 : Int) := by omega
   have HE1 : Hid (∀ W, Below wr.heap.size wr W → W.cell? ⟨b, off + k * 5 + 1, none⟩ = some (.int .i64 y.b)) := Lib.hid (fun W hW => (hW.cell (p := ⟨b, off + k * 5 + 1, none⟩) hbw).trans (hc k y hy 1 (by omega)))
   have HCW : Hid (∀ W, Below wr.heap.size wr W → W.cell? ⟨w.heap.size, 0, none⟩ = some (.slice A n c) ∧ W.cell? ⟨w.heap.size, 1, none⟩ = some (.slice A0 n0 c0) ∧ W.cell? ⟨w.heap.size, 2, none⟩ = some (.slice (some ⟨b, off, none⟩) n1 c1) ∧ W.cell? ⟨w.heap.size, 3, none⟩ = some (.slice A2 n2 c2) ∧ w.heap.size < W.heap.size) := Lib.hid (fun W hW => by
    have hb := HB.out.trans (hW.mono hbs)
    obtain ⟨q0, q1, q2, q3⟩ := HC.out W hb
    exact ⟨q0, q1, q2, q3, (HX.out.keep hb).lt⟩)
   obtain ⟨y0, y1, y2, y3, y4⟩ := y
   simp only [R5.cell, Nat.add_zero] at e0
   dsimp only at *
   have HFW : Hid (∀ (x : Int) W, Below wr.heap.size wr W → Calls Tryz.prog 31 #[.agg #[.slice A n c, .slice A0 n0 c0, .slice (some ⟨b, off, none⟩) n1 c1, .slice A2 n2 c2], .int .i64 x] W (RetPost (.int .i64 (findD x 0 ds)) W.heap.size W)) := Lib.hid (fun x W hW => HFD.out x W (HB.out.trans (hW.mono hbs)))
   have HDR := Lib.hid ((Below.refl wr.heap.size wr).drew)
   clear hc hy hyd HR hB
   go_wp2_with fail
   by_cases h0 : findD y0 0 ds < 0
   ·have hi0 : inD ds y0 = false := by unfold inD; exact decide_eq_false (by omega)
    have HE : Eqn ans false := by rw [Eqn, HRR.out]; simp [hi0]
    have g0 : decide (findD y0 0 ds < 0) = true := decide_eq_true h0
    clear HRR hi0 h0
    refine Lx.region (C := fun X => Below wr.heap.size wr X) (hs := []) (by kernel_rfl) (by kernel_rfl) HDR.out ?_
    repeat' (first | ((first | refine Lx.ln (fun K hK => ?_) | (first | (refine Lx.lp (v := ?_) ?_ (fun K hK => ?_); rotate_left 1; intro w' hCw; try dsimp only at hCw) | (refine Lx.lr (v := ?_) ?_ (fun K hK => ?_); rotate_left 1)); go_simp; first | done | with_reducible rfl); go_simp; refine hK _ ?_; clear hK K) | (refine Lx.le (fun K hK => ?_); go_simp; (first | (go_at_call_of 31 (Value.int .i64 y0); refine (HFW.out y0 _ HDR.out).mono ?_; rintro e Wx ⟨rfl, hbx⟩; have hbx1 : Below wr.heap.size wr Wx := HDR.out.trans (hbx.mono HDR.out.size))); refine hK _ _ (hbx1) ?_; clear hK K))
    all_goals (refine Lx.lex_nil ?_)
    go_wp2_with fail
    exact HRT.out _ _ _ _ _ _ _ _ _ _ _ _ _ _ _ _ _ _ _ _ _ _ _ _ _ _ _ _ _ _ _ _ HE (HB.out.trans (hbx1.mono hbs))
   have hi0 : inD ds y0 = true := by unfold inD; exact decide_eq_true (by omega)
   have g0 : decide (findD y0 0 ds < 0) = false := decide_eq_false h0
   clear h0
   by_cases h1 : findD y1 0 ds < 0
   ·have hi1 : inD ds y1 = false := by unfold inD; exact decide_eq_false (by omega)
    have HE : Eqn ans false := by rw [Eqn, HRR.out]; simp [hi1]
    have g1 : decide (findD y1 0 ds < 0) = true := decide_eq_true h1
    clear HRR hi0 hi1 h1
    refine Lx.region (C := fun X => Below wr.heap.size wr X) (hs := []) (by kernel_rfl) (by kernel_rfl) HDR.out ?_
    repeat' (first | ((first | refine Lx.ln (fun K hK => ?_) | (first | (refine Lx.lp (v := ?_) ?_ (fun K hK => ?_); rotate_left 1; intro w' hCw; try dsimp only at hCw) | (refine Lx.lr (v := ?_) ?_ (fun K hK => ?_); rotate_left 1)); go_simp; first | done | with_reducible rfl); go_simp; refine hK _ ?_; clear hK K) | (refine Lx.le (fun K hK => ?_); go_simp; (first | (go_at_call_of 31 (Value.int .i64 y0); refine (HFW.out y0 _ HDR.out).mono ?_; rintro e Wx ⟨rfl, hbx⟩; have hbx1 : Below wr.heap.size wr Wx := HDR.out.trans (hbx.mono HDR.out.size); have E1 := HE1.out _ hbx1; obtain ⟨t0, t1, t2, t3, t4⟩ := HCW.out _ hbx1; have t5 : b < Wx.heap.size := Nat.lt_of_lt_of_le hbw hbx1.size) | (go_at_call_of 31 (Value.int .i64 y1); refine (HFW.out y1 _ hbx1).mono ?_; rintro e Wy ⟨rfl, hby⟩; have hby1 : Below wr.heap.size wr Wy := hbx1.trans (hby.mono hbx1.size))); refine hK _ _ (by first | exact hby1 | exact hbx1) ?_; clear hK K))
    all_goals (refine Lx.lex_nil ?_)
    go_wp2_with fail
    exact HRT.out _ _ _ _ _ _ _ _ _ _ _ _ _ _ _ _ _ _ _ _ _ _ _ _ _ _ _ _ _ _ _ _ HE (HB.out.trans (hby1.mono hbs))
   ·have hi1 : inD ds y1 = true := by unfold inD; exact decide_eq_true (by omega)
    have g1 : decide (findD y1 0 ds < 0) = false := decide_eq_false h1
    have HN : Eqn ans ((l.drop (k + 1)).all (fun x => inD ds x.a && inD ds x.b) && rest) := by rw [Eqn, HRR.out]; simp [hi0, hi1]
    clear HRR hi0 hi1 h1
    refine Lx.region (C := fun X => Below wr.heap.size wr X) (hs := []) (by kernel_rfl) (by kernel_rfl) HDR.out ?_
    repeat' (first | ((first | refine Lx.ln (fun K hK => ?_) | (first | (refine Lx.lp (v := ?_) ?_ (fun K hK => ?_); rotate_left 1; intro w' hCw; try dsimp only at hCw) | (refine Lx.lr (v := ?_) ?_ (fun K hK => ?_); rotate_left 1)); go_simp; first | done | with_reducible rfl); go_simp; refine hK _ ?_; clear hK K) | (refine Lx.le (fun K hK => ?_); go_simp; (first | (go_at_call_of 31 (Value.int .i64 y0); refine (HFW.out y0 _ HDR.out).mono ?_; rintro e Wx ⟨rfl, hbx⟩; have hbx1 : Below wr.heap.size wr Wx := HDR.out.trans (hbx.mono HDR.out.size); have E1 := HE1.out _ hbx1; obtain ⟨t0, t1, t2, t3, t4⟩ := HCW.out _ hbx1; have t5 : b < Wx.heap.size := Nat.lt_of_lt_of_le hbw hbx1.size) | (go_at_call_of 31 (Value.int .i64 y1); refine (HFW.out y1 _ hbx1).mono ?_; rintro e Wy ⟨rfl, hby⟩; have hby1 : Below wr.heap.size wr Wy := hbx1.trans (hby.mono hbx1.size))); refine hK _ _ (by first | exact hby1 | exact hbx1) ?_; clear hK K))
    all_goals (refine Lx.lex_nil ?_)
    go_wp2_with fail
    go_roundw
    case rel => exact ⟨k + 1, hlt, by go_num, HN, HB.out.trans (hby1.mono hbs)⟩
    case measure => simp [intOf]; omega
  ·obtain rfl : k = n1 := by omega
   have HNEXT : Eqn ans rest := by rw [Eqn, HR.out, drop_end (by rw [Hll.out]; omega)]; rfl
   clear hB HR hlt hk
   go_wp2_with fail
   exact HQ.out _ _ _ _ _ _ _ _ _ _ _ _ _ _ _ _ _ _ _ _ _ _ _ _ _ _ _ _ _ _ _ _ _ HNEXT HB.out
theorem vd_caps (w W0 wi : World) (A : Option Addr) (n c : Nat) (A0 A1 A2 : Option Addr) (n0 c0 n1 c1 n2 c2 : Nat) (ds : List Dom) (ans rest : Bool) (hn : n ≤ 512) (h : DomsAt W0 W0.heap.size A n ds)
  (hx : Blk W0 w.heap.size 29 [.slice A n c, .slice A0 n0 c0, .slice A1 n1 c1, .slice A2 n2 c2]) (l : List R4) (hlr : RowS 4 R4.cell W0 W0.heap.size A2 n2 l) (hln : n2 ≤ 4096) (hans : Eqn ans (l.all (fun x => inD ds x.a) && rest)) (hwi : Below W0.heap.size W0 wi)
  (x_0 x_2 x_3 x_4 x_5 x_6 x_7 x_9 x_10 x_11 x_12 x_13 x_14 x_15 x_16 x_17 x_18 x_19 x_20 x_21 x_22 x_23 x_24 x_25 x_26 x_27 x_28 x_29 x_30 x_31 x_32 x_33 x_34 x_35 x_36 x_37 x_38 x_39 x_40 x_41 x_42 x_43 x_44 x_45 x_46 x_47 x_48 x_49 x_50 x_51 x_52 x_53 x_54 x_55 x_56 x_57 x_58 x_59 x_60 x_61 x_62 x_63 x_64 x_65 x_66 x_67 x_68 x_69 x_70 x_71 x_72 x_73 x_74 x_75 x_76 x_77 x_78 x_79 x_80 x_81 x_82 x_83 x_84 x_85 x_86 x_87 x_88 x_89 x_90 x_91 x_92 x_93 x_94 x_95 x_96 x_97 x_98 x_99 x_100 x_101 x_102 x_103 x_104 x_105 x_106 x_107 x_108 x_109 x_110 x_111 x_112 x_113 x_114 x_115 x_116 x_117 x_118 x_119 x_120 x_121 x_122 x_123 x_124 x_125 x_126 x_127 x_128 x_129 x_130 x_131 x_132 x_133 x_134 x_135 x_136 x_137 x_138 x_139 x_140 x_141 x_142 x_143 x_144 x_145 x_146 x_147 x_148 x_149 x_150 x_151 x_152 x_153 x_154 x_155 x_156 x_157 x_158 x_159 x_160 x_161 x_162 x_163 x_164 x_165 x_166 x_167 x_168 x_169 x_170 x_171 x_172 x_173 : Value) (Q : Exit → Act → World → Prop)
  (hQ : ∀ (u2 u8 u156 u157 u158 u159 u160 u161 u162 u163 u164 u165 u166 u167 u168 u169 u170 u171 u172 u173 : Value) (w' : World), Eqn ans rest → Below W0.heap.size W0 w' → Q (.exit 8) ⟨List.toArray (x_0 :: Value.pointer (some ⟨w.heap.size, 0, none⟩) :: u2 :: x_3 :: x_4 :: x_5 :: x_6 :: x_7 :: u8 :: x_9 :: x_10 :: x_11 :: x_12 :: x_13 :: x_14 :: x_15 :: x_16 :: x_17 :: x_18 :: x_19 :: x_20 :: x_21 :: x_22 :: x_23 :: x_24 :: x_25 :: x_26 :: x_27 :: x_28 :: x_29 :: x_30 :: x_31 :: x_32 :: x_33 :: x_34 :: x_35 :: x_36 :: x_37 :: x_38 :: x_39 :: x_40 :: x_41 :: x_42 :: x_43 :: x_44 :: x_45 :: x_46 :: x_47 :: x_48 :: x_49 :: x_50 :: x_51 :: x_52 :: x_53 :: x_54 :: x_55 :: x_56 :: x_57 :: x_58 :: x_59 :: x_60 :: x_61 :: x_62 :: x_63 :: x_64 :: x_65 :: x_66 :: x_67 :: x_68 :: x_69 :: x_70 :: x_71 :: x_72 :: x_73 :: x_74 :: x_75 :: x_76 :: x_77 :: x_78 :: x_79 :: x_80 :: x_81 :: x_82 :: x_83 :: x_84 :: x_85 :: x_86 :: x_87 :: x_88 :: x_89 :: x_90 :: x_91 :: x_92 :: x_93 :: x_94 :: x_95 :: x_96 :: x_97 :: x_98 :: x_99 :: x_100 :: x_101 :: x_102 :: x_103 :: x_104 :: x_105 :: x_106 :: x_107 :: x_108 :: x_109 :: x_110 :: x_111 :: x_112 :: x_113 :: x_114 :: x_115 :: x_116 :: x_117 :: x_118 :: x_119 :: x_120 :: x_121 :: x_122 :: x_123 :: x_124 :: x_125 :: x_126 :: x_127 :: x_128 :: x_129 :: x_130 :: x_131 :: x_132 :: x_133 :: x_134 :: x_135 :: x_136 :: x_137 :: x_138 :: x_139 :: x_140 :: x_141 :: x_142 :: x_143 :: x_144 :: x_145 :: x_146 :: x_147 :: x_148 :: x_149 :: x_150 :: x_151 :: x_152 :: x_153 :: x_154 :: x_155 :: u156 :: u157 :: u158 :: u159 :: u160 :: u161 :: u162 :: u163 :: u164 :: u165 :: u166 :: u167 :: u168 :: u169 :: u170 :: u171 :: u172 :: u173 :: []), []⟩ w')
  (hR : ∀ (u8 u156 u157 u158 u159 u160 u161 u162 u163 u164 u165 u166 u167 u168 u169 u170 u171 u172 u173 : Value) (w' : World), Eqn ans false → Below W0.heap.size W0 w' → Q .ret ⟨List.toArray (x_0 :: Value.pointer (some ⟨w.heap.size, 0, none⟩) :: Value.bool false :: x_3 :: x_4 :: x_5 :: x_6 :: x_7 :: u8 :: x_9 :: x_10 :: x_11 :: x_12 :: x_13 :: x_14 :: x_15 :: x_16 :: x_17 :: x_18 :: x_19 :: x_20 :: x_21 :: x_22 :: x_23 :: x_24 :: x_25 :: x_26 :: x_27 :: x_28 :: x_29 :: x_30 :: x_31 :: x_32 :: x_33 :: x_34 :: x_35 :: x_36 :: x_37 :: x_38 :: x_39 :: x_40 :: x_41 :: x_42 :: x_43 :: x_44 :: x_45 :: x_46 :: x_47 :: x_48 :: x_49 :: x_50 :: x_51 :: x_52 :: x_53 :: x_54 :: x_55 :: x_56 :: x_57 :: x_58 :: x_59 :: x_60 :: x_61 :: x_62 :: x_63 :: x_64 :: x_65 :: x_66 :: x_67 :: x_68 :: x_69 :: x_70 :: x_71 :: x_72 :: x_73 :: x_74 :: x_75 :: x_76 :: x_77 :: x_78 :: x_79 :: x_80 :: x_81 :: x_82 :: x_83 :: x_84 :: x_85 :: x_86 :: x_87 :: x_88 :: x_89 :: x_90 :: x_91 :: x_92 :: x_93 :: x_94 :: x_95 :: x_96 :: x_97 :: x_98 :: x_99 :: x_100 :: x_101 :: x_102 :: x_103 :: x_104 :: x_105 :: x_106 :: x_107 :: x_108 :: x_109 :: x_110 :: x_111 :: x_112 :: x_113 :: x_114 :: x_115 :: x_116 :: x_117 :: x_118 :: x_119 :: x_120 :: x_121 :: x_122 :: x_123 :: x_124 :: x_125 :: x_126 :: x_127 :: x_128 :: x_129 :: x_130 :: x_131 :: x_132 :: x_133 :: x_134 :: x_135 :: x_136 :: x_137 :: x_138 :: x_139 :: x_140 :: x_141 :: x_142 :: x_143 :: x_144 :: x_145 :: x_146 :: x_147 :: x_148 :: x_149 :: x_150 :: x_151 :: x_152 :: x_153 :: x_154 :: x_155 :: u156 :: u157 :: u158 :: u159 :: u160 :: u161 :: u162 :: u163 :: u164 :: u165 :: u166 :: u167 :: u168 :: u169 :: u170 :: u171 :: u172 :: u173 :: []), []⟩ w') :
  Code.wp Tryz.prog (Code.loop (vdLoop 4)) Q ⟨List.toArray (x_0 :: Value.pointer (some ⟨w.heap.size, 0, none⟩) :: x_2 :: x_3 :: x_4 :: x_5 :: x_6 :: x_7 :: Value.int .i64 0 :: x_9 :: x_10 :: x_11 :: x_12 :: x_13 :: x_14 :: x_15 :: x_16 :: x_17 :: x_18 :: x_19 :: x_20 :: x_21 :: x_22 :: x_23 :: x_24 :: x_25 :: x_26 :: x_27 :: x_28 :: x_29 :: x_30 :: x_31 :: x_32 :: x_33 :: x_34 :: x_35 :: x_36 :: x_37 :: x_38 :: x_39 :: x_40 :: x_41 :: x_42 :: x_43 :: x_44 :: x_45 :: x_46 :: x_47 :: x_48 :: x_49 :: x_50 :: x_51 :: x_52 :: x_53 :: x_54 :: x_55 :: x_56 :: x_57 :: x_58 :: x_59 :: x_60 :: x_61 :: x_62 :: x_63 :: x_64 :: x_65 :: x_66 :: x_67 :: x_68 :: x_69 :: x_70 :: x_71 :: x_72 :: x_73 :: x_74 :: x_75 :: x_76 :: x_77 :: x_78 :: x_79 :: x_80 :: x_81 :: x_82 :: x_83 :: x_84 :: x_85 :: x_86 :: x_87 :: x_88 :: x_89 :: x_90 :: x_91 :: x_92 :: x_93 :: x_94 :: x_95 :: x_96 :: x_97 :: x_98 :: x_99 :: x_100 :: x_101 :: x_102 :: x_103 :: x_104 :: x_105 :: x_106 :: x_107 :: x_108 :: x_109 :: x_110 :: x_111 :: x_112 :: x_113 :: x_114 :: x_115 :: x_116 :: x_117 :: x_118 :: x_119 :: x_120 :: x_121 :: x_122 :: x_123 :: x_124 :: x_125 :: x_126 :: x_127 :: x_128 :: x_129 :: x_130 :: x_131 :: x_132 :: x_133 :: x_134 :: x_135 :: x_136 :: x_137 :: x_138 :: x_139 :: x_140 :: x_141 :: x_142 :: x_143 :: x_144 :: x_145 :: x_146 :: x_147 :: x_148 :: x_149 :: x_150 :: x_151 :: x_152 :: x_153 :: x_154 :: x_155 :: x_156 :: x_157 :: x_158 :: x_159 :: x_160 :: x_161 :: x_162 :: x_163 :: x_164 :: x_165 :: x_166 :: x_167 :: x_168 :: x_169 :: x_170 :: x_171 :: x_172 :: x_173 :: []), []⟩ wi := by
 have HQ := Lib.hid hQ
 have HRT := Lib.hid hR
 have HX := Lib.hid hx
 have HC : Hid (∀ W, Below W0.heap.size W0 W → W.cell? ⟨w.heap.size, 0, none⟩ = some (.slice A n c) ∧ W.cell? ⟨w.heap.size, 1, none⟩ = some (.slice A0 n0 c0) ∧ W.cell? ⟨w.heap.size, 2, none⟩ = some (.slice A1 n1 c1) ∧ W.cell? ⟨w.heap.size, 3, none⟩ = some (.slice A2 n2 c2)) := Lib.hid (fun W hb => ⟨(hx.keep hb).cell rfl, (hx.keep hb).cell rfl, (hx.keep hb).cell rfl, (hx.keep hb).cell rfl⟩)
 have HH := Lib.hid h
 have Hlen := Eqn.mk h.1.1
 have HST := Lib.hid (fun n w => rst_any n w)
 have HANS := hans
 have B0 := Lib.hid hwi
 have HLR := Lib.hid hlr
 have Hll := Eqn.mk hlr.1
 have HFD : Hid (∀ (x : Int) W, Below W0.heap.size W0 W → Calls Tryz.prog 31 #[.agg #[.slice A n c, .slice A0 n0 c0, .slice A1 n1 c1, .slice A2 n2 c2], .int .i64 x] W (RetPost (.int .i64 (findD x 0 ds)) W.heap.size W)) := Lib.hid (fun x W hW => rfind_any ⟨A, n, c, ⟨A0, n0, c0, A1, n1, c1, A2, n2, c2⟩⟩ x W ds (by dsimp only; omega) (h.keep hW))
 clear h hx hans hwi hQ hR hlr
 conv => arg 2; arg 1; whnf
 go_loopw [8] (fun i wr => ∃ k : Nat, k ≤ n2 ∧ i = .int .i64 k ∧ Eqn ans ((l.drop k).all (fun x => inD ds x.a) && rest) ∧ Below W0.heap.size W0 wr) (fun i _ => n2 - (intOf i).toNat)
 case atStart => exact ⟨0, Nat.zero_le _, rfl, HANS, B0.out⟩
 case round =>
  clear HANS
  obtain ⟨k, hk, rfl, HR, hB⟩ := hrel
  have HB := Lib.hid hB
  have hbs := hB.size
  obtain ⟨b0, b1, b2, b3⟩ := HC.out _ hB
  have hwr : w.heap.size < wr.heap.size := (HX.out.keep hB).lt
  by_cases hlt : k < n2
  ·obtain ⟨y, hy, hyd⟩ := drop_at (xs := l) (k := k) (by rw [Hll.out]; exact hlt)
   obtain ⟨b, off, hA, hbl, hc⟩ := (HLR.out.below hB).2 (by omega)
   subst hA
   have HRR : Eqn ans ((fun x => inD ds x.a) y && ((l.drop (k + 1)).all (fun x => inD ds x.a) && rest)) := by rw [Eqn, HR.out, hyd, List.all_cons, Bool.and_assoc]
   have e0 := hc k y hy 0 (by omega)
   have hbw : b < wr.heap.size := by omega
   have j0 : (k : Int) < (n2 : Int) := by omega
   obtain ⟨y0, y1, y2, y3⟩ := y
   simp only [R4.cell, Nat.add_zero] at e0
   dsimp only at *
   have HFW : Hid (∀ (x : Int) W, Below wr.heap.size wr W → Calls Tryz.prog 31 #[.agg #[.slice A n c, .slice A0 n0 c0, .slice A1 n1 c1, .slice (some ⟨b, off, none⟩) n2 c2], .int .i64 x] W (RetPost (.int .i64 (findD x 0 ds)) W.heap.size W)) := Lib.hid (fun x W hW => HFD.out x W (HB.out.trans (hW.mono hbs)))
   have HDR := Lib.hid ((Below.refl wr.heap.size wr).drew)
   clear hc hy hyd HR hB
   go_wp2_with fail
   by_cases h0 : findD y0 0 ds < 0
   ·have hi0 : inD ds y0 = false := by unfold inD; exact decide_eq_false (by omega)
    have HE : Eqn ans false := by rw [Eqn, HRR.out]; simp [hi0]
    have g0 : decide (findD y0 0 ds < 0) = true := decide_eq_true h0
    clear HRR hi0 h0
    refine Lx.region (C := fun X => Below wr.heap.size wr X) (hs := []) (by kernel_rfl) (by kernel_rfl) HDR.out ?_
    repeat' (first | ((first | refine Lx.ln (fun K hK => ?_) | (first | (refine Lx.lp (v := ?_) ?_ (fun K hK => ?_); rotate_left 1; intro w' hCw; try dsimp only at hCw) | (refine Lx.lr (v := ?_) ?_ (fun K hK => ?_); rotate_left 1)); go_simp; first | done | with_reducible rfl); go_simp; refine hK _ ?_; clear hK K) | (refine Lx.le (fun K hK => ?_); go_simp; (first | (go_at_call_of 31 (Value.int .i64 y0); refine (HFW.out y0 _ HDR.out).mono ?_; rintro e Wx ⟨rfl, hbx⟩; have hbx1 : Below wr.heap.size wr Wx := HDR.out.trans (hbx.mono HDR.out.size))); refine hK _ _ (hbx1) ?_; clear hK K))
    all_goals (refine Lx.lex_nil ?_)
    go_wp2_with fail
    exact HRT.out _ _ _ _ _ _ _ _ _ _ _ _ _ _ _ _ _ _ _ _ HE (HB.out.trans (hbx1.mono hbs))
   have hi0 : inD ds y0 = true := by unfold inD; exact decide_eq_true (by omega)
   have g0 : decide (findD y0 0 ds < 0) = false := decide_eq_false h0
   clear h0
   have HN : Eqn ans ((l.drop (k + 1)).all (fun x => inD ds x.a) && rest) := by rw [Eqn, HRR.out]; simp [hi0]
   clear HRR hi0
   refine Lx.region (C := fun X => Below wr.heap.size wr X) (hs := []) (by kernel_rfl) (by kernel_rfl) HDR.out ?_
   repeat' (first | ((first | refine Lx.ln (fun K hK => ?_) | (first | (refine Lx.lp (v := ?_) ?_ (fun K hK => ?_); rotate_left 1; intro w' hCw; try dsimp only at hCw) | (refine Lx.lr (v := ?_) ?_ (fun K hK => ?_); rotate_left 1)); go_simp; first | done | with_reducible rfl); go_simp; refine hK _ ?_; clear hK K) | (refine Lx.le (fun K hK => ?_); go_simp; (first | (go_at_call_of 31 (Value.int .i64 y0); refine (HFW.out y0 _ HDR.out).mono ?_; rintro e Wx ⟨rfl, hbx⟩; have hbx1 : Below wr.heap.size wr Wx := HDR.out.trans (hbx.mono HDR.out.size))); refine hK _ _ (hbx1) ?_; clear hK K))
   all_goals (refine Lx.lex_nil ?_)
   go_wp2_with fail
   go_roundw
   case rel => exact ⟨k + 1, hlt, by go_num, HN, HB.out.trans (hbx1.mono hbs)⟩
   case measure => simp [intOf]; omega
  ·obtain rfl : k = n2 := by omega
   have HNEXT : Eqn ans rest := by rw [Eqn, HR.out, drop_end (by rw [Hll.out]; omega)]; rfl
   clear hB HR hlt hk
   go_wp2_with fail
   exact HQ.out _ _ _ _ _ _ _ _ _ _ _ _ _ _ _ _ _ _ _ _ _ HNEXT HB.out
theorem rvalid_any (s : PrbS) (w : World) (ds : List Dom) (r : Rul) (hn : s.nd ≤ 9223372036854775807) (h : PrbAt w w.heap.size s ds r) : Calls Tryz.prog 9 #[s.val] w (RetPost (.bool (validR ds r)) w.heap.size w) := by
 obtain ⟨A, n, c, ⟨A0, n0, c0, A1, n1, c1, A2, n2, c2⟩⟩ := s
 obtain ⟨W0, hW0⟩ : ∃ W0, W0 = w.alloc (.cells #[.slice A n c, .slice A0 n0 c0, .slice A1 n1 c1, .slice A2 n2 c2] 29) := ⟨_, rfl⟩
 have HB0 : Hid (Below w.heap.size w W0) := Lib.hid (by rw [hW0]; exact (Below.refl _ w).alloc (Nat.le_refl _) _)
 have h0 : DomsAt W0 W0.heap.size A n ds := h.1.keep HB0.out
 have h1 : RulAt W0 W0.heap.size ⟨A0, n0, c0, A1, n1, c1, A2, n2, c2⟩ r := h.2.keep HB0.out
 have hs0 : W0.heap.size = w.heap.size + 1 := by rw [hW0]; simp
 have hX : Blk W0 w.heap.size 29 [.slice A n c, .slice A0 n0 c0, .slice A1 n1 c1, .slice A2 n2 c2] := by rw [hW0]; exact blk_new w _ _
 have HBW : Hid (∀ W, Below W0.heap.size W0 W → Below w.heap.size w W) := Lib.hid (fun W hb => HB0.out.trans (hb.mono HB0.out.size))
 have HH := Lib.hid h0
 have HR := Lib.hid h1
 have HX := Lib.hid hX
 have Hlen := Eqn.mk h0.1.1
 have HVR : Hid (∀ W, Below W0.heap.size W0 W → Calls Tryz.prog 29 #[.agg #[.slice A0 n0 c0, .slice A1 n1 c1, .slice A2 n2 c2]] W (RetPost (.bool (rulesR r)) W.heap.size W)) := Lib.hid (fun W hW => rrules_any ⟨A0, n0, c0, A1, n1, c1, A2, n2, c2⟩ W r (h1.keep hW))
 have B0 := Lib.hid (Below.refl W0.heap.size W0)
 have q0 : W0.cell? ⟨w.heap.size, 0, none⟩ = some (.slice A n c) := hX.cell rfl
 have q1 : W0.cell? ⟨w.heap.size, 1, none⟩ = some (.slice A0 n0 c0) := hX.cell rfl
 have q2 : W0.cell? ⟨w.heap.size, 2, none⟩ = some (.slice A1 n1 c1) := hX.cell rfl
 have q3 : W0.cell? ⟨w.heap.size, 3, none⟩ = some (.slice A2 n2 c2) := hX.cell rfl
 have q4 := hX.lt
 unfold PrbS.val
 dsimp only at *
 have hRL := h1.2.2.2
 dsimp only at hRL
 obtain ⟨l0, l1, l2⟩ := hRL
 clear h h0 h1 hX hs0
 by_cases hnn : 512 < n
 ·have HF : Eqn (validR ds r) false := by rw [Eqn, validR]; simp [Hlen.out, show ¬ n ≤ 512 by omega]
  have d0 : (512 : Int) < (n : Int) := by omega
  clear hnn
  go_enter Tryz.func9, Tryz.ntmps9
  go_wp2_with fail
  go_ret
  exact ⟨ret_bool HF.out.symm, by first | (rw [← hW0]; exact HBW.out _ B0.out) | exact HBW.out _ B0.out⟩
 have hn5 : n ≤ 512 := by omega
 have d0 : ¬ (512 : Int) < (n : Int) := by omega
 have HF : Eqn (validR ds r) (rulesR r && (domGo none ds && (r.pairs.all (fun x => inD ds x.a && inD ds x.b) && (r.loads.all (fun x => inD ds x.a && inD ds x.b) && r.caps.all (fun x => inD ds x.a))))) := by rw [Eqn, validR]; simp [Hlen.out, hn5]
 have HRL : Hid (rulesR r = true → r.pairs.length ≤ 4096 ∧ r.loads.length ≤ 1024 ∧ r.caps.length ≤ 1024) := Lib.hid (fun h => rules_len (by rw [← rules_eq]; exact h))
 go_enter Tryz.func9, Tryz.ntmps9
 clear hnn
 go_wp2_with fail
 rw [← hW0]
 clear hW0 q0 q1 q2 q3
 refine (HVR.out _ B0.out).mono ?_
 rintro e W1 ⟨rfl, hb1⟩
 have HB1 := Lib.hid hb1
 clear hb1
 cases hr : rulesR r with
 | false =>
  have HF2 : Eqn (validR ds r) false := by rw [Eqn, HF.out, hr]; rfl
  clear hr HF
  go_wp2_with fail
  go_ret
  exact ⟨ret_bool HF2.out.symm, HBW.out _ HB1.out⟩
 | true =>
  obtain ⟨m0, m1, m2⟩ := HRL.out hr
  rw [HR.out.1.1] at m0
  rw [HR.out.2.1.1] at m1
  rw [HR.out.2.2.1.1] at m2
  dsimp only at m0 m1 m2
  have HANS : Eqn (validR ds r) (domGo none ds && (r.pairs.all (fun x => inD ds x.a && inD ds x.b) && (r.loads.all (fun x => inD ds x.a && inD ds x.b) && r.caps.all (fun x => inD ds x.a)))) := by rw [Eqn, HF.out, hr, Bool.true_and]
  clear hr HF HRL
  go_wp2_with fail
  refine vd_doms w W0 _ A n c A0 A1 A2 n0 c0 n1 c1 n2 c2 ds (validR ds r) (r.pairs.all (fun x => inD ds x.a && inD ds x.b) && (r.loads.all (fun x => inD ds x.a && inD ds x.b) && r.caps.all (fun x => inD ds x.a))) hn5 HH.out HX.out HANS HB1.out _ _ _ _ _ _ _ _ _ _ _ _ _ _ _ _ _ _ _ _ _ _ _ _ _ _ _ _ _ _ _ _ _ _ _ _ _ _ _ _ _ _ _ _ _ _ _ _ _ _ _ _ _ _ _ _ _ _ _ _ _ _ _ _ _ _ _ _ _ _ _ _ _ _ _ _ _ _ _ _ _ _ _ _ _ _ _ _ _ _ _ _ _ _ _ _ _ _ _ _ _ _ _ _ _ _ _ _ _ _ _ _ _ _ _ _ _ _ _ _ _ _ _ _ _ _ _ _ _ _ _ _ _ _ _ _ _ _ _ _ _ _ _ _ _ _ _ _ _ _ _ _ _ _ _ _ _ _ _ _ _ _ _ _ _ _ _ _ _ _ _ _ _ ?_ ?_
  case refine_2 =>
   intro u3 u4 u5 u19 u20 u21 u22 u23 u24 u25 u26 u27 u28 u29 u30 u31 u32 u33 u34 u35 u36 u37 u38 u39 u40 u41 u42 u43 u44 u45 u46 u47 u48 u49 u50 u51 u52 u53 u54 u55 u56 u57 u58 u59 u60 u61 u62 u63 u64 u65 u66 u67 u68 u69 u70 u71 u72 u73 u74 u75 u76 u77 u78 u79 u80 u81 u82 u83 u84 u85 u86 u87 u88 u89 u90 u91 u92 u93 u94 u95 w' hE hB
   have HB := Lib.hid hB
   clear hB
   go_wp2_with fail
   go_ret
   exact ⟨ret_bool hE.out.symm, HBW.out _ HB.out⟩
  intro u2 u3 u4 u5 u19 u20 u21 u22 u23 u24 u25 u26 u27 u28 u29 u30 u31 u32 u33 u34 u35 u36 u37 u38 u39 u40 u41 u42 u43 u44 u45 u46 u47 u48 u49 u50 u51 u52 u53 u54 u55 u56 u57 u58 u59 u60 u61 u62 u63 u64 u65 u66 u67 u68 u69 u70 u71 u72 u73 u74 u75 u76 u77 u78 u79 u80 u81 u82 u83 u84 u85 u86 u87 u88 u89 u90 u91 u92 u93 u94 u95 w0 hE0 hB0
  have HBB0 := Lib.hid hB0
  clear hB0
  go_wp2_with fail
  refine vd_pairs w W0 _ A n c A0 A1 A2 n0 c0 n1 c1 n2 c2 ds (validR ds r) (r.loads.all (fun x => inD ds x.a && inD ds x.b) && r.caps.all (fun x => inD ds x.a)) hn5 HH.out HX.out r.pairs HR.out.1 (by omega) hE0 HBB0.out _ _ _ _ _ _ _ _ _ _ _ _ _ _ _ _ _ _ _ _ _ _ _ _ _ _ _ _ _ _ _ _ _ _ _ _ _ _ _ _ _ _ _ _ _ _ _ _ _ _ _ _ _ _ _ _ _ _ _ _ _ _ _ _ _ _ _ _ _ _ _ _ _ _ _ _ _ _ _ _ _ _ _ _ _ _ _ _ _ _ _ _ _ _ _ _ _ _ _ _ _ _ _ _ _ _ _ _ _ _ _ _ _ _ _ _ _ _ _ _ _ _ _ _ _ _ _ _ _ _ _ _ _ _ _ _ _ _ _ _ _ _ _ _ _ _ _ _ _ _ _ _ _ _ _ _ _ _ _ _ _ _ _ _ _ _ _ _ _ _ _ _ _ ?_ ?_
  case refine_2 =>
   intro u6 u96 u97 u98 u99 u100 u101 u102 u103 u104 u105 u106 u107 u108 u109 u110 u111 u112 u113 u114 u115 u116 u117 u118 u119 u120 u121 u122 u123 u124 u125 w' hE hB
   have HB := Lib.hid hB
   clear hB
   go_wp2_with fail
   go_ret
   exact ⟨ret_bool hE.out.symm, HBW.out _ HB.out⟩
  intro u2 u6 u96 u97 u98 u99 u100 u101 u102 u103 u104 u105 u106 u107 u108 u109 u110 u111 u112 u113 u114 u115 u116 u117 u118 u119 u120 u121 u122 u123 u124 u125 w1 hE1 hB1
  have HBB1 := Lib.hid hB1
  clear hB1
  go_wp2_with fail
  refine vd_loads w W0 _ A n c A0 A1 A2 n0 c0 n1 c1 n2 c2 ds (validR ds r) (r.caps.all (fun x => inD ds x.a)) hn5 HH.out HX.out r.loads HR.out.2.1 (by omega) hE1 HBB1.out _ _ _ _ _ _ _ _ _ _ _ _ _ _ _ _ _ _ _ _ _ _ _ _ _ _ _ _ _ _ _ _ _ _ _ _ _ _ _ _ _ _ _ _ _ _ _ _ _ _ _ _ _ _ _ _ _ _ _ _ _ _ _ _ _ _ _ _ _ _ _ _ _ _ _ _ _ _ _ _ _ _ _ _ _ _ _ _ _ _ _ _ _ _ _ _ _ _ _ _ _ _ _ _ _ _ _ _ _ _ _ _ _ _ _ _ _ _ _ _ _ _ _ _ _ _ _ _ _ _ _ _ _ _ _ _ _ _ _ _ _ _ _ _ _ _ _ _ _ _ _ _ _ _ _ _ _ _ _ _ _ _ _ _ _ _ _ _ _ _ _ _ _ ?_ ?_
  case refine_2 =>
   intro u7 u126 u127 u128 u129 u130 u131 u132 u133 u134 u135 u136 u137 u138 u139 u140 u141 u142 u143 u144 u145 u146 u147 u148 u149 u150 u151 u152 u153 u154 u155 w' hE hB
   have HB := Lib.hid hB
   clear hB
   go_wp2_with fail
   go_ret
   exact ⟨ret_bool hE.out.symm, HBW.out _ HB.out⟩
  intro u2 u7 u126 u127 u128 u129 u130 u131 u132 u133 u134 u135 u136 u137 u138 u139 u140 u141 u142 u143 u144 u145 u146 u147 u148 u149 u150 u151 u152 u153 u154 u155 w2 hE2 hB2
  have HBB2 := Lib.hid hB2
  clear hB2
  go_wp2_with fail
  refine vd_caps w W0 _ A n c A0 A1 A2 n0 c0 n1 c1 n2 c2 ds (validR ds r) (true) hn5 HH.out HX.out r.caps HR.out.2.2.1 (by omega) (by rw [Eqn, hE2.out, Bool.and_true]) HBB2.out _ _ _ _ _ _ _ _ _ _ _ _ _ _ _ _ _ _ _ _ _ _ _ _ _ _ _ _ _ _ _ _ _ _ _ _ _ _ _ _ _ _ _ _ _ _ _ _ _ _ _ _ _ _ _ _ _ _ _ _ _ _ _ _ _ _ _ _ _ _ _ _ _ _ _ _ _ _ _ _ _ _ _ _ _ _ _ _ _ _ _ _ _ _ _ _ _ _ _ _ _ _ _ _ _ _ _ _ _ _ _ _ _ _ _ _ _ _ _ _ _ _ _ _ _ _ _ _ _ _ _ _ _ _ _ _ _ _ _ _ _ _ _ _ _ _ _ _ _ _ _ _ _ _ _ _ _ _ _ _ _ _ _ _ _ _ _ _ _ _ _ _ _ ?_ ?_
  case refine_2 =>
   intro u8 u156 u157 u158 u159 u160 u161 u162 u163 u164 u165 u166 u167 u168 u169 u170 u171 u172 u173 w' hE hB
   have HB := Lib.hid hB
   clear hB
   go_wp2_with fail
   go_ret
   exact ⟨ret_bool hE.out.symm, HBW.out _ HB.out⟩
  intro u2 u8 u156 u157 u158 u159 u160 u161 u162 u163 u164 u165 u166 u167 u168 u169 u170 u171 u172 u173 w3 hE3 hB3
  have HBB3 := Lib.hid hB3
  clear hB3
  go_wp2_with fail
  go_ret
  exact ⟨ret_bool hE3.out.symm, HBW.out _ HBB3.out⟩
theorem stS_bit : ∀ (l : List Int) (a k : Nat), (l.foldl (fun a i => a ||| 2 ^ i.toNat) a).testBit k = (a.testBit k || l.any (fun i => i.toNat == k)) := by
 intro l
 induction l with
 | nil => intro a k; simp
 | cons x r ih =>
  intro a k
  rw [List.foldl_cons, ih, Nat.testBit_or, Nat.testBit_two_pow, List.any_cons, Bool.or_assoc]
  congr 2
theorem hasS_mem {l : List Int} (hl : ∀ y ∈ l, 0 ≤ y ∧ y < 512) (x : Int) : hasS (stS l) x = decide (x ∈ l) := by
 unfold hasS
 by_cases hx : 0 ≤ x ∧ x < 512
 ·unfold stS
  rw [stS_bit, Nat.zero_testBit, Bool.false_or]
  by_cases hm : x ∈ l
  ·have h1 : l.any (fun i => i.toNat == x.toNat) = true := List.any_eq_true.2 ⟨x, hm, by simp⟩
   simp [hx.1, hx.2, hm, h1]
  ·have h1 : l.any (fun i => i.toNat == x.toNat) = false := by
    rw [List.any_eq_false]
    intro y hy h2
    have h3 : y.toNat = x.toNat := by simpa using h2
    obtain ⟨g1, g2⟩ := hl y hy
    exact hm (by rw [show x = y by omega]; exact hy)
   simp [hx.1, hx.2, hm, h1]
 ·have hm : x ∉ l := fun h => hx (hl x h)
  have : ¬ (0 ≤ x ∧ x < 512) := hx
  simp only [hm, decide_false]
  by_cases h0 : 0 ≤ x
  ·have h1 : ¬ x < 512 := fun h => hx ⟨h0, h⟩
   simp [h1]
  ·simp [h0]
theorem lessL_trans : ∀ (a b c : List Int), lessL a b = true → lessL b c = true → lessL a c = true := by
 intro a
 induction a with
 | nil => intro b c h; simp [lessL] at h
 | cons x r ih =>
  intro b c h1 h2
  cases b with
  | nil => simp [lessL] at h1
  | cons y s =>
   cases c with
   | nil => simp [lessL] at h2
   | cons z t =>
    rw [lessL] at h1 h2 ⊢
    by_cases e1 : x = y
    ·subst e1
     rw [if_neg (by simp)] at h1
     by_cases e2 : x = z
     ·subst e2
      rw [if_neg (by simp)] at h2 ⊢
      exact ih s t h1 h2
     ·rw [if_pos e2] at h2 ⊢
      exact h2
    ·rw [if_pos e1] at h1
     have h1' : x < y := by simpa using h1
     by_cases e2 : y = z
     ·subst e2
      rw [if_pos e1]; exact h1
     ·rw [if_pos e2] at h2
      have h2' : y < z := by simpa using h2
      rw [if_pos (by omega)]
      exact decide_eq_true (by omega)
theorem incF_pair {α : Type} (cmp : α → α → Int) (nums : α → List Int) (hc : ∀ x y, decide (0 ≤ cmp x y) = !lessL (nums x) (nums y)) : ∀ l : List α, incF cmp l = true ↔ l.Pairwise (fun x y => lessL (nums x) (nums y) = true) := by
 intro l
 induction l with
 | nil => simp [incF]
 | cons x r ih =>
  cases r with
  | nil => simp [incF]
  | cons y t =>
   rw [incF_cons]
   have h := hc x y
   constructor
   ·intro h1
    by_cases h0 : 0 ≤ cmp x y
    ·rw [if_pos h0] at h1; cases h1
    ·rw [if_neg h0] at h1
     rw [decide_eq_false h0] at h
     have hxy : lessL (nums x) (nums y) = true := by simpa using h.symm
     have hp := ih.1 h1
     refine List.pairwise_cons.2 ⟨fun z hz => ?_, hp⟩
     rcases List.mem_cons.1 hz with rfl | hz
     ·exact hxy
     ·exact lessL_trans _ _ _ hxy ((List.pairwise_cons.1 hp).1 z hz)
   ·intro hp
    obtain ⟨h1, h2⟩ := List.pairwise_cons.1 hp
    have hxy := h1 y (by simp)
    rw [hxy] at h
    have h0 : ¬ 0 ≤ cmp x y := by simpa using h
    rw [if_neg h0]
    exact ih.2 h2
theorem incF_filter {α : Type} (cmp : α → α → Int) (nums : α → List Int) (hc : ∀ x y, decide (0 ≤ cmp x y) = !lessL (nums x) (nums y)) (f : α → Bool) {l : List α} (h : incF cmp l = true) : incF cmp (l.filter f) = true :=
 (incF_pair cmp nums hc _).2 (((incF_pair cmp nums hc l).1 h).sublist List.filter_sublist)
theorem rules_filter {r : Rul} (h : rulesF r = true) (f g : R5 → Bool) (k : R4 → Bool) : rulesF ⟨r.pairs.filter f, r.loads.filter g, r.caps.filter k⟩ = true := by
 simp only [rulesF, Bool.and_eq_true, decide_eq_true_eq] at h ⊢
 obtain ⟨⟨⟨⟨⟨⟨⟨⟨h1, h2⟩, h3⟩, h4⟩, h5⟩, h6⟩, h7⟩, h8⟩, h9⟩ := h
 have e1 := List.length_filter_le f r.pairs
 have e2 := List.length_filter_le g r.loads
 have e3 := List.length_filter_le k r.caps
 have all : ∀ {α : Type} {p q : α → Bool} {l : List α}, l.all p = true → (l.filter q).all p = true := fun {α p q l} h => List.all_eq_true.2 fun x hx => List.all_eq_true.1 h x (List.mem_filter.1 hx).1
 exact ⟨⟨⟨⟨⟨⟨⟨⟨by omega, all h2⟩, incF_filter cmp5 R5.nums cmp5_less f h3⟩, by omega⟩, all h5⟩, incF_filter cmp5 R5.nums cmp5_less g h6⟩, by omega⟩, all h8⟩, incF_filter cmp4 R4.nums cmp4_less k h9⟩
end Go.Proofs.YtdpbbhbegehcjaaGreatDoor
