/- Lemmas of the proof, part 5. Conditions: none. -/
import Derived.Test.YtjakdikhdndlgaaGreatDoorRed04
set_option maxRecDepth 100000
set_option maxHeartbeats 8000000
namespace Go.Proofs.YtjakdikhdndlgaaGreatDoor
open Go.RowKit
theorem rv_loads (w W0 wi:World) (A0 A1 A2:Option Addr) (n0 c0 n1 c1 n2 c2:Nat) (r:Rul) (ans:Bool) (h:RulAt W0 W0.heap.size ⟨A0,n0,c0,A1,n1,c1,A2,n2,c2⟩ r)
  (hx:Blk W0 w.heap.size 27 [.slice A0 n0 c0,.slice A1 n1 c1,.slice A2 n2 c2]) (hans:Eqn ans (goF goodL R5.nums none r.loads&&goF goodC R4.nums none r.caps)) (hwi:Below W0.heap.size W0 wi)
  (_d0:n0≤4096) (d1:n1≤1024) (_d2:n2≤1024)
  (x_0 x_2 x_3 x_4 x_6 x_7 x_8 x_9 x_10 x_11 x_12 x_13 x_14 x_15 x_16 x_17 x_18 x_19 x_20 x_21 x_22 x_23 x_24 x_25 x_26 x_27 x_28 x_29 x_30 x_31 x_32 x_33 x_34 x_35 x_36 x_37 x_38 x_39 x_40 x_41 x_42 x_43 x_44 x_45 x_46 x_47 x_48 x_49 x_50 x_51 x_52 x_53 x_54 x_55 x_56 x_57 x_58 x_59 x_60 x_61 x_62 x_63 x_64 x_65 x_66 x_67 x_68 x_69 x_70 x_71 x_72 x_73 x_74 x_75 x_76 x_77 x_78 x_79 x_80 x_81 x_82 x_83 x_84 x_85 x_86 x_87 x_88 x_89 x_90 x_91 x_92 x_93 x_94 x_95 x_96 x_97 x_98 x_99 x_100 x_101 x_102 x_103 x_104 x_105 x_106 x_107 x_108 x_109 x_110 x_111 x_112 x_113 x_114 x_115 x_116 x_117 x_118 x_119 x_120 x_121 x_122 x_123 x_124 x_125 x_126 x_127 x_128 x_129 x_130 x_131 x_132 x_133 x_134 x_135 x_136 x_137 x_138 x_139 x_140 x_141 x_142 x_143 x_144 x_145 x_146 x_147 x_148 x_149 x_150 x_151 x_152 x_153 x_154 x_155 x_156 x_157 x_158 x_159 x_160 x_161 x_162 x_163 x_164 x_165 x_166 x_167 x_168 x_169 x_170 x_171 x_172 x_173 x_174 x_175 x_176 x_177 x_178 x_179 x_180 x_181 x_182 x_183 x_184 x_185 x_186 x_187 x_188 x_189 x_190 x_191 x_192 x_193 x_194 x_195 x_196 x_197 x_198 x_199 x_200 x_201 x_202 x_203:Value) (Q:Exit→Act→World→Prop)
  (hQ:∀(u2 u5 u6 u89 u90 u91 u92 u93 u94 u95 u96 u97 u98 u99 u100 u101 u102 u103 u104 u105 u106 u107 u108 u109 u110 u111 u112 u113 u114 u115 u116 u117 u118 u119 u120 u121 u122 u123 u124 u125 u126 u127 u128 u129 u130 u131 u132 u133 u134 u135 u136 u137 u138 u139 u140 u141 u142 u143 u144 u145 u146 u147 u148 u149 u150 u151 u152:Value) (w':World),Eqn ans (goF goodC R4.nums none r.caps)→Below W0.heap.size W0 w'→Q (.exit 2) ⟨List.toArray (x_0::Value.pointer (some ⟨w.heap.size,0,none⟩)::u2::x_3::x_4::u5::u6::x_7::x_8::x_9::x_10::x_11::x_12::x_13::x_14::x_15::x_16::x_17::x_18::x_19::x_20::x_21::x_22::x_23::x_24::x_25::x_26::x_27::x_28::x_29::x_30::x_31::x_32::x_33::x_34::x_35::x_36::x_37::x_38::x_39::x_40::x_41::x_42::x_43::x_44::x_45::x_46::x_47::x_48::x_49::x_50::x_51::x_52::x_53::x_54::x_55::x_56::x_57::x_58::x_59::x_60::x_61::x_62::x_63::x_64::x_65::x_66::x_67::x_68::x_69::x_70::x_71::x_72::x_73::x_74::x_75::x_76::x_77::x_78::x_79::x_80::x_81::x_82::x_83::x_84::x_85::x_86::x_87::x_88::u89::u90::u91::u92::u93::u94::u95::u96::u97::u98::u99::u100::u101::u102::u103::u104::u105::u106::u107::u108::u109::u110::u111::u112::u113::u114::u115::u116::u117::u118::u119::u120::u121::u122::u123::u124::u125::u126::u127::u128::u129::u130::u131::u132::u133::u134::u135::u136::u137::u138::u139::u140::u141::u142::u143::u144::u145::u146::u147::u148::u149::u150::u151::u152::x_153::x_154::x_155::x_156::x_157::x_158::x_159::x_160::x_161::x_162::x_163::x_164::x_165::x_166::x_167::x_168::x_169::x_170::x_171::x_172::x_173::x_174::x_175::x_176::x_177::x_178::x_179::x_180::x_181::x_182::x_183::x_184::x_185::x_186::x_187::x_188::x_189::x_190::x_191::x_192::x_193::x_194::x_195::x_196::x_197::x_198::x_199::x_200::x_201::x_202::x_203::[]),[]⟩ w')
  (hR:∀(u5 u6 u89 u90 u91 u92 u93 u94 u95 u96 u97 u98 u99 u100 u101 u102 u103 u104 u105 u106 u107 u108 u109 u110 u111 u112 u113 u114 u115 u116 u117 u118 u119 u120 u121 u122 u123 u124 u125 u126 u127 u128 u129 u130 u131 u132 u133 u134 u135 u136 u137 u138 u139 u140 u141 u142 u143 u144 u145 u146 u147 u148 u149 u150 u151 u152:Value) (w':World),Eqn ans false→Below W0.heap.size W0 w'→Q .ret ⟨List.toArray (x_0::Value.pointer (some ⟨w.heap.size,0,none⟩)::Value.bool false::x_3::x_4::u5::u6::x_7::x_8::x_9::x_10::x_11::x_12::x_13::x_14::x_15::x_16::x_17::x_18::x_19::x_20::x_21::x_22::x_23::x_24::x_25::x_26::x_27::x_28::x_29::x_30::x_31::x_32::x_33::x_34::x_35::x_36::x_37::x_38::x_39::x_40::x_41::x_42::x_43::x_44::x_45::x_46::x_47::x_48::x_49::x_50::x_51::x_52::x_53::x_54::x_55::x_56::x_57::x_58::x_59::x_60::x_61::x_62::x_63::x_64::x_65::x_66::x_67::x_68::x_69::x_70::x_71::x_72::x_73::x_74::x_75::x_76::x_77::x_78::x_79::x_80::x_81::x_82::x_83::x_84::x_85::x_86::x_87::x_88::u89::u90::u91::u92::u93::u94::u95::u96::u97::u98::u99::u100::u101::u102::u103::u104::u105::u106::u107::u108::u109::u110::u111::u112::u113::u114::u115::u116::u117::u118::u119::u120::u121::u122::u123::u124::u125::u126::u127::u128::u129::u130::u131::u132::u133::u134::u135::u136::u137::u138::u139::u140::u141::u142::u143::u144::u145::u146::u147::u148::u149::u150::u151::u152::x_153::x_154::x_155::x_156::x_157::x_158::x_159::x_160::x_161::x_162::x_163::x_164::x_165::x_166::x_167::x_168::x_169::x_170::x_171::x_172::x_173::x_174::x_175::x_176::x_177::x_178::x_179::x_180::x_181::x_182::x_183::x_184::x_185::x_186::x_187::x_188::x_189::x_190::x_191::x_192::x_193::x_194::x_195::x_196::x_197::x_198::x_199::x_200::x_201::x_202::x_203::[]),[]⟩ w'):
  Code.wp Tryz.prog (Code.loop (rvLoop 1)) Q ⟨List.toArray (x_0::Value.pointer (some ⟨w.heap.size,0,none⟩)::x_2::x_3::x_4::Value.int .i64 0::x_6::x_7::x_8::x_9::x_10::x_11::x_12::x_13::x_14::x_15::x_16::x_17::x_18::x_19::x_20::x_21::x_22::x_23::x_24::x_25::x_26::x_27::x_28::x_29::x_30::x_31::x_32::x_33::x_34::x_35::x_36::x_37::x_38::x_39::x_40::x_41::x_42::x_43::x_44::x_45::x_46::x_47::x_48::x_49::x_50::x_51::x_52::x_53::x_54::x_55::x_56::x_57::x_58::x_59::x_60::x_61::x_62::x_63::x_64::x_65::x_66::x_67::x_68::x_69::x_70::x_71::x_72::x_73::x_74::x_75::x_76::x_77::x_78::x_79::x_80::x_81::x_82::x_83::x_84::x_85::x_86::x_87::x_88::x_89::x_90::x_91::x_92::x_93::x_94::x_95::x_96::x_97::x_98::x_99::x_100::x_101::x_102::x_103::x_104::x_105::x_106::x_107::x_108::x_109::x_110::x_111::x_112::x_113::x_114::x_115::x_116::x_117::x_118::x_119::x_120::x_121::x_122::x_123::x_124::x_125::x_126::x_127::x_128::x_129::x_130::x_131::x_132::x_133::x_134::x_135::x_136::x_137::x_138::x_139::x_140::x_141::x_142::x_143::x_144::x_145::x_146::x_147::x_148::x_149::x_150::x_151::x_152::x_153::x_154::x_155::x_156::x_157::x_158::x_159::x_160::x_161::x_162::x_163::x_164::x_165::x_166::x_167::x_168::x_169::x_170::x_171::x_172::x_173::x_174::x_175::x_176::x_177::x_178::x_179::x_180::x_181::x_182::x_183::x_184::x_185::x_186::x_187::x_188::x_189::x_190::x_191::x_192::x_193::x_194::x_195::x_196::x_197::x_198::x_199::x_200::x_201::x_202::x_203::[]),[]⟩ wi:=by
 have HQ:=Lib.hid hQ
 have HRT:=Lib.hid hR
 have HC:Hid (∀ W,Below W0.heap.size W0 W→W.cell? ⟨w.heap.size,0,none⟩=some (.slice A0 n0 c0)∧W.cell? ⟨w.heap.size,1,none⟩=some (.slice A1 n1 c1)∧W.cell? ⟨w.heap.size,2,none⟩=some (.slice A2 n2 c2)):=Lib.hid (fun W hb=>⟨(hx.keep hb).cell rfl,(hx.keep hb).cell rfl,(hx.keep hb).cell rfl⟩)
 have HH:=Lib.hid h
 have HL:Hid (r.pairs.length=n0∧r.loads.length=n1∧r.caps.length=n2):=Lib.hid ⟨h.1.1,h.2.1.1,h.2.2.1.1⟩
 have HST:=Lib.hid (fun n w=>rst_any n w)
 have HSP:=Lib.hid (fun a b w=>rsp_any a b w)
 have HANS:Eqn ans (goF goodL R5.nums (prevR r.loads 0) (r.loads.drop 0)&&goF goodC R4.nums none r.caps):=hans
 have B0:=Lib.hid hwi
 clear h hx hans hwi hQ hR
 conv=>arg 2;arg 1;whnf
 go_loopw [5] (fun i wr=>∃ k:Nat,k≤n1∧i=.int .i64 k∧Eqn ans (goF goodL R5.nums (prevR r.loads k) (r.loads.drop k)&&goF goodC R4.nums none r.caps)∧Below W0.heap.size W0 wr) (fun i _=>n1 - (intOf i).toNat)
 case atStart=>exact⟨0,Nat.zero_le _,rfl,HANS,B0.out⟩
 case round=>
  obtain⟨k,hk,rfl,HR,hB⟩:=hrel
  have HB:=Lib.hid hB
  have hbs:=hB.size
  obtain⟨b0,b1,b2⟩:=HC.out _ hB
  have hwr:w.heap.size<wr.heap.size:=(cell_lt b0)
  by_cases hlt:k<n1
  ·obtain⟨p,hp,hpd⟩:=drop_at (xs:=r.loads) (k:=k) (by rw[HL.out.2.1];exact hlt)
   have hrow:=HH.out.2.1.below hB
   obtain⟨b,off,hA,hbl,hc⟩:=hrow.2 (by dsimp only;omega)
   dsimp only at hA hbl hc
   subst hA
   have e0:=hc k p hp 0 (by omega)
   have e1:=hc k p hp 1 (by omega)
   have e2:=hc k p hp 2 (by omega)
   have e3:=hc k p hp 3 (by omega)
   have e4:=hc k p hp 4 (by omega)
   have hnx:prevR r.loads (k+1)=some p:=by rw[prevR_succ,hp]
   obtain⟨y,hy,hpy⟩:∃ y:R5,(0<k→∀ j,j<5→wr.cell? ⟨b,off+(k - 1) * 5+j,none⟩=some (y.cell j))∧(0<k→prevR r.loads k=some y):=by
    by_cases h0:0<k
    ·obtain⟨q,hq,_⟩:=drop_at (xs:=r.loads) (k:=k - 1) (by rw[HL.out.2.1];omega)
     exact⟨q,fun _ j hj=>hc (k - 1) q hq j hj,fun _=>by unfold prevR;rw[if_neg (by omega),hq]⟩
    ·exact⟨p,fun h=>absurd h h0,fun h=>absurd h h0⟩
   obtain⟨x0,x1,x2,x3,x4⟩:=p
   obtain⟨y0,y1,y2,y3,y4⟩:=y
   simp only[R5.cell,Nat.add_zero] at e0 e1 e2 e3 e4
   have HR2:=HR.out
   rw[hpd] at HR2
   have HRR:=Eqn.mk HR2
   have HNX:=Eqn.mk hnx
   have HPY:=Lib.hid hpy
   obtain⟨W2,hW2⟩:∃ W2,W2=wr.alloc (.cells #[.int .i64 x0,.int .i64 x1,.int .i64 x2,.int .i64 x3,.int .i64 x4] 69):=⟨_,rfl⟩
   have hB2:Below wr.heap.size wr W2:=by rw[hW2];exact(Below.refl _ wr).alloc (Nat.le_refl _) _
   have hX:Blk W2 wr.heap.size 69 [.int .i64 x0,.int .i64 x1,.int .i64 x2,.int .i64 x3,.int .i64 x4]:=by rw[hW2];exact blk_new _ _ _
   have v0:W2.cell? ⟨wr.heap.size,0,none⟩=some (.int .i64 x0):=hX.cell rfl
   have v1:W2.cell? ⟨wr.heap.size,1,none⟩=some (.int .i64 x1):=hX.cell rfl
   have v2:W2.cell? ⟨wr.heap.size,2,none⟩=some (.int .i64 x2):=hX.cell rfl
   have v3:W2.cell? ⟨wr.heap.size,3,none⟩=some (.int .i64 x3):=hX.cell rfl
   have v4:W2.cell? ⟨wr.heap.size,4,none⟩=some (.int .i64 x4):=hX.cell rfl
   have hw2:=hX.lt
   have HX:=Lib.hid hX
   have HB2:=Lib.hid (hB.trans (hB2.mono hbs))
   obtain⟨z0,z1,z2⟩:=HC.out _ HB2.out
   have HY:Hid (0<k→∀ j,j<5→W2.cell? ⟨b,off+(k - 1) * 5+j,none⟩=some ((⟨y0,y1,y2,y3,y4⟩:R5).cell j)):=Lib.hid (fun h j hj=>(hB2.cell (p:=⟨b,off+(k - 1) * 5+j,none⟩) (by dsimp only;omega)).trans (hy h j hj))
   have j0:(k:Int)<(n1:Int):=by omega
   have HOFx:Hid (∀ W,Calls Tryz.prog 69 #[.agg #[.int .i64 x0,.int .i64 x1,.int .i64 x2,.int .i64 x3,.int .i64 x4]] W (NumsPost [x0,x1,x2,x3,x4] W)):=Lib.hid (fun W=>rLoadOf_any ⟨x0,x1,x2,x3,x4⟩ W)
   have HOFy:Hid (∀ W,Calls Tryz.prog 69 #[.agg #[.int .i64 y0,.int .i64 y1,.int .i64 y2,.int .i64 y3,.int .i64 y4]] W (NumsPost [y0,y1,y2,y3,y4] W)):=Lib.hid (fun W=>rLoadOf_any ⟨y0,y1,y2,y3,y4⟩ W)
   have HLS:=Lib.hid (fun A B a b w h1 h2=>rless_any A B 5 5 5 5 a b w (by decide) h1 h2 rfl)
   have hC0:Below W2.heap.size W2 W2.drew∧W2.drew.cell? ⟨wr.heap.size,0,none⟩=some (.int .i64 x0)∧W2.drew.cell? ⟨wr.heap.size,1,none⟩=some (.int .i64 x1)∧W2.drew.cell? ⟨wr.heap.size,2,none⟩=some (.int .i64 x2)∧W2.drew.cell? ⟨wr.heap.size,3,none⟩=some (.int .i64 x3)∧W2.drew.cell? ⟨wr.heap.size,4,none⟩=some (.int .i64 x4):=⟨(Below.refl _ _).drew,v0,v1,v2,v3,v4⟩
   have HCK:Hid (∀ X,Below W2.heap.size W2 X→Below W2.heap.size W2 X∧X.cell? ⟨wr.heap.size,0,none⟩=some (.int .i64 x0)∧X.cell? ⟨wr.heap.size,1,none⟩=some (.int .i64 x1)∧X.cell? ⟨wr.heap.size,2,none⟩=some (.int .i64 x2)∧X.cell? ⟨wr.heap.size,3,none⟩=some (.int .i64 x3)∧X.cell? ⟨wr.heap.size,4,none⟩=some (.int .i64 x4)):=Lib.hid (fun X hb=>⟨hb,(hb.cell (p:=⟨wr.heap.size,0,none⟩) hw2).trans v0,(hb.cell (p:=⟨wr.heap.size,1,none⟩) hw2).trans v1,(hb.cell (p:=⟨wr.heap.size,2,none⟩) hw2).trans v2,(hb.cell (p:=⟨wr.heap.size,3,none⟩) hw2).trans v3,(hb.cell (p:=⟨wr.heap.size,4,none⟩) hw2).trans v4⟩)
   have HC0:=Lib.hid hC0
   clear hc hp hpd HR HR2 hB hrow hy hpy hnx hB2 hX hC0 hbl
   go_wp2_with fail
   rw[←hW2]
   clear hW2 b0 b1 b2 e0 e1 e2 e3 e4
   by_cases hs0:stF x0=false
   ·have hg:goodL (⟨x0,x1,x2,x3,x4⟩:R5)=false:=by unfold goodL;dsimp only;simp[hs0]
    have HE:Eqn ans false:=by rw[Eqn,HRR.out,goF_bad hg];rfl
    clear HRR hg hlt HOFx HOFy HLS HPY HY HNX HCK
    refine Lx.region (C:=fun X=>Below W2.heap.size W2 X∧X.cell? ⟨wr.heap.size,0,none⟩=some (.int .i64 x0)∧X.cell? ⟨wr.heap.size,1,none⟩=some (.int .i64 x1)∧X.cell? ⟨wr.heap.size,2,none⟩=some (.int .i64 x2)∧X.cell? ⟨wr.heap.size,3,none⟩=some (.int .i64 x3)∧X.cell? ⟨wr.heap.size,4,none⟩=some (.int .i64 x4)) (hs:=[46]) (by kernel_rfl) (by kernel_rfl) HC0.out ?_
    repeat' (first|((first|refine Lx.ln (fun K hK=>?_) | (first|(refine Lx.lp (v:=?_) ?_ (fun K hK=>?_);rotate_left 1;intro w' hCw;try dsimp only at hCw) | (refine Lx.lr (v:=?_) ?_ (fun K hK=>?_);rotate_left 1));go_simp;first|done | with_reducible rfl);go_simp;refine hK _ ?_;clear hK K) | (refine Lx.le (fun K hK=>?_);go_simp;(first|(go_at_call 33;refine(HST.out _ _).mono ?_;rintro e wz ⟨rfl,rfl⟩) | (go_at_call 66;refine(HSP.out _ _ _).mono ?_;rintro e wz ⟨rfl,rfl⟩));refine hK _ _ (by first|exact HC0.out) ?_;clear hK K))
    all_goals (refine Lx.lex_nil ?_)
    go_wp2_with fail
    exact HRT.out _ _ _ _ _ _ _ _ _ _ _ _ _ _ _ _ _ _ _ _ _ _ _ _ _ _ _ _ _ _ _ _ _ _ _ _ _ _ _ _ _ _ _ _ _ _ _ _ _ _ _ _ _ _ _ _ _ _ _ _ _ _ _ _ _ _ _ HE (HB2.out.drew)
   ·have hs0':stF x0=true:=by simpa using hs0
    by_cases hs1:stF x1=false
    ·have hg:goodL (⟨x0,x1,x2,x3,x4⟩:R5)=false:=by unfold goodL;dsimp only;simp[hs1]
     have HE:Eqn ans false:=by rw[Eqn,HRR.out,goF_bad hg];rfl
     clear HRR hg hlt HOFx HOFy HLS HPY HY HNX HCK
     refine Lx.region (C:=fun X=>Below W2.heap.size W2 X∧X.cell? ⟨wr.heap.size,0,none⟩=some (.int .i64 x0)∧X.cell? ⟨wr.heap.size,1,none⟩=some (.int .i64 x1)∧X.cell? ⟨wr.heap.size,2,none⟩=some (.int .i64 x2)∧X.cell? ⟨wr.heap.size,3,none⟩=some (.int .i64 x3)∧X.cell? ⟨wr.heap.size,4,none⟩=some (.int .i64 x4)) (hs:=[46]) (by kernel_rfl) (by kernel_rfl) HC0.out ?_
     repeat' (first|((first|refine Lx.ln (fun K hK=>?_) | (first|(refine Lx.lp (v:=?_) ?_ (fun K hK=>?_);rotate_left 1;intro w' hCw;try dsimp only at hCw) | (refine Lx.lr (v:=?_) ?_ (fun K hK=>?_);rotate_left 1));go_simp;first|done | with_reducible rfl);go_simp;refine hK _ ?_;clear hK K) | (refine Lx.le (fun K hK=>?_);go_simp;(first|(go_at_call 33;refine(HST.out _ _).mono ?_;rintro e wz ⟨rfl,rfl⟩) | (go_at_call 66;refine(HSP.out _ _ _).mono ?_;rintro e wz ⟨rfl,rfl⟩));refine hK _ _ (by first|exact HC0.out) ?_;clear hK K))
     all_goals (refine Lx.lex_nil ?_)
     go_wp2_with fail
     exact HRT.out _ _ _ _ _ _ _ _ _ _ _ _ _ _ _ _ _ _ _ _ _ _ _ _ _ _ _ _ _ _ _ _ _ _ _ _ _ _ _ _ _ _ _ _ _ _ _ _ _ _ _ _ _ _ _ _ _ _ _ _ _ _ _ _ _ _ _ HE (HB2.out.drew)
    ·have hs1':stF x1=true:=by simpa using hs1
     by_cases hx2:x0=x1
     ·have hg:goodL (⟨x0,x1,x2,x3,x4⟩:R5)=false:=by unfold goodL;dsimp only;simp[hx2]
      have HE:Eqn ans false:=by rw[Eqn,HRR.out,goF_bad hg];rfl
      have hx2d:decide (x0=x1)=true:=decide_eq_true hx2
      have hx2e:(x0 == x1)=true:=by simpa using hx2
      clear HRR hg hlt HOFx HOFy HLS HPY HY HNX HCK hx2
      refine Lx.region (C:=fun X=>Below W2.heap.size W2 X∧X.cell? ⟨wr.heap.size,0,none⟩=some (.int .i64 x0)∧X.cell? ⟨wr.heap.size,1,none⟩=some (.int .i64 x1)∧X.cell? ⟨wr.heap.size,2,none⟩=some (.int .i64 x2)∧X.cell? ⟨wr.heap.size,3,none⟩=some (.int .i64 x3)∧X.cell? ⟨wr.heap.size,4,none⟩=some (.int .i64 x4)) (hs:=[46]) (by kernel_rfl) (by kernel_rfl) HC0.out ?_
      repeat' (first|((first|refine Lx.ln (fun K hK=>?_) | (first|(refine Lx.lp (v:=?_) ?_ (fun K hK=>?_);rotate_left 1;intro w' hCw;try dsimp only at hCw) | (refine Lx.lr (v:=?_) ?_ (fun K hK=>?_);rotate_left 1));go_simp;first|done | with_reducible rfl);go_simp;refine hK _ ?_;clear hK K) | (refine Lx.le (fun K hK=>?_);go_simp;(first|(go_at_call 33;refine(HST.out _ _).mono ?_;rintro e wz ⟨rfl,rfl⟩) | (go_at_call 66;refine(HSP.out _ _ _).mono ?_;rintro e wz ⟨rfl,rfl⟩));refine hK _ _ (by first|exact HC0.out) ?_;clear hK K))
      all_goals (refine Lx.lex_nil ?_)
      go_wp2_with fail
      exact HRT.out _ _ _ _ _ _ _ _ _ _ _ _ _ _ _ _ _ _ _ _ _ _ _ _ _ _ _ _ _ _ _ _ _ _ _ _ _ _ _ _ _ _ _ _ _ _ _ _ _ _ _ _ _ _ _ _ _ _ _ _ _ _ _ _ _ _ _ HE (HB2.out.drew)
     ·have hx2':decide (x0=x1)=false:=by exact decide_eq_false hx2
      have hx2e:(x0 == x1)=false:=by simpa using hx2
      by_cases hx3:x2<1
      ·have hg:goodL (⟨x0,x1,x2,x3,x4⟩:R5)=false:=by unfold goodL;dsimp only;simp[show ¬(1≤x2) by omega]
       have HE:Eqn ans false:=by rw[Eqn,HRR.out,goF_bad hg];rfl
       have hx3d:decide (x2<1)=true:=decide_eq_true hx3
       clear HRR hg hlt HOFx HOFy HLS HPY HY HNX HCK hx3
       refine Lx.region (C:=fun X=>Below W2.heap.size W2 X∧X.cell? ⟨wr.heap.size,0,none⟩=some (.int .i64 x0)∧X.cell? ⟨wr.heap.size,1,none⟩=some (.int .i64 x1)∧X.cell? ⟨wr.heap.size,2,none⟩=some (.int .i64 x2)∧X.cell? ⟨wr.heap.size,3,none⟩=some (.int .i64 x3)∧X.cell? ⟨wr.heap.size,4,none⟩=some (.int .i64 x4)) (hs:=[46]) (by kernel_rfl) (by kernel_rfl) HC0.out ?_
       repeat' (first|((first|refine Lx.ln (fun K hK=>?_) | (first|(refine Lx.lp (v:=?_) ?_ (fun K hK=>?_);rotate_left 1;intro w' hCw;try dsimp only at hCw) | (refine Lx.lr (v:=?_) ?_ (fun K hK=>?_);rotate_left 1));go_simp;first|done | with_reducible rfl);go_simp;refine hK _ ?_;clear hK K) | (refine Lx.le (fun K hK=>?_);go_simp;(first|(go_at_call 33;refine(HST.out _ _).mono ?_;rintro e wz ⟨rfl,rfl⟩) | (go_at_call 66;refine(HSP.out _ _ _).mono ?_;rintro e wz ⟨rfl,rfl⟩));refine hK _ _ (by first|exact HC0.out) ?_;clear hK K))
       all_goals (refine Lx.lex_nil ?_)
       go_wp2_with fail
       exact HRT.out _ _ _ _ _ _ _ _ _ _ _ _ _ _ _ _ _ _ _ _ _ _ _ _ _ _ _ _ _ _ _ _ _ _ _ _ _ _ _ _ _ _ _ _ _ _ _ _ _ _ _ _ _ _ _ _ _ _ _ _ _ _ _ _ _ _ _ HE (HB2.out.drew)
      ·have hx3':decide (x2<1)=false:=by exact decide_eq_false hx3
       by_cases hx4:(1073741824:Int)<x2
       ·have hg:goodL (⟨x0,x1,x2,x3,x4⟩:R5)=false:=by unfold goodL;dsimp only;simp[show ¬(x2≤1073741824) by omega]
        have HE:Eqn ans false:=by rw[Eqn,HRR.out,goF_bad hg];rfl
        have hx4d:decide ((1073741824:Int)<x2)=true:=decide_eq_true hx4
        clear HRR hg hlt HOFx HOFy HLS HPY HY HNX HCK hx4
        refine Lx.region (C:=fun X=>Below W2.heap.size W2 X∧X.cell? ⟨wr.heap.size,0,none⟩=some (.int .i64 x0)∧X.cell? ⟨wr.heap.size,1,none⟩=some (.int .i64 x1)∧X.cell? ⟨wr.heap.size,2,none⟩=some (.int .i64 x2)∧X.cell? ⟨wr.heap.size,3,none⟩=some (.int .i64 x3)∧X.cell? ⟨wr.heap.size,4,none⟩=some (.int .i64 x4)) (hs:=[46]) (by kernel_rfl) (by kernel_rfl) HC0.out ?_
        repeat' (first|((first|refine Lx.ln (fun K hK=>?_) | (first|(refine Lx.lp (v:=?_) ?_ (fun K hK=>?_);rotate_left 1;intro w' hCw;try dsimp only at hCw) | (refine Lx.lr (v:=?_) ?_ (fun K hK=>?_);rotate_left 1));go_simp;first|done | with_reducible rfl);go_simp;refine hK _ ?_;clear hK K) | (refine Lx.le (fun K hK=>?_);go_simp;(first|(go_at_call 33;refine(HST.out _ _).mono ?_;rintro e wz ⟨rfl,rfl⟩) | (go_at_call 66;refine(HSP.out _ _ _).mono ?_;rintro e wz ⟨rfl,rfl⟩));refine hK _ _ (by first|exact HC0.out) ?_;clear hK K))
        all_goals (refine Lx.lex_nil ?_)
        go_wp2_with fail
        exact HRT.out _ _ _ _ _ _ _ _ _ _ _ _ _ _ _ _ _ _ _ _ _ _ _ _ _ _ _ _ _ _ _ _ _ _ _ _ _ _ _ _ _ _ _ _ _ _ _ _ _ _ _ _ _ _ _ _ _ _ _ _ _ _ _ _ _ _ _ HE (HB2.out.drew)
       ·have hx4':decide ((1073741824:Int)<x2)=false:=by exact decide_eq_false hx4
        by_cases hs5:spF x3 x4=false
        ·have hg:goodL (⟨x0,x1,x2,x3,x4⟩:R5)=false:=by unfold goodL;dsimp only;simp[hs5]
         have HE:Eqn ans false:=by rw[Eqn,HRR.out,goF_bad hg];rfl
         clear HRR hg hlt HOFx HOFy HLS HPY HY HNX HCK
         refine Lx.region (C:=fun X=>Below W2.heap.size W2 X∧X.cell? ⟨wr.heap.size,0,none⟩=some (.int .i64 x0)∧X.cell? ⟨wr.heap.size,1,none⟩=some (.int .i64 x1)∧X.cell? ⟨wr.heap.size,2,none⟩=some (.int .i64 x2)∧X.cell? ⟨wr.heap.size,3,none⟩=some (.int .i64 x3)∧X.cell? ⟨wr.heap.size,4,none⟩=some (.int .i64 x4)) (hs:=[46]) (by kernel_rfl) (by kernel_rfl) HC0.out ?_
         repeat' (first|((first|refine Lx.ln (fun K hK=>?_) | (first|(refine Lx.lp (v:=?_) ?_ (fun K hK=>?_);rotate_left 1;intro w' hCw;try dsimp only at hCw) | (refine Lx.lr (v:=?_) ?_ (fun K hK=>?_);rotate_left 1));go_simp;first|done | with_reducible rfl);go_simp;refine hK _ ?_;clear hK K) | (refine Lx.le (fun K hK=>?_);go_simp;(first|(go_at_call 33;refine(HST.out _ _).mono ?_;rintro e wz ⟨rfl,rfl⟩) | (go_at_call 66;refine(HSP.out _ _ _).mono ?_;rintro e wz ⟨rfl,rfl⟩));refine hK _ _ (by first|exact HC0.out) ?_;clear hK K))
         all_goals (refine Lx.lex_nil ?_)
         go_wp2_with fail
         exact HRT.out _ _ _ _ _ _ _ _ _ _ _ _ _ _ _ _ _ _ _ _ _ _ _ _ _ _ _ _ _ _ _ _ _ _ _ _ _ _ _ _ _ _ _ _ _ _ _ _ _ _ _ _ _ _ _ _ _ _ _ _ _ _ _ _ _ _ _ HE (HB2.out.drew)
        ·have hs5':spF x3 x4=true:=by simpa using hs5
         have hg:goodL (⟨x0,x1,x2,x3,x4⟩:R5)=true:=by unfold goodL;dsimp only;simp[hs0',hs1',hs5',show ¬x0=x1 by omega,show 1≤x2 by omega,show x2≤1073741824 by omega]
         clear hs0 hs1 hx2 hx3 hx4 hs5
         by_cases h0:0<k
         ·have HP:=Eqn.mk (HPY.out h0)
          obtain⟨k',hk'⟩:∃ k',k - 1=k':=⟨_,rfl⟩
          have HYY:=HY.out h0
          rw[hk'] at HYY
          have f0:=HYY 0 (by omega)
          have f1:=HYY 1 (by omega)
          have f2:=HYY 2 (by omega)
          have f3:=HYY 3 (by omega)
          have f4:=HYY 4 (by omega)
          simp only[R5.cell,Nat.add_zero] at f0 f1 f2 f3 f4
          have k1:decide ((0:Int)<(k:Int))=true:=decide_eq_true (by omega)
          have k5:decide (0<k)=true:=decide_eq_true h0
          have r1:IntKind.i64.wrap ((k:Int) - 1)=(k':Int):=by rw[IntWalk.i64_in _ (by omega)];omega
          have r3:(k:Int) - 1=(k':Int):=by omega
          have r4:(0:Int)≤(k':Int):=by omega
          have r5:(k':Int)<(n1:Int):=by omega
          have r9:IntKind.i64.wrap (k':Int)=(k':Int):=IntWalk.i64_in _ (by omega)
          have HG:=Lib.hid hg
          clear hk' hg HYY HY HPY h0
          cases hll:lessL [y0,y1,y2,y3,y4] [x0,x1,x2,x3,x4] with
          | false=>
           have HE:Eqn ans false:=by rw[Eqn,HRR.out,HP.out,goF_not hll];rfl
           clear HRR HP hlt
           refine Lx.region (C:=fun X=>Below W2.heap.size W2 X∧X.cell? ⟨wr.heap.size,0,none⟩=some (.int .i64 x0)∧X.cell? ⟨wr.heap.size,1,none⟩=some (.int .i64 x1)∧X.cell? ⟨wr.heap.size,2,none⟩=some (.int .i64 x2)∧X.cell? ⟨wr.heap.size,3,none⟩=some (.int .i64 x3)∧X.cell? ⟨wr.heap.size,4,none⟩=some (.int .i64 x4)) (hs:=[46]) (by kernel_rfl) (by kernel_rfl) HC0.out ?_
           repeat' (first|((first|refine Lx.ln (fun K hK=>?_) | (first|(refine Lx.lp (v:=?_) ?_ (fun K hK=>?_);rotate_left 1;intro w' hCw;try dsimp only at hCw) | (refine Lx.lr (v:=?_) ?_ (fun K hK=>?_);rotate_left 1));go_simp;first|done | with_reducible rfl);go_simp;refine hK _ ?_;clear hK K) | (refine Lx.le (fun K hK=>?_);go_simp;(first|(go_at_call 33;refine(HST.out _ _).mono ?_;rintro e wz ⟨rfl,rfl⟩) | (go_at_call 66;refine(HSP.out _ _ _).mono ?_;rintro e wz ⟨rfl,rfl⟩) | (go_at_call_of 69 (Value.agg #[.int .i64 y0,.int .i64 y1,.int .i64 y2,.int .i64 y3,.int .i64 y4]);refine(HOFy.out _).mono ?_;rintro e Wy ⟨rfl,hry,hby⟩;simp only[List.length_cons,List.length_nil] at hry;have hbw:Below W2.heap.size W2 Wy:=(Below.refl _ _).drew.trans (hby.mono (Nat.le_refl _))) | (go_at_call_of 69 (Value.agg #[.int .i64 x0,.int .i64 x1,.int .i64 x2,.int .i64 x3,.int .i64 x4]);refine(HOFx.out _).mono ?_;rintro e Wx ⟨rfl,hrx,hbx⟩;simp only[List.length_cons,List.length_nil] at hrx;have hbw2:Below W2.heap.size W2 Wx:=hbw.trans (hbx.mono hbw.size);have hry2:=hry.keep hbx) | (go_at_call 67;refine(HLS.out _ _ _ _ _ hry2 hrx).mono ?_;rintro e Wl ⟨rfl,hbl⟩;have hbw3:Below W2.heap.size W2 Wl:=hbw2.trans (hbl.mono hbw2.size)));refine hK _ _ (by first|exact HCK.out _ hbw3 | exact HCK.out _ hbw2 | exact HCK.out _ hbw | exact HC0.out) ?_;clear hK K))
           all_goals (refine Lx.lex_nil ?_)
           go_wp2_with fail
           exact HRT.out _ _ _ _ _ _ _ _ _ _ _ _ _ _ _ _ _ _ _ _ _ _ _ _ _ _ _ _ _ _ _ _ _ _ _ _ _ _ _ _ _ _ _ _ _ _ _ _ _ _ _ _ _ _ _ _ _ _ _ _ _ _ _ _ _ _ _ HE (HB2.out.trans (hbw3.mono HB2.out.size))
          | true=>
           have HE:Eqn ans (goF goodL R5.nums (prevR r.loads (k+1)) (r.loads.drop (k+1))&&goF goodC R4.nums none r.caps):=by rw[Eqn,HRR.out,HP.out,goF_less HG.out hll,HNX.out]
           clear HRR HP HNX
           refine Lx.region (C:=fun X=>Below W2.heap.size W2 X∧X.cell? ⟨wr.heap.size,0,none⟩=some (.int .i64 x0)∧X.cell? ⟨wr.heap.size,1,none⟩=some (.int .i64 x1)∧X.cell? ⟨wr.heap.size,2,none⟩=some (.int .i64 x2)∧X.cell? ⟨wr.heap.size,3,none⟩=some (.int .i64 x3)∧X.cell? ⟨wr.heap.size,4,none⟩=some (.int .i64 x4)) (hs:=[46]) (by kernel_rfl) (by kernel_rfl) HC0.out ?_
           repeat' (first|((first|refine Lx.ln (fun K hK=>?_) | (first|(refine Lx.lp (v:=?_) ?_ (fun K hK=>?_);rotate_left 1;intro w' hCw;try dsimp only at hCw) | (refine Lx.lr (v:=?_) ?_ (fun K hK=>?_);rotate_left 1));go_simp;first|done | with_reducible rfl);go_simp;refine hK _ ?_;clear hK K) | (refine Lx.le (fun K hK=>?_);go_simp;(first|(go_at_call 33;refine(HST.out _ _).mono ?_;rintro e wz ⟨rfl,rfl⟩) | (go_at_call 66;refine(HSP.out _ _ _).mono ?_;rintro e wz ⟨rfl,rfl⟩) | (go_at_call_of 69 (Value.agg #[.int .i64 y0,.int .i64 y1,.int .i64 y2,.int .i64 y3,.int .i64 y4]);refine(HOFy.out _).mono ?_;rintro e Wy ⟨rfl,hry,hby⟩;simp only[List.length_cons,List.length_nil] at hry;have hbw:Below W2.heap.size W2 Wy:=(Below.refl _ _).drew.trans (hby.mono (Nat.le_refl _))) | (go_at_call_of 69 (Value.agg #[.int .i64 x0,.int .i64 x1,.int .i64 x2,.int .i64 x3,.int .i64 x4]);refine(HOFx.out _).mono ?_;rintro e Wx ⟨rfl,hrx,hbx⟩;simp only[List.length_cons,List.length_nil] at hrx;have hbw2:Below W2.heap.size W2 Wx:=hbw.trans (hbx.mono hbw.size);have hry2:=hry.keep hbx) | (go_at_call 67;refine(HLS.out _ _ _ _ _ hry2 hrx).mono ?_;rintro e Wl ⟨rfl,hbl⟩;have hbw3:Below W2.heap.size W2 Wl:=hbw2.trans (hbl.mono hbw2.size)));refine hK _ _ (by first|exact HCK.out _ hbw3 | exact HCK.out _ hbw2 | exact HCK.out _ hbw | exact HC0.out) ?_;clear hK K))
           all_goals (refine Lx.lex_nil ?_)
           go_wp2_with fail
           go_roundw
           case rel=>exact⟨k+1,hlt,by go_num,HE,HB2.out.trans (hbw3.mono HB2.out.size)⟩
           case measure=>simp[intOf];omega
         ·have HP0:prevR r.loads k=none:=by unfold prevR;rw[if_pos (by omega)]
          have HE:Eqn ans (goF goodL R5.nums (prevR r.loads (k+1)) (r.loads.drop (k+1))&&goF goodC R4.nums none r.caps):=by rw[Eqn,HRR.out,HP0,goF_first hg,HNX.out]
          have k1:decide ((0:Int)<(k:Int))=false:=decide_eq_false (by omega)
          have k5:decide (0<k)=false:=decide_eq_false h0
          clear HRR HNX hg HY HPY h0 HP0
          refine Lx.region (C:=fun X=>Below W2.heap.size W2 X∧X.cell? ⟨wr.heap.size,0,none⟩=some (.int .i64 x0)∧X.cell? ⟨wr.heap.size,1,none⟩=some (.int .i64 x1)∧X.cell? ⟨wr.heap.size,2,none⟩=some (.int .i64 x2)∧X.cell? ⟨wr.heap.size,3,none⟩=some (.int .i64 x3)∧X.cell? ⟨wr.heap.size,4,none⟩=some (.int .i64 x4)) (hs:=[46]) (by kernel_rfl) (by kernel_rfl) HC0.out ?_
          repeat' (first|((first|refine Lx.ln (fun K hK=>?_) | (first|(refine Lx.lp (v:=?_) ?_ (fun K hK=>?_);rotate_left 1;intro w' hCw;try dsimp only at hCw) | (refine Lx.lr (v:=?_) ?_ (fun K hK=>?_);rotate_left 1));go_simp;first|done | with_reducible rfl);go_simp;refine hK _ ?_;clear hK K) | (refine Lx.le (fun K hK=>?_);go_simp;(first|(go_at_call 33;refine(HST.out _ _).mono ?_;rintro e wz ⟨rfl,rfl⟩) | (go_at_call 66;refine(HSP.out _ _ _).mono ?_;rintro e wz ⟨rfl,rfl⟩));refine hK _ _ (by first|exact HC0.out) ?_;clear hK K))
          all_goals (refine Lx.lex_nil ?_)
          go_wp2_with fail
          go_roundw
          case rel=>exact⟨k+1,hlt,by go_num,HE,HB2.out.drew⟩
          case measure=>simp[intOf];omega
  ·obtain rfl:k=n1:=by omega
   have HNEXT:Eqn ans (goF goodC R4.nums none r.caps):=by rw[Eqn,HR.out,drop_end (by rw[HL.out.2.1];omega)];simp[goF]
   clear hB HR hlt hk
   go_wp2_with fail
   exact HQ.out _ _ _ _ _ _ _ _ _ _ _ _ _ _ _ _ _ _ _ _ _ _ _ _ _ _ _ _ _ _ _ _ _ _ _ _ _ _ _ _ _ _ _ _ _ _ _ _ _ _ _ _ _ _ _ _ _ _ _ _ _ _ _ _ _ _ _ _ HNEXT HB.out
theorem rv_caps (w W0 wi:World) (A0 A1 A2:Option Addr) (n0 c0 n1 c1 n2 c2:Nat) (r:Rul) (ans:Bool) (h:RulAt W0 W0.heap.size ⟨A0,n0,c0,A1,n1,c1,A2,n2,c2⟩ r)
  (hx:Blk W0 w.heap.size 27 [.slice A0 n0 c0,.slice A1 n1 c1,.slice A2 n2 c2]) (hans:Eqn ans (goF goodC R4.nums none r.caps)) (hwi:Below W0.heap.size W0 wi)
  (_d0:n0≤4096) (_d1:n1≤1024) (d2:n2≤1024)
  (x_0 x_2 x_3 x_4 x_5 x_6 x_8 x_9 x_10 x_11 x_12 x_13 x_14 x_15 x_16 x_17 x_18 x_19 x_20 x_21 x_22 x_23 x_24 x_25 x_26 x_27 x_28 x_29 x_30 x_31 x_32 x_33 x_34 x_35 x_36 x_37 x_38 x_39 x_40 x_41 x_42 x_43 x_44 x_45 x_46 x_47 x_48 x_49 x_50 x_51 x_52 x_53 x_54 x_55 x_56 x_57 x_58 x_59 x_60 x_61 x_62 x_63 x_64 x_65 x_66 x_67 x_68 x_69 x_70 x_71 x_72 x_73 x_74 x_75 x_76 x_77 x_78 x_79 x_80 x_81 x_82 x_83 x_84 x_85 x_86 x_87 x_88 x_89 x_90 x_91 x_92 x_93 x_94 x_95 x_96 x_97 x_98 x_99 x_100 x_101 x_102 x_103 x_104 x_105 x_106 x_107 x_108 x_109 x_110 x_111 x_112 x_113 x_114 x_115 x_116 x_117 x_118 x_119 x_120 x_121 x_122 x_123 x_124 x_125 x_126 x_127 x_128 x_129 x_130 x_131 x_132 x_133 x_134 x_135 x_136 x_137 x_138 x_139 x_140 x_141 x_142 x_143 x_144 x_145 x_146 x_147 x_148 x_149 x_150 x_151 x_152 x_153 x_154 x_155 x_156 x_157 x_158 x_159 x_160 x_161 x_162 x_163 x_164 x_165 x_166 x_167 x_168 x_169 x_170 x_171 x_172 x_173 x_174 x_175 x_176 x_177 x_178 x_179 x_180 x_181 x_182 x_183 x_184 x_185 x_186 x_187 x_188 x_189 x_190 x_191 x_192 x_193 x_194 x_195 x_196 x_197 x_198 x_199 x_200 x_201 x_202 x_203:Value) (Q:Exit→Act→World→Prop)
  (hQ:∀(u2 u7 u8 u153 u154 u155 u156 u157 u158 u159 u160 u161 u162 u163 u164 u165 u166 u167 u168 u169 u170 u171 u172 u173 u174 u175 u176 u177 u178 u179 u180 u181 u182 u183 u184 u185 u186 u187 u188 u189 u190 u191 u192 u193 u194 u195 u196 u197 u198 u199 u200 u201 u202 u203:Value) (w':World),Eqn ans (true)→Below W0.heap.size W0 w'→Q (.exit 4) ⟨List.toArray (x_0::Value.pointer (some ⟨w.heap.size,0,none⟩)::u2::x_3::x_4::x_5::x_6::u7::u8::x_9::x_10::x_11::x_12::x_13::x_14::x_15::x_16::x_17::x_18::x_19::x_20::x_21::x_22::x_23::x_24::x_25::x_26::x_27::x_28::x_29::x_30::x_31::x_32::x_33::x_34::x_35::x_36::x_37::x_38::x_39::x_40::x_41::x_42::x_43::x_44::x_45::x_46::x_47::x_48::x_49::x_50::x_51::x_52::x_53::x_54::x_55::x_56::x_57::x_58::x_59::x_60::x_61::x_62::x_63::x_64::x_65::x_66::x_67::x_68::x_69::x_70::x_71::x_72::x_73::x_74::x_75::x_76::x_77::x_78::x_79::x_80::x_81::x_82::x_83::x_84::x_85::x_86::x_87::x_88::x_89::x_90::x_91::x_92::x_93::x_94::x_95::x_96::x_97::x_98::x_99::x_100::x_101::x_102::x_103::x_104::x_105::x_106::x_107::x_108::x_109::x_110::x_111::x_112::x_113::x_114::x_115::x_116::x_117::x_118::x_119::x_120::x_121::x_122::x_123::x_124::x_125::x_126::x_127::x_128::x_129::x_130::x_131::x_132::x_133::x_134::x_135::x_136::x_137::x_138::x_139::x_140::x_141::x_142::x_143::x_144::x_145::x_146::x_147::x_148::x_149::x_150::x_151::x_152::u153::u154::u155::u156::u157::u158::u159::u160::u161::u162::u163::u164::u165::u166::u167::u168::u169::u170::u171::u172::u173::u174::u175::u176::u177::u178::u179::u180::u181::u182::u183::u184::u185::u186::u187::u188::u189::u190::u191::u192::u193::u194::u195::u196::u197::u198::u199::u200::u201::u202::u203::[]),[]⟩ w')
  (hR:∀(u7 u8 u153 u154 u155 u156 u157 u158 u159 u160 u161 u162 u163 u164 u165 u166 u167 u168 u169 u170 u171 u172 u173 u174 u175 u176 u177 u178 u179 u180 u181 u182 u183 u184 u185 u186 u187 u188 u189 u190 u191 u192 u193 u194 u195 u196 u197 u198 u199 u200 u201 u202 u203:Value) (w':World),Eqn ans false→Below W0.heap.size W0 w'→Q .ret ⟨List.toArray (x_0::Value.pointer (some ⟨w.heap.size,0,none⟩)::Value.bool false::x_3::x_4::x_5::x_6::u7::u8::x_9::x_10::x_11::x_12::x_13::x_14::x_15::x_16::x_17::x_18::x_19::x_20::x_21::x_22::x_23::x_24::x_25::x_26::x_27::x_28::x_29::x_30::x_31::x_32::x_33::x_34::x_35::x_36::x_37::x_38::x_39::x_40::x_41::x_42::x_43::x_44::x_45::x_46::x_47::x_48::x_49::x_50::x_51::x_52::x_53::x_54::x_55::x_56::x_57::x_58::x_59::x_60::x_61::x_62::x_63::x_64::x_65::x_66::x_67::x_68::x_69::x_70::x_71::x_72::x_73::x_74::x_75::x_76::x_77::x_78::x_79::x_80::x_81::x_82::x_83::x_84::x_85::x_86::x_87::x_88::x_89::x_90::x_91::x_92::x_93::x_94::x_95::x_96::x_97::x_98::x_99::x_100::x_101::x_102::x_103::x_104::x_105::x_106::x_107::x_108::x_109::x_110::x_111::x_112::x_113::x_114::x_115::x_116::x_117::x_118::x_119::x_120::x_121::x_122::x_123::x_124::x_125::x_126::x_127::x_128::x_129::x_130::x_131::x_132::x_133::x_134::x_135::x_136::x_137::x_138::x_139::x_140::x_141::x_142::x_143::x_144::x_145::x_146::x_147::x_148::x_149::x_150::x_151::x_152::u153::u154::u155::u156::u157::u158::u159::u160::u161::u162::u163::u164::u165::u166::u167::u168::u169::u170::u171::u172::u173::u174::u175::u176::u177::u178::u179::u180::u181::u182::u183::u184::u185::u186::u187::u188::u189::u190::u191::u192::u193::u194::u195::u196::u197::u198::u199::u200::u201::u202::u203::[]),[]⟩ w'):
  Code.wp Tryz.prog (Code.loop (rvLoop 2)) Q ⟨List.toArray (x_0::Value.pointer (some ⟨w.heap.size,0,none⟩)::x_2::x_3::x_4::x_5::x_6::Value.int .i64 0::x_8::x_9::x_10::x_11::x_12::x_13::x_14::x_15::x_16::x_17::x_18::x_19::x_20::x_21::x_22::x_23::x_24::x_25::x_26::x_27::x_28::x_29::x_30::x_31::x_32::x_33::x_34::x_35::x_36::x_37::x_38::x_39::x_40::x_41::x_42::x_43::x_44::x_45::x_46::x_47::x_48::x_49::x_50::x_51::x_52::x_53::x_54::x_55::x_56::x_57::x_58::x_59::x_60::x_61::x_62::x_63::x_64::x_65::x_66::x_67::x_68::x_69::x_70::x_71::x_72::x_73::x_74::x_75::x_76::x_77::x_78::x_79::x_80::x_81::x_82::x_83::x_84::x_85::x_86::x_87::x_88::x_89::x_90::x_91::x_92::x_93::x_94::x_95::x_96::x_97::x_98::x_99::x_100::x_101::x_102::x_103::x_104::x_105::x_106::x_107::x_108::x_109::x_110::x_111::x_112::x_113::x_114::x_115::x_116::x_117::x_118::x_119::x_120::x_121::x_122::x_123::x_124::x_125::x_126::x_127::x_128::x_129::x_130::x_131::x_132::x_133::x_134::x_135::x_136::x_137::x_138::x_139::x_140::x_141::x_142::x_143::x_144::x_145::x_146::x_147::x_148::x_149::x_150::x_151::x_152::x_153::x_154::x_155::x_156::x_157::x_158::x_159::x_160::x_161::x_162::x_163::x_164::x_165::x_166::x_167::x_168::x_169::x_170::x_171::x_172::x_173::x_174::x_175::x_176::x_177::x_178::x_179::x_180::x_181::x_182::x_183::x_184::x_185::x_186::x_187::x_188::x_189::x_190::x_191::x_192::x_193::x_194::x_195::x_196::x_197::x_198::x_199::x_200::x_201::x_202::x_203::[]),[]⟩ wi:=by
 have HQ:=Lib.hid hQ
 have HRT:=Lib.hid hR
 have HC:Hid (∀ W,Below W0.heap.size W0 W→W.cell? ⟨w.heap.size,0,none⟩=some (.slice A0 n0 c0)∧W.cell? ⟨w.heap.size,1,none⟩=some (.slice A1 n1 c1)∧W.cell? ⟨w.heap.size,2,none⟩=some (.slice A2 n2 c2)):=Lib.hid (fun W hb=>⟨(hx.keep hb).cell rfl,(hx.keep hb).cell rfl,(hx.keep hb).cell rfl⟩)
 have HH:=Lib.hid h
 have HL:Hid (r.pairs.length=n0∧r.loads.length=n1∧r.caps.length=n2):=Lib.hid ⟨h.1.1,h.2.1.1,h.2.2.1.1⟩
 have HST:=Lib.hid (fun n w=>rst_any n w)
 have HSP:=Lib.hid (fun a b w=>rsp_any a b w)
 have HANS:Eqn ans (goF goodC R4.nums (prevR r.caps 0) (r.caps.drop 0)):=hans
 have B0:=Lib.hid hwi
 clear h hx hans hwi hQ hR
 conv=>arg 2;arg 1;whnf
 go_loopw [7] (fun i wr=>∃ k:Nat,k≤n2∧i=.int .i64 k∧Eqn ans (goF goodC R4.nums (prevR r.caps k) (r.caps.drop k))∧Below W0.heap.size W0 wr) (fun i _=>n2 - (intOf i).toNat)
 case atStart=>exact⟨0,Nat.zero_le _,rfl,HANS,B0.out⟩
 case round=>
  obtain⟨k,hk,rfl,HR,hB⟩:=hrel
  have HB:=Lib.hid hB
  have hbs:=hB.size
  obtain⟨b0,b1,b2⟩:=HC.out _ hB
  have hwr:w.heap.size<wr.heap.size:=(cell_lt b0)
  by_cases hlt:k<n2
  ·obtain⟨p,hp,hpd⟩:=drop_at (xs:=r.caps) (k:=k) (by rw[HL.out.2.2];exact hlt)
   have hrow:=HH.out.2.2.1.below hB
   obtain⟨b,off,hA,hbl,hc⟩:=hrow.2 (by dsimp only;omega)
   dsimp only at hA hbl hc
   subst hA
   have e0:=hc k p hp 0 (by omega)
   have e1:=hc k p hp 1 (by omega)
   have e2:=hc k p hp 2 (by omega)
   have e3:=hc k p hp 3 (by omega)
   have hnx:prevR r.caps (k+1)=some p:=by rw[prevR_succ,hp]
   obtain⟨y,hy,hpy⟩:∃ y:R4,(0<k→∀ j,j<4→wr.cell? ⟨b,off+(k - 1) * 4+j,none⟩=some (y.cell j))∧(0<k→prevR r.caps k=some y):=by
    by_cases h0:0<k
    ·obtain⟨q,hq,_⟩:=drop_at (xs:=r.caps) (k:=k - 1) (by rw[HL.out.2.2];omega)
     exact⟨q,fun _ j hj=>hc (k - 1) q hq j hj,fun _=>by unfold prevR;rw[if_neg (by omega),hq]⟩
    ·exact⟨p,fun h=>absurd h h0,fun h=>absurd h h0⟩
   obtain⟨x0,x1,x2,x3⟩:=p
   obtain⟨y0,y1,y2,y3⟩:=y
   simp only[R4.cell,Nat.add_zero] at e0 e1 e2 e3
   have HR2:=HR.out
   rw[hpd] at HR2
   have HRR:=Eqn.mk HR2
   have HNX:=Eqn.mk hnx
   have HPY:=Lib.hid hpy
   obtain⟨W2,hW2⟩:∃ W2,W2=wr.alloc (.cells #[.int .i64 x0,.int .i64 x1,.int .i64 x2,.int .i64 x3] 71):=⟨_,rfl⟩
   have hB2:Below wr.heap.size wr W2:=by rw[hW2];exact(Below.refl _ wr).alloc (Nat.le_refl _) _
   have hX:Blk W2 wr.heap.size 71 [.int .i64 x0,.int .i64 x1,.int .i64 x2,.int .i64 x3]:=by rw[hW2];exact blk_new _ _ _
   have v0:W2.cell? ⟨wr.heap.size,0,none⟩=some (.int .i64 x0):=hX.cell rfl
   have v1:W2.cell? ⟨wr.heap.size,1,none⟩=some (.int .i64 x1):=hX.cell rfl
   have v2:W2.cell? ⟨wr.heap.size,2,none⟩=some (.int .i64 x2):=hX.cell rfl
   have v3:W2.cell? ⟨wr.heap.size,3,none⟩=some (.int .i64 x3):=hX.cell rfl
   have hw2:=hX.lt
   have HX:=Lib.hid hX
   have HB2:=Lib.hid (hB.trans (hB2.mono hbs))
   obtain⟨z0,z1,z2⟩:=HC.out _ HB2.out
   have HY:Hid (0<k→∀ j,j<4→W2.cell? ⟨b,off+(k - 1) * 4+j,none⟩=some ((⟨y0,y1,y2,y3⟩:R4).cell j)):=Lib.hid (fun h j hj=>(hB2.cell (p:=⟨b,off+(k - 1) * 4+j,none⟩) (by dsimp only;omega)).trans (hy h j hj))
   have j0:(k:Int)<(n2:Int):=by omega
   have HOFx:Hid (∀ W,Calls Tryz.prog 70 #[.agg #[.int .i64 x0,.int .i64 x1,.int .i64 x2,.int .i64 x3]] W (NumsPost [x0,x1,x2,x3] W)):=Lib.hid (fun W=>rCapOf_any ⟨x0,x1,x2,x3⟩ W)
   have HOFy:Hid (∀ W,Calls Tryz.prog 70 #[.agg #[.int .i64 y0,.int .i64 y1,.int .i64 y2,.int .i64 y3]] W (NumsPost [y0,y1,y2,y3] W)):=Lib.hid (fun W=>rCapOf_any ⟨y0,y1,y2,y3⟩ W)
   have HLS:=Lib.hid (fun A B a b w h1 h2=>rless_any A B 4 4 4 4 a b w (by decide) h1 h2 rfl)
   have hC0:Below W2.heap.size W2 W2.drew∧W2.drew.cell? ⟨wr.heap.size,0,none⟩=some (.int .i64 x0)∧W2.drew.cell? ⟨wr.heap.size,1,none⟩=some (.int .i64 x1)∧W2.drew.cell? ⟨wr.heap.size,2,none⟩=some (.int .i64 x2)∧W2.drew.cell? ⟨wr.heap.size,3,none⟩=some (.int .i64 x3):=⟨(Below.refl _ _).drew,v0,v1,v2,v3⟩
   have HCK:Hid (∀ X,Below W2.heap.size W2 X→Below W2.heap.size W2 X∧X.cell? ⟨wr.heap.size,0,none⟩=some (.int .i64 x0)∧X.cell? ⟨wr.heap.size,1,none⟩=some (.int .i64 x1)∧X.cell? ⟨wr.heap.size,2,none⟩=some (.int .i64 x2)∧X.cell? ⟨wr.heap.size,3,none⟩=some (.int .i64 x3)):=Lib.hid (fun X hb=>⟨hb,(hb.cell (p:=⟨wr.heap.size,0,none⟩) hw2).trans v0,(hb.cell (p:=⟨wr.heap.size,1,none⟩) hw2).trans v1,(hb.cell (p:=⟨wr.heap.size,2,none⟩) hw2).trans v2,(hb.cell (p:=⟨wr.heap.size,3,none⟩) hw2).trans v3⟩)
   have HC0:=Lib.hid hC0
   clear hc hp hpd HR HR2 hB hrow hy hpy hnx hB2 hX hC0 hbl
   go_wp2_with fail
   rw[←hW2]
   clear hW2 b0 b1 b2 e0 e1 e2 e3
   by_cases hs0:stF x0=false
   ·have hg:goodC (⟨x0,x1,x2,x3⟩:R4)=false:=by unfold goodC;dsimp only;simp[hs0]
    have HE:Eqn ans false:=by rw[Eqn,HRR.out,goF_bad hg]
    clear HRR hg hlt HOFx HOFy HLS HPY HY HNX HCK
    refine Lx.region (C:=fun X=>Below W2.heap.size W2 X∧X.cell? ⟨wr.heap.size,0,none⟩=some (.int .i64 x0)∧X.cell? ⟨wr.heap.size,1,none⟩=some (.int .i64 x1)∧X.cell? ⟨wr.heap.size,2,none⟩=some (.int .i64 x2)∧X.cell? ⟨wr.heap.size,3,none⟩=some (.int .i64 x3)) (hs:=[33]) (by kernel_rfl) (by kernel_rfl) HC0.out ?_
    repeat' (first|((first|refine Lx.ln (fun K hK=>?_) | (first|(refine Lx.lp (v:=?_) ?_ (fun K hK=>?_);rotate_left 1;intro w' hCw;try dsimp only at hCw) | (refine Lx.lr (v:=?_) ?_ (fun K hK=>?_);rotate_left 1));go_simp;first|done | with_reducible rfl);go_simp;refine hK _ ?_;clear hK K) | (refine Lx.le (fun K hK=>?_);go_simp;(first|(go_at_call 33;refine(HST.out _ _).mono ?_;rintro e wz ⟨rfl,rfl⟩) | (go_at_call 66;refine(HSP.out _ _ _).mono ?_;rintro e wz ⟨rfl,rfl⟩));refine hK _ _ (by first|exact HC0.out) ?_;clear hK K))
    all_goals (refine Lx.lex_nil ?_)
    go_wp2_with fail
    exact HRT.out _ _ _ _ _ _ _ _ _ _ _ _ _ _ _ _ _ _ _ _ _ _ _ _ _ _ _ _ _ _ _ _ _ _ _ _ _ _ _ _ _ _ _ _ _ _ _ _ _ _ _ _ _ _ HE (HB2.out.drew)
   ·have hs0':stF x0=true:=by simpa using hs0
    by_cases hx1:x1<0
    ·have hg:goodC (⟨x0,x1,x2,x3⟩:R4)=false:=by unfold goodC;dsimp only;simp[show ¬(0≤x1) by omega]
     have HE:Eqn ans false:=by rw[Eqn,HRR.out,goF_bad hg]
     have hx1d:decide (x1<0)=true:=decide_eq_true hx1
     clear HRR hg hlt HOFx HOFy HLS HPY HY HNX HCK hx1
     refine Lx.region (C:=fun X=>Below W2.heap.size W2 X∧X.cell? ⟨wr.heap.size,0,none⟩=some (.int .i64 x0)∧X.cell? ⟨wr.heap.size,1,none⟩=some (.int .i64 x1)∧X.cell? ⟨wr.heap.size,2,none⟩=some (.int .i64 x2)∧X.cell? ⟨wr.heap.size,3,none⟩=some (.int .i64 x3)) (hs:=[33]) (by kernel_rfl) (by kernel_rfl) HC0.out ?_
     repeat' (first|((first|refine Lx.ln (fun K hK=>?_) | (first|(refine Lx.lp (v:=?_) ?_ (fun K hK=>?_);rotate_left 1;intro w' hCw;try dsimp only at hCw) | (refine Lx.lr (v:=?_) ?_ (fun K hK=>?_);rotate_left 1));go_simp;first|done | with_reducible rfl);go_simp;refine hK _ ?_;clear hK K) | (refine Lx.le (fun K hK=>?_);go_simp;(first|(go_at_call 33;refine(HST.out _ _).mono ?_;rintro e wz ⟨rfl,rfl⟩) | (go_at_call 66;refine(HSP.out _ _ _).mono ?_;rintro e wz ⟨rfl,rfl⟩));refine hK _ _ (by first|exact HC0.out) ?_;clear hK K))
     all_goals (refine Lx.lex_nil ?_)
     go_wp2_with fail
     exact HRT.out _ _ _ _ _ _ _ _ _ _ _ _ _ _ _ _ _ _ _ _ _ _ _ _ _ _ _ _ _ _ _ _ _ _ _ _ _ _ _ _ _ _ _ _ _ _ _ _ _ _ _ _ _ _ HE (HB2.out.drew)
    ·have hx1':decide (x1<0)=false:=by exact decide_eq_false hx1
     by_cases hx2:(1099511627776:Int)<x1
     ·have hg:goodC (⟨x0,x1,x2,x3⟩:R4)=false:=by unfold goodC;dsimp only;simp[show ¬(x1≤1099511627776) by omega]
      have HE:Eqn ans false:=by rw[Eqn,HRR.out,goF_bad hg]
      have hx2d:decide ((1099511627776:Int)<x1)=true:=decide_eq_true hx2
      clear HRR hg hlt HOFx HOFy HLS HPY HY HNX HCK hx2
      refine Lx.region (C:=fun X=>Below W2.heap.size W2 X∧X.cell? ⟨wr.heap.size,0,none⟩=some (.int .i64 x0)∧X.cell? ⟨wr.heap.size,1,none⟩=some (.int .i64 x1)∧X.cell? ⟨wr.heap.size,2,none⟩=some (.int .i64 x2)∧X.cell? ⟨wr.heap.size,3,none⟩=some (.int .i64 x3)) (hs:=[33]) (by kernel_rfl) (by kernel_rfl) HC0.out ?_
      repeat' (first|((first|refine Lx.ln (fun K hK=>?_) | (first|(refine Lx.lp (v:=?_) ?_ (fun K hK=>?_);rotate_left 1;intro w' hCw;try dsimp only at hCw) | (refine Lx.lr (v:=?_) ?_ (fun K hK=>?_);rotate_left 1));go_simp;first|done | with_reducible rfl);go_simp;refine hK _ ?_;clear hK K) | (refine Lx.le (fun K hK=>?_);go_simp;(first|(go_at_call 33;refine(HST.out _ _).mono ?_;rintro e wz ⟨rfl,rfl⟩) | (go_at_call 66;refine(HSP.out _ _ _).mono ?_;rintro e wz ⟨rfl,rfl⟩));refine hK _ _ (by first|exact HC0.out) ?_;clear hK K))
      all_goals (refine Lx.lex_nil ?_)
      go_wp2_with fail
      exact HRT.out _ _ _ _ _ _ _ _ _ _ _ _ _ _ _ _ _ _ _ _ _ _ _ _ _ _ _ _ _ _ _ _ _ _ _ _ _ _ _ _ _ _ _ _ _ _ _ _ _ _ _ _ _ _ HE (HB2.out.drew)
     ·have hx2':decide ((1099511627776:Int)<x1)=false:=by exact decide_eq_false hx2
      by_cases hs3:spF x2 x3=false
      ·have hg:goodC (⟨x0,x1,x2,x3⟩:R4)=false:=by unfold goodC;dsimp only;simp[hs3]
       have HE:Eqn ans false:=by rw[Eqn,HRR.out,goF_bad hg]
       clear HRR hg hlt HOFx HOFy HLS HPY HY HNX HCK
       refine Lx.region (C:=fun X=>Below W2.heap.size W2 X∧X.cell? ⟨wr.heap.size,0,none⟩=some (.int .i64 x0)∧X.cell? ⟨wr.heap.size,1,none⟩=some (.int .i64 x1)∧X.cell? ⟨wr.heap.size,2,none⟩=some (.int .i64 x2)∧X.cell? ⟨wr.heap.size,3,none⟩=some (.int .i64 x3)) (hs:=[33]) (by kernel_rfl) (by kernel_rfl) HC0.out ?_
       repeat' (first|((first|refine Lx.ln (fun K hK=>?_) | (first|(refine Lx.lp (v:=?_) ?_ (fun K hK=>?_);rotate_left 1;intro w' hCw;try dsimp only at hCw) | (refine Lx.lr (v:=?_) ?_ (fun K hK=>?_);rotate_left 1));go_simp;first|done | with_reducible rfl);go_simp;refine hK _ ?_;clear hK K) | (refine Lx.le (fun K hK=>?_);go_simp;(first|(go_at_call 33;refine(HST.out _ _).mono ?_;rintro e wz ⟨rfl,rfl⟩) | (go_at_call 66;refine(HSP.out _ _ _).mono ?_;rintro e wz ⟨rfl,rfl⟩));refine hK _ _ (by first|exact HC0.out) ?_;clear hK K))
       all_goals (refine Lx.lex_nil ?_)
       go_wp2_with fail
       exact HRT.out _ _ _ _ _ _ _ _ _ _ _ _ _ _ _ _ _ _ _ _ _ _ _ _ _ _ _ _ _ _ _ _ _ _ _ _ _ _ _ _ _ _ _ _ _ _ _ _ _ _ _ _ _ _ HE (HB2.out.drew)
      ·have hs3':spF x2 x3=true:=by simpa using hs3
       have hg:goodC (⟨x0,x1,x2,x3⟩:R4)=true:=by unfold goodC;dsimp only;simp[hs0',hs3',show 0≤x1 by omega,show x1≤1099511627776 by omega]
       clear hs0 hx1 hx2 hs3
       by_cases h0:0<k
       ·have HP:=Eqn.mk (HPY.out h0)
        obtain⟨k',hk'⟩:∃ k',k - 1=k':=⟨_,rfl⟩
        have HYY:=HY.out h0
        rw[hk'] at HYY
        have f0:=HYY 0 (by omega)
        have f1:=HYY 1 (by omega)
        have f2:=HYY 2 (by omega)
        have f3:=HYY 3 (by omega)
        simp only[R4.cell,Nat.add_zero] at f0 f1 f2 f3
        have k1:decide ((0:Int)<(k:Int))=true:=decide_eq_true (by omega)
        have k5:decide (0<k)=true:=decide_eq_true h0
        have r1:IntKind.i64.wrap ((k:Int) - 1)=(k':Int):=by rw[IntWalk.i64_in _ (by omega)];omega
        have r3:(k:Int) - 1=(k':Int):=by omega
        have r4:(0:Int)≤(k':Int):=by omega
        have r5:(k':Int)<(n2:Int):=by omega
        have r9:IntKind.i64.wrap (k':Int)=(k':Int):=IntWalk.i64_in _ (by omega)
        have HG:=Lib.hid hg
        clear hk' hg HYY HY HPY h0
        cases hll:lessL [y0,y1,y2,y3] [x0,x1,x2,x3] with
        | false=>
         have HE:Eqn ans false:=by rw[Eqn,HRR.out,HP.out,goF_not hll]
         clear HRR HP hlt
         refine Lx.region (C:=fun X=>Below W2.heap.size W2 X∧X.cell? ⟨wr.heap.size,0,none⟩=some (.int .i64 x0)∧X.cell? ⟨wr.heap.size,1,none⟩=some (.int .i64 x1)∧X.cell? ⟨wr.heap.size,2,none⟩=some (.int .i64 x2)∧X.cell? ⟨wr.heap.size,3,none⟩=some (.int .i64 x3)) (hs:=[33]) (by kernel_rfl) (by kernel_rfl) HC0.out ?_
         repeat' (first|((first|refine Lx.ln (fun K hK=>?_) | (first|(refine Lx.lp (v:=?_) ?_ (fun K hK=>?_);rotate_left 1;intro w' hCw;try dsimp only at hCw) | (refine Lx.lr (v:=?_) ?_ (fun K hK=>?_);rotate_left 1));go_simp;first|done | with_reducible rfl);go_simp;refine hK _ ?_;clear hK K) | (refine Lx.le (fun K hK=>?_);go_simp;(first|(go_at_call 33;refine(HST.out _ _).mono ?_;rintro e wz ⟨rfl,rfl⟩) | (go_at_call 66;refine(HSP.out _ _ _).mono ?_;rintro e wz ⟨rfl,rfl⟩) | (go_at_call_of 70 (Value.agg #[.int .i64 y0,.int .i64 y1,.int .i64 y2,.int .i64 y3]);refine(HOFy.out _).mono ?_;rintro e Wy ⟨rfl,hry,hby⟩;simp only[List.length_cons,List.length_nil] at hry;have hbw:Below W2.heap.size W2 Wy:=(Below.refl _ _).drew.trans (hby.mono (Nat.le_refl _))) | (go_at_call_of 70 (Value.agg #[.int .i64 x0,.int .i64 x1,.int .i64 x2,.int .i64 x3]);refine(HOFx.out _).mono ?_;rintro e Wx ⟨rfl,hrx,hbx⟩;simp only[List.length_cons,List.length_nil] at hrx;have hbw2:Below W2.heap.size W2 Wx:=hbw.trans (hbx.mono hbw.size);have hry2:=hry.keep hbx) | (go_at_call 67;refine(HLS.out _ _ _ _ _ hry2 hrx).mono ?_;rintro e Wl ⟨rfl,hbl⟩;have hbw3:Below W2.heap.size W2 Wl:=hbw2.trans (hbl.mono hbw2.size)));refine hK _ _ (by first|exact HCK.out _ hbw3 | exact HCK.out _ hbw2 | exact HCK.out _ hbw | exact HC0.out) ?_;clear hK K))
         all_goals (refine Lx.lex_nil ?_)
         go_wp2_with fail
         exact HRT.out _ _ _ _ _ _ _ _ _ _ _ _ _ _ _ _ _ _ _ _ _ _ _ _ _ _ _ _ _ _ _ _ _ _ _ _ _ _ _ _ _ _ _ _ _ _ _ _ _ _ _ _ _ _ HE (HB2.out.trans (hbw3.mono HB2.out.size))
        | true=>
         have HE:Eqn ans (goF goodC R4.nums (prevR r.caps (k+1)) (r.caps.drop (k+1))):=by rw[Eqn,HRR.out,HP.out,goF_less HG.out hll,HNX.out]
         clear HRR HP HNX
         refine Lx.region (C:=fun X=>Below W2.heap.size W2 X∧X.cell? ⟨wr.heap.size,0,none⟩=some (.int .i64 x0)∧X.cell? ⟨wr.heap.size,1,none⟩=some (.int .i64 x1)∧X.cell? ⟨wr.heap.size,2,none⟩=some (.int .i64 x2)∧X.cell? ⟨wr.heap.size,3,none⟩=some (.int .i64 x3)) (hs:=[33]) (by kernel_rfl) (by kernel_rfl) HC0.out ?_
         repeat' (first|((first|refine Lx.ln (fun K hK=>?_) | (first|(refine Lx.lp (v:=?_) ?_ (fun K hK=>?_);rotate_left 1;intro w' hCw;try dsimp only at hCw) | (refine Lx.lr (v:=?_) ?_ (fun K hK=>?_);rotate_left 1));go_simp;first|done | with_reducible rfl);go_simp;refine hK _ ?_;clear hK K) | (refine Lx.le (fun K hK=>?_);go_simp;(first|(go_at_call 33;refine(HST.out _ _).mono ?_;rintro e wz ⟨rfl,rfl⟩) | (go_at_call 66;refine(HSP.out _ _ _).mono ?_;rintro e wz ⟨rfl,rfl⟩) | (go_at_call_of 70 (Value.agg #[.int .i64 y0,.int .i64 y1,.int .i64 y2,.int .i64 y3]);refine(HOFy.out _).mono ?_;rintro e Wy ⟨rfl,hry,hby⟩;simp only[List.length_cons,List.length_nil] at hry;have hbw:Below W2.heap.size W2 Wy:=(Below.refl _ _).drew.trans (hby.mono (Nat.le_refl _))) | (go_at_call_of 70 (Value.agg #[.int .i64 x0,.int .i64 x1,.int .i64 x2,.int .i64 x3]);refine(HOFx.out _).mono ?_;rintro e Wx ⟨rfl,hrx,hbx⟩;simp only[List.length_cons,List.length_nil] at hrx;have hbw2:Below W2.heap.size W2 Wx:=hbw.trans (hbx.mono hbw.size);have hry2:=hry.keep hbx) | (go_at_call 67;refine(HLS.out _ _ _ _ _ hry2 hrx).mono ?_;rintro e Wl ⟨rfl,hbl⟩;have hbw3:Below W2.heap.size W2 Wl:=hbw2.trans (hbl.mono hbw2.size)));refine hK _ _ (by first|exact HCK.out _ hbw3 | exact HCK.out _ hbw2 | exact HCK.out _ hbw | exact HC0.out) ?_;clear hK K))
         all_goals (refine Lx.lex_nil ?_)
         go_wp2_with fail
         go_roundw
         case rel=>exact⟨k+1,hlt,by go_num,HE,HB2.out.trans (hbw3.mono HB2.out.size)⟩
         case measure=>simp[intOf];omega
       ·have HP0:prevR r.caps k=none:=by unfold prevR;rw[if_pos (by omega)]
        have HE:Eqn ans (goF goodC R4.nums (prevR r.caps (k+1)) (r.caps.drop (k+1))):=by rw[Eqn,HRR.out,HP0,goF_first hg,HNX.out]
        have k1:decide ((0:Int)<(k:Int))=false:=decide_eq_false (by omega)
        have k5:decide (0<k)=false:=decide_eq_false h0
        clear HRR HNX hg HY HPY h0 HP0
        refine Lx.region (C:=fun X=>Below W2.heap.size W2 X∧X.cell? ⟨wr.heap.size,0,none⟩=some (.int .i64 x0)∧X.cell? ⟨wr.heap.size,1,none⟩=some (.int .i64 x1)∧X.cell? ⟨wr.heap.size,2,none⟩=some (.int .i64 x2)∧X.cell? ⟨wr.heap.size,3,none⟩=some (.int .i64 x3)) (hs:=[33]) (by kernel_rfl) (by kernel_rfl) HC0.out ?_
        repeat' (first|((first|refine Lx.ln (fun K hK=>?_) | (first|(refine Lx.lp (v:=?_) ?_ (fun K hK=>?_);rotate_left 1;intro w' hCw;try dsimp only at hCw) | (refine Lx.lr (v:=?_) ?_ (fun K hK=>?_);rotate_left 1));go_simp;first|done | with_reducible rfl);go_simp;refine hK _ ?_;clear hK K) | (refine Lx.le (fun K hK=>?_);go_simp;(first|(go_at_call 33;refine(HST.out _ _).mono ?_;rintro e wz ⟨rfl,rfl⟩) | (go_at_call 66;refine(HSP.out _ _ _).mono ?_;rintro e wz ⟨rfl,rfl⟩));refine hK _ _ (by first|exact HC0.out) ?_;clear hK K))
        all_goals (refine Lx.lex_nil ?_)
        go_wp2_with fail
        go_roundw
        case rel=>exact⟨k+1,hlt,by go_num,HE,HB2.out.drew⟩
        case measure=>simp[intOf];omega
  ·obtain rfl:k=n2:=by omega
   have HNEXT:Eqn ans (true):=by rw[Eqn,HR.out,drop_end (by rw[HL.out.2.2];omega)];simp[goF]
   clear hB HR hlt hk
   go_wp2_with fail
   exact HQ.out _ _ _ _ _ _ _ _ _ _ _ _ _ _ _ _ _ _ _ _ _ _ _ _ _ _ _ _ _ _ _ _ _ _ _ _ _ _ _ _ _ _ _ _ _ _ _ _ _ _ _ _ _ _ _ HNEXT HB.out
end Go.Proofs.YtjakdikhdndlgaaGreatDoor
