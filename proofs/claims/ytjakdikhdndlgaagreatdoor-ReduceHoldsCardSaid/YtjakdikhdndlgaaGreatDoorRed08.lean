/- Lemmas of the proof, part 8. Conditions: none. -/
import Derived.Deep.CutBlock
import Derived.Test.YtjakdikhdndlgaaGreatDoorRed07
set_option maxRecDepth 100000
set_option maxHeartbeats 8000000
namespace Go.Proofs.YtjakdikhdndlgaaGreatDoor
open Go.RowKit
theorem vd_caps (w W0 wi:World) (A:Option Addr) (n c:Nat) (A0 A1 A2:Option Addr) (n0 c0 n1 c1 n2 c2:Nat) (ds:List Dom) (ans rest:Bool) (hn:n≤512) (h:DomsAt W0 W0.heap.size A n ds)
  (hx:Blk W0 w.heap.size 29 [.slice A n c,.slice A0 n0 c0,.slice A1 n1 c1,.slice A2 n2 c2]) (l:List R4) (hlr:RowS 4 R4.cell W0 W0.heap.size A2 n2 l) (hln:n2≤4096) (hans:Eqn ans (l.all (fun x=>inD ds x.a)&&rest)) (hwi:Below W0.heap.size W0 wi)
  (x_0 x_2 x_3 x_4 x_5 x_6 x_7 x_9 x_10 x_11 x_12 x_13 x_14 x_15 x_16 x_17 x_18 x_19 x_20 x_21 x_22 x_23 x_24 x_25 x_26 x_27 x_28 x_29 x_30 x_31 x_32 x_33 x_34 x_35 x_36 x_37 x_38 x_39 x_40 x_41 x_42 x_43 x_44 x_45 x_46 x_47 x_48 x_49 x_50 x_51 x_52 x_53 x_54 x_55 x_56 x_57 x_58 x_59 x_60 x_61 x_62 x_63 x_64 x_65 x_66 x_67 x_68 x_69 x_70 x_71 x_72 x_73 x_74 x_75 x_76 x_77 x_78 x_79 x_80 x_81 x_82 x_83 x_84 x_85 x_86 x_87 x_88 x_89 x_90 x_91 x_92 x_93 x_94 x_95 x_96 x_97 x_98 x_99 x_100 x_101 x_102 x_103 x_104 x_105 x_106 x_107 x_108 x_109 x_110 x_111 x_112 x_113 x_114 x_115 x_116 x_117 x_118 x_119 x_120 x_121 x_122 x_123 x_124 x_125 x_126 x_127 x_128 x_129 x_130 x_131 x_132 x_133 x_134 x_135 x_136 x_137 x_138 x_139 x_140 x_141 x_142 x_143 x_144 x_145 x_146 x_147 x_148 x_149 x_150 x_151 x_152 x_153 x_154 x_155 x_156 x_157 x_158 x_159 x_160 x_161 x_162 x_163 x_164 x_165 x_166 x_167 x_168 x_169 x_170 x_171 x_172 x_173:Value) (Q:Exit→Act→World→Prop)
  (hQ:∀(u2 u8 u156 u157 u158 u159 u160 u161 u162 u163 u164 u165 u166 u167 u168 u169 u170 u171 u172 u173:Value) (w':World),Eqn ans rest→Below W0.heap.size W0 w'→Q (.exit 8) ⟨List.toArray (x_0::Value.pointer (some ⟨w.heap.size,0,none⟩)::u2::x_3::x_4::x_5::x_6::x_7::u8::x_9::x_10::x_11::x_12::x_13::x_14::x_15::x_16::x_17::x_18::x_19::x_20::x_21::x_22::x_23::x_24::x_25::x_26::x_27::x_28::x_29::x_30::x_31::x_32::x_33::x_34::x_35::x_36::x_37::x_38::x_39::x_40::x_41::x_42::x_43::x_44::x_45::x_46::x_47::x_48::x_49::x_50::x_51::x_52::x_53::x_54::x_55::x_56::x_57::x_58::x_59::x_60::x_61::x_62::x_63::x_64::x_65::x_66::x_67::x_68::x_69::x_70::x_71::x_72::x_73::x_74::x_75::x_76::x_77::x_78::x_79::x_80::x_81::x_82::x_83::x_84::x_85::x_86::x_87::x_88::x_89::x_90::x_91::x_92::x_93::x_94::x_95::x_96::x_97::x_98::x_99::x_100::x_101::x_102::x_103::x_104::x_105::x_106::x_107::x_108::x_109::x_110::x_111::x_112::x_113::x_114::x_115::x_116::x_117::x_118::x_119::x_120::x_121::x_122::x_123::x_124::x_125::x_126::x_127::x_128::x_129::x_130::x_131::x_132::x_133::x_134::x_135::x_136::x_137::x_138::x_139::x_140::x_141::x_142::x_143::x_144::x_145::x_146::x_147::x_148::x_149::x_150::x_151::x_152::x_153::x_154::x_155::u156::u157::u158::u159::u160::u161::u162::u163::u164::u165::u166::u167::u168::u169::u170::u171::u172::u173::[]),[]⟩ w')
  (hR:∀(u8 u156 u157 u158 u159 u160 u161 u162 u163 u164 u165 u166 u167 u168 u169 u170 u171 u172 u173:Value) (w':World),Eqn ans false→Below W0.heap.size W0 w'→Q .ret ⟨List.toArray (x_0::Value.pointer (some ⟨w.heap.size,0,none⟩)::Value.bool false::x_3::x_4::x_5::x_6::x_7::u8::x_9::x_10::x_11::x_12::x_13::x_14::x_15::x_16::x_17::x_18::x_19::x_20::x_21::x_22::x_23::x_24::x_25::x_26::x_27::x_28::x_29::x_30::x_31::x_32::x_33::x_34::x_35::x_36::x_37::x_38::x_39::x_40::x_41::x_42::x_43::x_44::x_45::x_46::x_47::x_48::x_49::x_50::x_51::x_52::x_53::x_54::x_55::x_56::x_57::x_58::x_59::x_60::x_61::x_62::x_63::x_64::x_65::x_66::x_67::x_68::x_69::x_70::x_71::x_72::x_73::x_74::x_75::x_76::x_77::x_78::x_79::x_80::x_81::x_82::x_83::x_84::x_85::x_86::x_87::x_88::x_89::x_90::x_91::x_92::x_93::x_94::x_95::x_96::x_97::x_98::x_99::x_100::x_101::x_102::x_103::x_104::x_105::x_106::x_107::x_108::x_109::x_110::x_111::x_112::x_113::x_114::x_115::x_116::x_117::x_118::x_119::x_120::x_121::x_122::x_123::x_124::x_125::x_126::x_127::x_128::x_129::x_130::x_131::x_132::x_133::x_134::x_135::x_136::x_137::x_138::x_139::x_140::x_141::x_142::x_143::x_144::x_145::x_146::x_147::x_148::x_149::x_150::x_151::x_152::x_153::x_154::x_155::u156::u157::u158::u159::u160::u161::u162::u163::u164::u165::u166::u167::u168::u169::u170::u171::u172::u173::[]),[]⟩ w'):
  Code.wp Tryz.prog (Code.loop (vdLoop 4)) Q ⟨List.toArray (x_0::Value.pointer (some ⟨w.heap.size,0,none⟩)::x_2::x_3::x_4::x_5::x_6::x_7::Value.int .i64 0::x_9::x_10::x_11::x_12::x_13::x_14::x_15::x_16::x_17::x_18::x_19::x_20::x_21::x_22::x_23::x_24::x_25::x_26::x_27::x_28::x_29::x_30::x_31::x_32::x_33::x_34::x_35::x_36::x_37::x_38::x_39::x_40::x_41::x_42::x_43::x_44::x_45::x_46::x_47::x_48::x_49::x_50::x_51::x_52::x_53::x_54::x_55::x_56::x_57::x_58::x_59::x_60::x_61::x_62::x_63::x_64::x_65::x_66::x_67::x_68::x_69::x_70::x_71::x_72::x_73::x_74::x_75::x_76::x_77::x_78::x_79::x_80::x_81::x_82::x_83::x_84::x_85::x_86::x_87::x_88::x_89::x_90::x_91::x_92::x_93::x_94::x_95::x_96::x_97::x_98::x_99::x_100::x_101::x_102::x_103::x_104::x_105::x_106::x_107::x_108::x_109::x_110::x_111::x_112::x_113::x_114::x_115::x_116::x_117::x_118::x_119::x_120::x_121::x_122::x_123::x_124::x_125::x_126::x_127::x_128::x_129::x_130::x_131::x_132::x_133::x_134::x_135::x_136::x_137::x_138::x_139::x_140::x_141::x_142::x_143::x_144::x_145::x_146::x_147::x_148::x_149::x_150::x_151::x_152::x_153::x_154::x_155::x_156::x_157::x_158::x_159::x_160::x_161::x_162::x_163::x_164::x_165::x_166::x_167::x_168::x_169::x_170::x_171::x_172::x_173::[]),[]⟩ wi:=by
 have HQ:=Lib.hid hQ
 have HRT:=Lib.hid hR
 have HX:=Lib.hid hx
 have HC:Hid (∀ W,Below W0.heap.size W0 W→W.cell? ⟨w.heap.size,0,none⟩=some (.slice A n c)∧W.cell? ⟨w.heap.size,1,none⟩=some (.slice A0 n0 c0)∧W.cell? ⟨w.heap.size,2,none⟩=some (.slice A1 n1 c1)∧W.cell? ⟨w.heap.size,3,none⟩=some (.slice A2 n2 c2)):=Lib.hid (fun W hb=>⟨(hx.keep hb).cell rfl,(hx.keep hb).cell rfl,(hx.keep hb).cell rfl,(hx.keep hb).cell rfl⟩)
 have HH:=Lib.hid h
 have Hlen:=Eqn.mk h.1.1
 have HST:=Lib.hid (fun n w=>rst_any n w)
 have HANS:=hans
 have B0:=Lib.hid hwi
 have HLR:=Lib.hid hlr
 have Hll:=Eqn.mk hlr.1
 have HFD:Hid (∀(x:Int) W,Below W0.heap.size W0 W→Calls Tryz.prog 21 #[.agg #[.slice A n c,.slice A0 n0 c0,.slice A1 n1 c1,.slice A2 n2 c2],.int .i64 x] W (RetPost (.int .i64 (findD x 0 ds)) W.heap.size W)):=Lib.hid (fun x W hW=>rfind_any ⟨A,n,c,⟨A0,n0,c0,A1,n1,c1,A2,n2,c2⟩⟩ x W ds (by dsimp only;omega) (h.keep hW))
 clear h hx hans hwi hQ hR hlr
 conv=>arg 2;arg 1;whnf
 go_loopw [8] (fun i wr=>∃ k:Nat,k≤n2∧i=.int .i64 k∧Eqn ans ((l.drop k).all (fun x=>inD ds x.a)&&rest)∧Below W0.heap.size W0 wr) (fun i _=>n2 - (intOf i).toNat)
 case atStart=>exact⟨0,Nat.zero_le _,rfl,HANS,B0.out⟩
 case round=>
  clear HANS
  obtain⟨k,hk,rfl,HR,hB⟩:=hrel
  have HB:=Lib.hid hB
  have hbs:=hB.size
  obtain⟨b0,b1,b2,b3⟩:=HC.out _ hB
  have hwr:w.heap.size<wr.heap.size:=(HX.out.keep hB).lt
  by_cases hlt:k<n2
  ·obtain⟨y,hy,hyd⟩:=drop_at (xs:=l) (k:=k) (by rw[Hll.out];exact hlt)
   obtain⟨b,off,hA,hbl,hc⟩:=(HLR.out.below hB).2 (by omega)
   subst hA
   have HRR:Eqn ans ((fun x=>inD ds x.a) y&&((l.drop (k+1)).all (fun x=>inD ds x.a)&&rest)):=by rw[Eqn,HR.out,hyd,List.all_cons,Bool.and_assoc]
   have e0:=hc k y hy 0 (by omega)
   have hbw:b<wr.heap.size:=by omega
   have j0:(k:Int)<(n2:Int):=by omega
   obtain⟨y0,y1,y2,y3⟩:=y
   simp only[R4.cell,Nat.add_zero] at e0
   dsimp only at *
   have HFW:Hid (∀(x:Int) W,Below wr.heap.size wr W→Calls Tryz.prog 21 #[.agg #[.slice A n c,.slice A0 n0 c0,.slice A1 n1 c1,.slice (some ⟨b,off,none⟩) n2 c2],.int .i64 x] W (RetPost (.int .i64 (findD x 0 ds)) W.heap.size W)):=Lib.hid (fun x W hW=>HFD.out x W (HB.out.trans (hW.mono hbs)))
   have HDR:=Lib.hid ((Below.refl wr.heap.size wr).drew)
   clear hc hy hyd HR hB
   go_wp2_with fail
   by_cases h0:findD y0 0 ds<0
   ·have hi0:inD ds y0=false:=by unfold inD;exact decide_eq_false (by omega)
    have HE:Eqn ans false:=by rw[Eqn,HRR.out];simp[hi0]
    have g0:decide (findD y0 0 ds<0)=true:=decide_eq_true h0
    clear HRR hi0 h0
    refine Lx.region (C:=fun X=>Below wr.heap.size wr X) (hs:=[]) (by kernel_rfl) (by kernel_rfl) HDR.out ?_
    repeat' (first|((first|refine Lx.ln (fun K hK=>?_) | (first|(refine Lx.lp (v:=?_) ?_ (fun K hK=>?_);rotate_left 1;intro w' hCw;try dsimp only at hCw) | (refine Lx.lr (v:=?_) ?_ (fun K hK=>?_);rotate_left 1));go_simp;first|done | with_reducible rfl);go_simp;refine hK _ ?_;clear hK K) | (refine Lx.le (fun K hK=>?_);go_simp;(first|(go_at_call_of 21 (Value.int .i64 y0);refine(HFW.out y0 _ HDR.out).mono ?_;rintro e Wx ⟨rfl,hbx⟩;have hbx1:Below wr.heap.size wr Wx:=HDR.out.trans (hbx.mono HDR.out.size)));refine hK _ _ (hbx1) ?_;clear hK K))
    all_goals (refine Lx.lex_nil ?_)
    go_wp2_with fail
    exact HRT.out _ _ _ _ _ _ _ _ _ _ _ _ _ _ _ _ _ _ _ _ HE (HB.out.trans (hbx1.mono hbs))
   have hi0:inD ds y0=true:=by unfold inD;exact decide_eq_true (by omega)
   have g0:decide (findD y0 0 ds<0)=false:=decide_eq_false h0
   clear h0
   have HN:Eqn ans ((l.drop (k+1)).all (fun x=>inD ds x.a)&&rest):=by rw[Eqn,HRR.out];simp[hi0]
   clear HRR hi0
   refine Lx.region (C:=fun X=>Below wr.heap.size wr X) (hs:=[]) (by kernel_rfl) (by kernel_rfl) HDR.out ?_
   repeat' (first|((first|refine Lx.ln (fun K hK=>?_) | (first|(refine Lx.lp (v:=?_) ?_ (fun K hK=>?_);rotate_left 1;intro w' hCw;try dsimp only at hCw) | (refine Lx.lr (v:=?_) ?_ (fun K hK=>?_);rotate_left 1));go_simp;first|done | with_reducible rfl);go_simp;refine hK _ ?_;clear hK K) | (refine Lx.le (fun K hK=>?_);go_simp;(first|(go_at_call_of 21 (Value.int .i64 y0);refine(HFW.out y0 _ HDR.out).mono ?_;rintro e Wx ⟨rfl,hbx⟩;have hbx1:Below wr.heap.size wr Wx:=HDR.out.trans (hbx.mono HDR.out.size)));refine hK _ _ (hbx1) ?_;clear hK K))
   all_goals (refine Lx.lex_nil ?_)
   go_wp2_with fail
   go_roundw
   case rel=>exact⟨k+1,hlt,by go_num,HN,HB.out.trans (hbx1.mono hbs)⟩
   case measure=>simp[intOf];omega
  ·obtain rfl:k=n2:=by omega
   have HNEXT:Eqn ans rest:=by rw[Eqn,HR.out,drop_end (by rw[Hll.out];omega)];rfl
   clear hB HR hlt hk
   go_wp2_with fail
   exact HQ.out _ _ _ _ _ _ _ _ _ _ _ _ _ _ _ _ _ _ _ _ _ HNEXT HB.out
theorem rvalid_any (s:PrbS) (w:World) (ds:List Dom) (r:Rul) (hn:s.nd≤9223372036854775807) (h:PrbAt w w.heap.size s ds r):Calls Tryz.prog 10 #[s.val] w (RetPost (.bool (validR ds r)) w.heap.size w):=by
 obtain⟨A,n,c,⟨A0,n0,c0,A1,n1,c1,A2,n2,c2⟩⟩:=s
 obtain⟨W0,hW0⟩:∃ W0,W0=w.alloc (.cells #[.slice A n c,.slice A0 n0 c0,.slice A1 n1 c1,.slice A2 n2 c2] 29):=⟨_,rfl⟩
 have HB0:Hid (Below w.heap.size w W0):=Lib.hid (by rw[hW0];exact(Below.refl _ w).alloc (Nat.le_refl _) _)
 have h0:DomsAt W0 W0.heap.size A n ds:=h.1.keep HB0.out
 have h1:RulAt W0 W0.heap.size ⟨A0,n0,c0,A1,n1,c1,A2,n2,c2⟩ r:=h.2.keep HB0.out
 have hs0:W0.heap.size=w.heap.size+1:=by rw[hW0];simp
 have hX:Blk W0 w.heap.size 29 [.slice A n c,.slice A0 n0 c0,.slice A1 n1 c1,.slice A2 n2 c2]:=by rw[hW0];exact blk_new w _ _
 have HBW:Hid (∀ W,Below W0.heap.size W0 W→Below w.heap.size w W):=Lib.hid (fun W hb=>HB0.out.trans (hb.mono HB0.out.size))
 have HH:=Lib.hid h0
 have HR:=Lib.hid h1
 have HX:=Lib.hid hX
 have Hlen:=Eqn.mk h0.1.1
 have HVR:Hid (∀ W,Below W0.heap.size W0 W→Calls Tryz.prog 32 #[.agg #[.slice A0 n0 c0,.slice A1 n1 c1,.slice A2 n2 c2]] W (RetPost (.bool (rulesR r)) W.heap.size W)):=Lib.hid (fun W hW=>rrules_any ⟨A0,n0,c0,A1,n1,c1,A2,n2,c2⟩ W r (h1.keep hW))
 have B0:=Lib.hid (Below.refl W0.heap.size W0)
 have q0:W0.cell? ⟨w.heap.size,0,none⟩=some (.slice A n c):=hX.cell rfl
 have q1:W0.cell? ⟨w.heap.size,1,none⟩=some (.slice A0 n0 c0):=hX.cell rfl
 have q2:W0.cell? ⟨w.heap.size,2,none⟩=some (.slice A1 n1 c1):=hX.cell rfl
 have q3:W0.cell? ⟨w.heap.size,3,none⟩=some (.slice A2 n2 c2):=hX.cell rfl
 have q4:=hX.lt
 unfold PrbS.val
 dsimp only at *
 have hRL:=h1.2.2.2
 dsimp only at hRL
 obtain⟨l0,l1,l2⟩:=hRL
 clear h h0 h1 hX hs0
 by_cases hnn:512<n
 ·have HF:Eqn (validR ds r) false:=by rw[Eqn,validR];simp[Hlen.out,show ¬n≤512 by omega]
  have d0:(512:Int)<(n:Int):=by omega
  clear hnn
  go_enter Tryz.func10,Tryz.ntmps10
  go_wp2_with fail
  go_ret
  exact⟨ret_bool HF.out.symm,by first|(rw[←hW0];exact HBW.out _ B0.out) | exact HBW.out _ B0.out⟩
 have hn5:n≤512:=by omega
 have d0:¬(512:Int)<(n:Int):=by omega
 have HF:Eqn (validR ds r) (rulesR r&&(domGo none ds&&(r.pairs.all (fun x=>inD ds x.a&&inD ds x.b)&&(r.loads.all (fun x=>inD ds x.a&&inD ds x.b)&&r.caps.all (fun x=>inD ds x.a))))):=by rw[Eqn,validR];simp[Hlen.out,hn5]
 have HRL:Hid (rulesR r=true→r.pairs.length≤4096∧r.loads.length≤1024∧r.caps.length≤1024):=Lib.hid (fun h=>rules_len (by rw[←rules_eq];exact h))
 go_enter Tryz.func10,Tryz.ntmps10
 clear hnn
 go_wp2_with fail
 rw[←hW0]
 clear hW0 q0 q1 q2 q3
 refine(HVR.out _ B0.out).mono ?_
 rintro e W1 ⟨rfl,hb1⟩
 have HB1:=Lib.hid hb1
 clear hb1
 cases hr:rulesR r with
 | false=>
  have HF2:Eqn (validR ds r) false:=by rw[Eqn,HF.out,hr];rfl
  clear hr HF
  go_wp2_with fail
  go_ret
  exact⟨ret_bool HF2.out.symm,HBW.out _ HB1.out⟩
 | true=>
  obtain⟨m0,m1,m2⟩:=HRL.out hr
  rw[HR.out.1.1] at m0
  rw[HR.out.2.1.1] at m1
  rw[HR.out.2.2.1.1] at m2
  dsimp only at m0 m1 m2
  have HANS:Eqn (validR ds r) (domGo none ds&&(r.pairs.all (fun x=>inD ds x.a&&inD ds x.b)&&(r.loads.all (fun x=>inD ds x.a&&inD ds x.b)&&r.caps.all (fun x=>inD ds x.a)))):=by rw[Eqn,HF.out,hr,Bool.true_and]
  clear hr HF HRL
  go_wp2_with fail
  refine vd_doms w W0 _ A n c A0 A1 A2 n0 c0 n1 c1 n2 c2 ds (validR ds r) (r.pairs.all (fun x=>inD ds x.a&&inD ds x.b)&&(r.loads.all (fun x=>inD ds x.a&&inD ds x.b)&&r.caps.all (fun x=>inD ds x.a))) hn5 HH.out HX.out HANS HB1.out _ _ _ _ _ _ _ _ _ _ _ _ _ _ _ _ _ _ _ _ _ _ _ _ _ _ _ _ _ _ _ _ _ _ _ _ _ _ _ _ _ _ _ _ _ _ _ _ _ _ _ _ _ _ _ _ _ _ _ _ _ _ _ _ _ _ _ _ _ _ _ _ _ _ _ _ _ _ _ _ _ _ _ _ _ _ _ _ _ _ _ _ _ _ _ _ _ _ _ _ _ _ _ _ _ _ _ _ _ _ _ _ _ _ _ _ _ _ _ _ _ _ _ _ _ _ _ _ _ _ _ _ _ _ _ _ _ _ _ _ _ _ _ _ _ _ _ _ _ _ _ _ _ _ _ _ _ _ _ _ _ _ _ _ _ _ _ _ _ _ _ _ _ ?_ ?_
  case refine_2=>
   intro u3 u4 u5 u19 u20 u21 u22 u23 u24 u25 u26 u27 u28 u29 u30 u31 u32 u33 u34 u35 u36 u37 u38 u39 u40 u41 u42 u43 u44 u45 u46 u47 u48 u49 u50 u51 u52 u53 u54 u55 u56 u57 u58 u59 u60 u61 u62 u63 u64 u65 u66 u67 u68 u69 u70 u71 u72 u73 u74 u75 u76 u77 u78 u79 u80 u81 u82 u83 u84 u85 u86 u87 u88 u89 u90 u91 u92 u93 u94 u95 w' hE hB
   have HB:=Lib.hid hB
   clear hB
   go_wp2_with fail
   go_ret
   exact⟨ret_bool hE.out.symm,HBW.out _ HB.out⟩
  intro u2 u3 u4 u5 u19 u20 u21 u22 u23 u24 u25 u26 u27 u28 u29 u30 u31 u32 u33 u34 u35 u36 u37 u38 u39 u40 u41 u42 u43 u44 u45 u46 u47 u48 u49 u50 u51 u52 u53 u54 u55 u56 u57 u58 u59 u60 u61 u62 u63 u64 u65 u66 u67 u68 u69 u70 u71 u72 u73 u74 u75 u76 u77 u78 u79 u80 u81 u82 u83 u84 u85 u86 u87 u88 u89 u90 u91 u92 u93 u94 u95 w0 hE0 hB0
  have HBB0:=Lib.hid hB0
  clear hB0
  go_wp2_with fail
  refine vd_pairs w W0 _ A n c A0 A1 A2 n0 c0 n1 c1 n2 c2 ds (validR ds r) (r.loads.all (fun x=>inD ds x.a&&inD ds x.b)&&r.caps.all (fun x=>inD ds x.a)) hn5 HH.out HX.out r.pairs HR.out.1 (by omega) hE0 HBB0.out _ _ _ _ _ _ _ _ _ _ _ _ _ _ _ _ _ _ _ _ _ _ _ _ _ _ _ _ _ _ _ _ _ _ _ _ _ _ _ _ _ _ _ _ _ _ _ _ _ _ _ _ _ _ _ _ _ _ _ _ _ _ _ _ _ _ _ _ _ _ _ _ _ _ _ _ _ _ _ _ _ _ _ _ _ _ _ _ _ _ _ _ _ _ _ _ _ _ _ _ _ _ _ _ _ _ _ _ _ _ _ _ _ _ _ _ _ _ _ _ _ _ _ _ _ _ _ _ _ _ _ _ _ _ _ _ _ _ _ _ _ _ _ _ _ _ _ _ _ _ _ _ _ _ _ _ _ _ _ _ _ _ _ _ _ _ _ _ _ _ _ _ _ ?_ ?_
  case refine_2=>
   intro u6 u96 u97 u98 u99 u100 u101 u102 u103 u104 u105 u106 u107 u108 u109 u110 u111 u112 u113 u114 u115 u116 u117 u118 u119 u120 u121 u122 u123 u124 u125 w' hE hB
   have HB:=Lib.hid hB
   clear hB
   go_wp2_with fail
   go_ret
   exact⟨ret_bool hE.out.symm,HBW.out _ HB.out⟩
  intro u2 u6 u96 u97 u98 u99 u100 u101 u102 u103 u104 u105 u106 u107 u108 u109 u110 u111 u112 u113 u114 u115 u116 u117 u118 u119 u120 u121 u122 u123 u124 u125 w1 hE1 hB1
  have HBB1:=Lib.hid hB1
  clear hB1
  go_wp2_with fail
  refine vd_loads w W0 _ A n c A0 A1 A2 n0 c0 n1 c1 n2 c2 ds (validR ds r) (r.caps.all (fun x=>inD ds x.a)) hn5 HH.out HX.out r.loads HR.out.2.1 (by omega) hE1 HBB1.out _ _ _ _ _ _ _ _ _ _ _ _ _ _ _ _ _ _ _ _ _ _ _ _ _ _ _ _ _ _ _ _ _ _ _ _ _ _ _ _ _ _ _ _ _ _ _ _ _ _ _ _ _ _ _ _ _ _ _ _ _ _ _ _ _ _ _ _ _ _ _ _ _ _ _ _ _ _ _ _ _ _ _ _ _ _ _ _ _ _ _ _ _ _ _ _ _ _ _ _ _ _ _ _ _ _ _ _ _ _ _ _ _ _ _ _ _ _ _ _ _ _ _ _ _ _ _ _ _ _ _ _ _ _ _ _ _ _ _ _ _ _ _ _ _ _ _ _ _ _ _ _ _ _ _ _ _ _ _ _ _ _ _ _ _ _ _ _ _ _ _ _ _ ?_ ?_
  case refine_2=>
   intro u7 u126 u127 u128 u129 u130 u131 u132 u133 u134 u135 u136 u137 u138 u139 u140 u141 u142 u143 u144 u145 u146 u147 u148 u149 u150 u151 u152 u153 u154 u155 w' hE hB
   have HB:=Lib.hid hB
   clear hB
   go_wp2_with fail
   go_ret
   exact⟨ret_bool hE.out.symm,HBW.out _ HB.out⟩
  intro u2 u7 u126 u127 u128 u129 u130 u131 u132 u133 u134 u135 u136 u137 u138 u139 u140 u141 u142 u143 u144 u145 u146 u147 u148 u149 u150 u151 u152 u153 u154 u155 w2 hE2 hB2
  have HBB2:=Lib.hid hB2
  clear hB2
  go_wp2_with fail
  refine vd_caps w W0 _ A n c A0 A1 A2 n0 c0 n1 c1 n2 c2 ds (validR ds r) (true) hn5 HH.out HX.out r.caps HR.out.2.2.1 (by omega) (by rw[Eqn,hE2.out,Bool.and_true]) HBB2.out _ _ _ _ _ _ _ _ _ _ _ _ _ _ _ _ _ _ _ _ _ _ _ _ _ _ _ _ _ _ _ _ _ _ _ _ _ _ _ _ _ _ _ _ _ _ _ _ _ _ _ _ _ _ _ _ _ _ _ _ _ _ _ _ _ _ _ _ _ _ _ _ _ _ _ _ _ _ _ _ _ _ _ _ _ _ _ _ _ _ _ _ _ _ _ _ _ _ _ _ _ _ _ _ _ _ _ _ _ _ _ _ _ _ _ _ _ _ _ _ _ _ _ _ _ _ _ _ _ _ _ _ _ _ _ _ _ _ _ _ _ _ _ _ _ _ _ _ _ _ _ _ _ _ _ _ _ _ _ _ _ _ _ _ _ _ _ _ _ _ _ _ _ ?_ ?_
  case refine_2=>
   intro u8 u156 u157 u158 u159 u160 u161 u162 u163 u164 u165 u166 u167 u168 u169 u170 u171 u172 u173 w' hE hB
   have HB:=Lib.hid hB
   clear hB
   go_wp2_with fail
   go_ret
   exact⟨ret_bool hE.out.symm,HBW.out _ HB.out⟩
  intro u2 u8 u156 u157 u158 u159 u160 u161 u162 u163 u164 u165 u166 u167 u168 u169 u170 u171 u172 u173 w3 hE3 hB3
  have HBB3:=Lib.hid hB3
  clear hB3
  go_wp2_with fail
  go_ret
  exact⟨ret_bool hE3.out.symm,HBW.out _ HBB3.out⟩
def chGood (c:Int):Bool:=decide (2≤c)&&decide (c≤51)
def goodD (d:Dom):Bool:=stF d.st&&d.chs.all chGood&&incF cmpF d.chs
def validD (ds:List Dom) (r:Rul):Bool:=ds.all goodD&&rulesF r&&incF (fun x y=>cmpF x.st y.st) ds
def validP (ds:List Dom) (r:Rul):Bool:=validD ds r&&(r.pairs.all (fun x=>hasS (stS (ds.map Dom.st)) x.a&&hasS (stS (ds.map Dom.st)) x.b)&&(r.loads.all (fun x=>hasS (stS (ds.map Dom.st)) x.a&&hasS (stS (ds.map Dom.st)) x.b)&&r.caps.all (fun x=>hasS (stS (ds.map Dom.st)) x.a)))
theorem cmpF_less (x y:Int):decide (0≤cmpF x y)=!lessL [x] [y]:=by
 unfold cmpF
 by_cases h1:x<y
 ·rw[if_pos h1]
  have:x≠y:=by omega
  simp[lessL,this,h1]
 ·rw[if_neg h1]
  by_cases h2:y<x
  ·rw[if_pos h2]
   have:x≠y:=by omega
   simp[lessL,this,h1]
  ·rw[if_neg h2]
   have:x=y:=by omega
   simp[lessL,this]
theorem less_one (x y:Int):lessL [x] [y]=true↔x<y:=by
 by_cases h:x=y
 ·simp[lessL,h]
 ·simp[lessL,h]
theorem inc_cmpF (l:List Int):incF cmpF l=true↔l.Pairwise (·<·):=by
 rw[incF_pair cmpF (fun x=>[x]) cmpF_less]
 simp only[less_one]
theorem inc_st (l:List Dom):incF (fun x y:Dom=>cmpF x.st y.st) l=true↔l.Pairwise (fun x y=>x.st<y.st):=by
 rw[incF_pair (fun x y:Dom=>cmpF x.st y.st) (fun x=>[x.st]) (fun x y=>cmpF_less x.st y.st)]
 simp only[less_one]
theorem inc_len:∀(l:List Int) (a b:Int),a≤b+1→l.Pairwise (·<·)→(∀ x∈l,a≤x∧x≤b)→(l.length:Int)≤b - a+1:=by
 intro l
 induction l with
 | nil=>intro a b h _ _;simp;omega
 | cons x r ih=>
  intro a b h hp hb
  obtain⟨h1,h2⟩:=List.pairwise_cons.1 hp
  have hx:=hb x (by simp)
  have:=ih (x+1) b (by omega) h2 (fun y hy=>⟨by have:=h1 y hy;omega,(hb y (by simp[hy])).2⟩)
  simp only[List.length_cons]
  omega
theorem chIn_iff:∀(l:List Int) (p:Option Int),chIn p l=true↔(∀ x∈l,2≤x∧x≤51∧(∀ q,p=some q→q<x))∧l.Pairwise (·<·):=by
 intro l
 induction l with
 | nil=>intro p;simp[chIn]
 | cons x r ih=>
  intro p
  rw[chIn]
  by_cases hb:x<2∨51<x∨notUp p x=true
  ·rw[if_pos hb]
   refine⟨fun h=>(by cases h),fun h=>?_⟩
   obtain⟨h1,h2,h3⟩:=h.1 x (by simp)
   rcases hb with hb | hb | hb
   ·omega
   ·omega
   ·cases p with
    | none=>cases hb
    | some q=>have:=h3 q rfl;simp[notUp] at hb;omega
  ·rw[if_neg hb,ih]
   have hx2:¬x<2:=fun h=>hb (.inl h)
   have hx5:¬51<x:=fun h=>hb (.inr (.inl h))
   have hxp:∀ q,p=some q→q<x:=by
    rintro q rfl
    have:¬notUp (some q) x=true:=fun h=>hb (.inr (.inr h))
    simp[notUp] at this
    exact this
   constructor
   ·rintro⟨h1,h2⟩
    refine⟨fun y hy=>?_,List.pairwise_cons.2 ⟨fun y hy=>(h1 y hy).2.2 x rfl,h2⟩⟩
    rcases List.mem_cons.1 hy with rfl | hy
    ·exact⟨by omega,by omega,hxp⟩
    ·obtain⟨g1,g2,g3⟩:=h1 y hy
     exact⟨g1,g2,fun q hq=>Int.lt_trans (hxp q hq) (g3 x rfl)⟩
   ·rintro⟨h1,h2⟩
    obtain⟨h3,h4⟩:=List.pairwise_cons.1 h2
    refine⟨fun y hy=>?_,h4⟩
    obtain⟨g1,g2,_⟩:=h1 y (by simp[hy])
    exact⟨g1,g2,fun q hq=>(by cases hq;exact h3 y hy)⟩
theorem chIn_good (l:List Int):chIn none l=(l.all chGood&&incF cmpF l):=by
 rw[Bool.eq_iff_iff,chIn_iff,Bool.and_eq_true,inc_cmpF,List.all_eq_true]
 constructor
 ·rintro⟨h1,h2⟩
  refine⟨fun x hx=>?_,h2⟩
  obtain⟨g1,g2,_⟩:=h1 x hx
  simp[chGood,g1,g2]
 ·rintro⟨h1,h2⟩
  refine⟨fun x hx=>?_,h2⟩
  have:=h1 x hx
  simp only[chGood,Bool.and_eq_true,decide_eq_true_eq] at this
  exact⟨this.1,this.2,fun q hq=>(by cases hq)⟩
theorem chIn_len {l:List Int} (h:chIn none l=true):l.length≤50:=by
 obtain⟨h1,h2⟩:=(chIn_iff l none).1 h
 have:=inc_len l 2 51 (by omega) h2 (fun x hx=>⟨(h1 x hx).1,(h1 x hx).2.1⟩)
 omega
theorem domGo_iff:∀(l:List Dom) (p:Option Int),domGo p l=true↔(∀ d∈l,stF d.st=true∧(∀ q,p=some q→q<d.st)∧d.len≤50∧chIn none d.chs=true)∧l.Pairwise (fun x y=>x.st<y.st):=by
 intro l
 induction l with
 | nil=>intro p;simp[domGo]
 | cons d r ih=>
  intro p
  rw[domGo]
  by_cases hb:stF d.st=false∨notUp p d.st=true∨50<d.len
  ·rw[if_pos hb]
   refine⟨fun h=>(by cases h),fun h=>?_⟩
   obtain⟨h1,h2,h3,_⟩:=h.1 d (by simp)
   rcases hb with hb | hb | hb
   ·rw[h1] at hb;cases hb
   ·cases p with
    | none=>cases hb
    | some q=>have:=h2 q rfl;simp[notUp] at hb;omega
   ·omega
  ·rw[if_neg hb]
   have hs:stF d.st=true:=by
    cases h:stF d.st with
    | true=>rfl
    | false=>exact absurd (.inl h) hb
   have hl:d.len≤50:=by have:¬50<d.len:=fun h=>hb (.inr (.inr h));omega
   have hxp:∀ q,p=some q→q<d.st:=by
    rintro q rfl
    have:¬notUp (some q) d.st=true:=fun h=>hb (.inr (.inl h))
    simp[notUp] at this
    exact this
   cases hc:chIn none d.chs with
   | false=>
    simp only[Bool.false_eq_true,if_false]
    refine⟨fun h=>(by cases h),fun h=>?_⟩
    have:=(h.1 d (by simp)).2.2.2
    rw[hc] at this
    cases this
   | true=>
    simp only[if_true]
    rw[ih]
    constructor
    ·rintro⟨h1,h2⟩
     refine⟨fun y hy=>?_,List.pairwise_cons.2 ⟨fun y hy=>(h1 y hy).2.1 d.st rfl,h2⟩⟩
     rcases List.mem_cons.1 hy with rfl | hy
     ·exact⟨hs,hxp,hl,hc⟩
     ·obtain⟨g1,g2,g3,g4⟩:=h1 y hy
      exact⟨g1,fun q hq=>Int.lt_trans (hxp q hq) (g2 d.st rfl),g3,g4⟩
    ·rintro⟨h1,h2⟩
     obtain⟨h3,h4⟩:=List.pairwise_cons.1 h2
     refine⟨fun y hy=>?_,h4⟩
     obtain⟨g1,_,g3,g4⟩:=h1 y (by simp[hy])
     exact⟨g1,fun q hq=>(by cases hq;exact h3 y hy),g3,g4⟩
theorem domGo_good {l:List Dom} (hl:∀ d∈l,d.len=d.chs.length):domGo none l=(l.all goodD&&incF (fun x y=>cmpF x.st y.st) l):=by
 rw[Bool.eq_iff_iff,domGo_iff,Bool.and_eq_true,inc_st,List.all_eq_true]
 constructor
 ·rintro⟨h1,h2⟩
  refine⟨fun d hd=>?_,h2⟩
  obtain⟨g1,_,_,g4⟩:=h1 d hd
  rw[chIn_good,Bool.and_eq_true] at g4
  simp[goodD,g1,g4.1,g4.2]
 ·rintro⟨h1,h2⟩
  refine⟨fun d hd=>?_,h2⟩
  have:=h1 d hd
  simp only[goodD,Bool.and_eq_true] at this
  have hc:chIn none d.chs=true:=by rw[chIn_good,this.1.2,this.2];rfl
  exact⟨this.1.1,fun q hq=>(by cases hq),by rw[hl d hd];exact chIn_len hc,hc⟩
theorem st_range {n:Int} (h:stF n=true):0≤n∧n<512:=by
 simp only[stF,Bool.and_eq_true,decide_eq_true_eq] at h
 omega
theorem domGo_len {l:List Dom} (h:domGo none l=true):l.length≤512:=by
 obtain⟨h1,h2⟩:=(domGo_iff l none).1 h
 have h3:=inc_len (l.map Dom.st) 0 511 (by omega) (List.pairwise_map.2 h2) (fun x hx=>by
  obtain⟨d,hd,rfl⟩:=List.mem_map.1 hx
  have:=st_range (h1 d hd).1
  omega)
 simp at h3
 omega
theorem domGo_st {l:List Dom} (h:domGo none l=true):∀ y∈l.map Dom.st,0≤y∧y<512:=fun y hy=>by
 obtain⟨d,hd,rfl⟩:=List.mem_map.1 hy
 exact st_range (((domGo_iff l none).1 h).1 d hd).1
theorem valid_eq {ds:List Dom} {r:Rul} (hl:∀ d∈ds,d.len=d.chs.length):validP ds r=validR ds r:=by
 unfold validP validD validR
 rw[domGo_good hl,rules_eq]
 by_cases hd:domGo none ds=true
 ·have h1:=domGo_len hd
  have h2:∀ x:Int,hasS (stS (ds.map Dom.st)) x=inD ds x:=fun x=>by rw[hasS_mem (domGo_st hd),inD_mem]
  rw[domGo_good hl,Bool.and_eq_true] at hd
  rw[hd.1,hd.2,decide_eq_true h1]
  simp only[h2,Bool.true_and,Bool.and_true]
 ·rw[domGo_good hl] at hd
  have hd':(ds.all goodD&&incF (fun x y=>cmpF x.st y.st) ds)=false:=by simpa using hd
  rw[hd',Bool.false_and,Bool.and_false]
  cases h1:ds.all goodD with
  | false=>simp
  | true=>
   rw[h1,Bool.true_and] at hd'
   rw[hd']
   simp
theorem goodCh_any (c:Int) (w:World):Calls Tryz.prog 112 #[.int .i64 c] w fun e w'=>e=.returned (.bool (chGood c))∧w=w':=by
 have HB:=Lib.hid (betw_any c 2 51 w)
 have hs:betwF c 2 51=chGood c:=rfl
 rw[hs] at HB
 generalize chGood c=r at *
 clear hs
 go_enter Tryz.func112,Tryz.ntmps112
 go_wp2_with fail
 refine HB.out.mono ?_
 rintro e w' ⟨rfl,rfl⟩
 go_wp2_with fail
 go_ret
 exact⟨rfl,rfl⟩
theorem everyCh_any (A:Option Addr) (n c:Nat) (w:World) (l:List Int) (hn:n≤9223372036854775807) (hl:Row1 intV w w.heap.size A n l):
  Calls Tryz.prog 113 #[.slice A n c,.func (.func 112) #[] #[]] w fun e w'=>e=.returned (.bool (l.all chGood))∧w=w':=by
 have Hl:=Lib.hid hl
 have Hlen:=Eqn.mk hl.1
 have HG:=Lib.hid (fun x W=>goodCh_any x W)
 clear hl
 go_enter Tryz.func113,Tryz.ntmps113
 go_wp2_with fail
 go_loopw [9] (fun i wr=>∃ k:Nat,k≤n∧i=.int .i64 k∧Eqn (l.all chGood) ((l.drop k).all chGood)∧w=wr) (fun i _=>n - (intOf i).toNat)
 case atStart=>exact⟨0,Nat.zero_le _,rfl,rfl,rfl⟩
 case round=>
  obtain⟨k,hk,rfl,HR,rfl⟩:=hrel
  by_cases hlt:k<n
  ·obtain⟨p,hp,hpd⟩:=drop_at (xs:=l) (k:=k) (by rw[Hlen.out];exact hlt)
   obtain⟨b,off,hA,hbl,hc⟩:=Hl.out.2 (by omega)
   subst hA
   have c0:=hc k p hp
   simp only[intV] at c0
   have HR2:=HR.out
   rw[hpd,List.all_cons] at HR2
   have HGp:=Lib.hid (HG.out p)
   have j0:(k:Int)<(n:Int):=by omega
   generalize chGood p=r at *
   clear hc hp hpd HR
   go_wp2_with fail
   refine(HGp.out _).mono ?_
   rintro e w1 ⟨rfl,rfl⟩
   cases r with
   | true=>
    have HV:Eqn (l.all chGood) ((l.drop (k+1)).all chGood):=by rw[Eqn,HR2];rfl
    clear HR2
    go_wp2_with fail
    go_roundw
    case rel=>exact⟨k+1,by omega,by go_num,HV,trivial⟩
    case measure=>simp[intOf];omega
   | false=>
    have HV:Eqn (l.all chGood) false:=by rw[Eqn,HR2];rfl
    clear HR2
    go_wp2_with fail
    go_ret
    exact⟨ret_bool HV.out.symm,rfl⟩
  ·have HV:Eqn (l.all chGood) true:=by rw[Eqn,HR.out,drop_end (by rw[Hlen.out];omega)];rfl
   clear HR
   go_wp2_with fail
   go_ret
   exact⟨ret_bool HV.out.symm,rfl⟩
theorem everySt_any (A:Option Addr) (n c:Nat) (w:World) (l:List Int) (hn:n≤9223372036854775807) (hl:Row1 intV w w.heap.size A n l):
  Calls Tryz.prog 113 #[.slice A n c,.func (.func 102) #[] #[]] w fun e w'=>e=.returned (.bool (l.all stF))∧w=w':=by
 have Hl:=Lib.hid hl
 have Hlen:=Eqn.mk hl.1
 have HG:=Lib.hid (fun x W=>isSt_any x W)
 clear hl
 go_enter Tryz.func113,Tryz.ntmps113
 go_wp2_with fail
 go_loopw [9] (fun i wr=>∃ k:Nat,k≤n∧i=.int .i64 k∧Eqn (l.all stF) ((l.drop k).all stF)∧w=wr) (fun i _=>n - (intOf i).toNat)
 case atStart=>exact⟨0,Nat.zero_le _,rfl,rfl,rfl⟩
 case round=>
  obtain⟨k,hk,rfl,HR,rfl⟩:=hrel
  by_cases hlt:k<n
  ·obtain⟨p,hp,hpd⟩:=drop_at (xs:=l) (k:=k) (by rw[Hlen.out];exact hlt)
   obtain⟨b,off,hA,hbl,hc⟩:=Hl.out.2 (by omega)
   subst hA
   have c0:=hc k p hp
   simp only[intV] at c0
   have HR2:=HR.out
   rw[hpd,List.all_cons] at HR2
   have HGp:=Lib.hid (HG.out p)
   have j0:(k:Int)<(n:Int):=by omega
   generalize stF p=r at *
   clear hc hp hpd HR
   go_wp2_with fail
   refine(HGp.out _).mono ?_
   rintro e w1 ⟨rfl,rfl⟩
   cases r with
   | true=>
    have HV:Eqn (l.all stF) ((l.drop (k+1)).all stF):=by rw[Eqn,HR2];rfl
    clear HR2
    go_wp2_with fail
    go_roundw
    case rel=>exact⟨k+1,by omega,by go_num,HV,trivial⟩
    case measure=>simp[intOf];omega
   | false=>
    have HV:Eqn (l.all stF) false:=by rw[Eqn,HR2];rfl
    clear HR2
    go_wp2_with fail
    go_ret
    exact⟨ret_bool HV.out.symm,rfl⟩
  ·have HV:Eqn (l.all stF) true:=by rw[Eqn,HR.out,drop_end (by rw[Hlen.out];omega)];rfl
   clear HR
   go_wp2_with fail
   go_ret
   exact⟨ret_bool HV.out.symm,rfl⟩
theorem incI_any (A:Option Addr) (n c:Nat) (w:World) (l:List Int) (hn:n≤9223372036854775807) (hl:Row1 intV w w.heap.size A n l):
  Calls Tryz.prog 114 #[.slice A n c,.func (.func 78) #[] #[]] w (RetPost (.bool (incF cmpF l)) w.heap.size w):=by
 have Hl:=Lib.hid hl
 have Hlen:=Eqn.mk hl.1
 clear hl
 go_enter Tryz.func114,Tryz.ntmps114
 go_wp2_with fail
 go_loopw [5] (fun i wr=>∃ k:Nat,(k+1≤n∨k=0)∧i=.int .i64 ((k+1:Nat):Int)∧Eqn (incF cmpF l) (incF cmpF (l.drop k))∧Below w.heap.size w wr) (fun i _=>n+1 - (intOf i).toNat)
 case atStart=>exact⟨0,.inr rfl,rfl,rfl,Below.refl _ _⟩
 case round=>
  obtain⟨k,hk,rfl,HR,hB⟩:=hrel
  have HB:=Lib.hid hB
  have hbs:=hB.size
  by_cases hlt:k+1<n
  ·obtain⟨p,hp,hpd⟩:=drop_at (xs:=l) (k:=k) (by rw[Hlen.out];omega)
   obtain⟨q,hq,hqd⟩:=drop_at (xs:=l) (k:=k+1) (by rw[Hlen.out];exact hlt)
   obtain⟨b,off,hA,hbl,hc⟩:=(Hl.out.below hB).2 (by omega)
   subst hA
   have c0:=hc k _ hp
   have d0:=hc (k+1) _ hq
   simp only[intV] at c0 d0
   have HG:=Lib.hid (fun W=>compare_any p q W)
   have HR2:=HR.out
   rw[hpd,hqd,incF_cons,←hqd] at HR2
   have hbw:b<wr.heap.size:=by omega
   obtain⟨ki,hki⟩:∃ ki:Int,((k+1:Nat):Int)=ki:=⟨_,rfl⟩
   rw[hki]
   have j0:ki<(n:Int):=by omega
   have j1:1≤ki:=by omega
   have e1:IntKind.i64.wrap (ki - 1)=(k:Int):=by rw[IntWalk.i64_in _ (by omega)];omega
   have e2:ki.toNat=k+1:=by omega
   have e3:(ki - 1).toNat=k:=by omega
   have e4:0≤ki - 1:=by omega
   have e5:ki - 1<(n:Int):=by omega
   have e6:(k:Int)<(n:Int):=by omega
   have e7:(0:Int)≤(k:Int):=by omega
   have e8:0≤ki:=by omega
   have HKI:=Lib.hid hki
   generalize cmpF p q=r at *
   clear hc hp hpd hq hqd HR hB hki
   by_cases hr:0≤r
   ·have HV:=Eqn.mk (HR2.trans (if_pos hr))
    clear HR2
    go_wp2_with fail
    refine Lx.region (C:=fun _=>True) (hs:=[]) (by kernel_rfl) (by kernel_rfl) trivial ?_
    repeat' (first|((first|refine Lx.ln (fun K hK=>?_) | (first|(refine Lx.lp (v:=?_) ?_ (fun K hK=>?_);rotate_left 1;intro w' hCw;try dsimp only at hCw) | (refine Lx.lr (v:=?_) ?_ (fun K hK=>?_);rotate_left 1));go_simp;first|done | with_reducible rfl);go_simp;refine hK _ ?_;clear hK K) | (refine Lx.le (fun K hK=>?_);go_simp;(first|(go_at_call 78;refine(HG.out _).mono ?_;rintro e w1 ⟨rfl,rfl⟩;have HB3:=Lib.hid HB.out.drew));refine hK _ _ (trivial) ?_;clear hK K))
    all_goals (refine Lx.lex_nil ?_)
    go_wp2_with fail
    go_ret
    exact⟨ret_bool HV.out.symm,HB3.out⟩
   ·have HV:=Eqn.mk (HR2.trans (if_neg hr))
    clear HR2
    go_wp2_with fail
    refine Lx.region (C:=fun _=>True) (hs:=[]) (by kernel_rfl) (by kernel_rfl) trivial ?_
    repeat' (first|((first|refine Lx.ln (fun K hK=>?_) | (first|(refine Lx.lp (v:=?_) ?_ (fun K hK=>?_);rotate_left 1;intro w' hCw;try dsimp only at hCw) | (refine Lx.lr (v:=?_) ?_ (fun K hK=>?_);rotate_left 1));go_simp;first|done | with_reducible rfl);go_simp;refine hK _ ?_;clear hK K) | (refine Lx.le (fun K hK=>?_);go_simp;(first|(go_at_call 78;refine(HG.out _).mono ?_;rintro e w1 ⟨rfl,rfl⟩;have HB3:=Lib.hid HB.out.drew));refine hK _ _ (trivial) ?_;clear hK K))
    all_goals (refine Lx.lex_nil ?_)
    go_wp2_with fail
    clear e1 e2 e3 e4 e5
    go_roundw
    case rel=>exact⟨k+1,.inl (by omega),by rw[←HKI.out];go_num,HV,HB3.out⟩
    case measure=>rw[←HKI.out];simp[intOf];omega
  ·have HV:Eqn (incF cmpF l) true:=by
    rw[Eqn,HR.out]
    by_cases h0:k<l.length
    ·obtain⟨p,hp,hpd⟩:=drop_at (xs:=l) (k:=k) h0
     have hl2:=Hlen.out
     rw[hpd,drop_end (by omega)];rfl
    ·rw[drop_end (by omega)];rfl
   have j0:¬((k+1:Nat):Int)<(n:Int):=by omega
   clear HR hB
   go_wp2_with fail
   go_ret
   exact⟨ret_bool HV.out.symm,HB.out⟩
theorem goodD_any (d:Dom) (w:World) (hn:d.len≤9223372036854775807) (hr:Row1 intV w w.heap.size d.adr d.len d.chs):Calls Tryz.prog 75 #[d.val] w (RetPost (.bool (goodD d)) w.heap.size w):=by
 obtain⟨st,adr,len,cap,chs⟩:=d
 dsimp only at hn hr
 obtain⟨W0,hW0⟩:∃ W0,W0=w.alloc (.cells #[.int .i64 st,.slice adr len cap] 64):=⟨_,rfl⟩
 have hB0:Below w.heap.size w W0:=by rw[hW0];exact(Below.refl _ w).alloc (Nat.le_refl _) _
 have z0:W0.cell? ⟨w.heap.size,0,none⟩=some (.int .i64 st):=by rw[hW0];simp[go_sem]
 have z1:W0.cell? ⟨w.heap.size,1,none⟩=some (.slice adr len cap):=by rw[hW0];simp[go_sem]
 have HST:=Lib.hid (isSt_any st W0)
 have HEV:=Lib.hid (everyCh_any adr len cap W0 chs hn (hr.keep hB0))
 have HIN:=Lib.hid (incI_any adr len cap W0 chs hn (hr.keep hB0))
 have HB0:=Lib.hid hB0
 unfold Dom.val goodD
 dsimp only
 generalize stF st=t0 at *
 generalize chs.all chGood=t1 at *
 generalize incF cmpF chs=t2 at *
 clear hr hB0
 go_enter Tryz.func75,Tryz.ntmps75
 go_wp2_with fail
 rw[←hW0]
 clear hW0
 refine HST.out.mono ?_
 rintro e w1 ⟨rfl,rfl⟩
 cases t0 with
 | false=>
  go_wp2_with fail
  go_ret
  exact⟨rfl,HB0.out⟩
 | true=>
  go_wp2_with fail
  refine HEV.out.mono ?_
  rintro e w1 ⟨rfl,rfl⟩
  cases t1 with
  | false=>
   go_wp2_with fail
   go_ret
   exact⟨rfl,HB0.out⟩
  | true=>
   go_wp2_with fail
   refine HIN.out.mono ?_
   rintro e w1 ⟨rfl,hb1⟩
   have HB1:=Lib.hid (HB0.out.trans (hb1.mono HB0.out.size))
   clear hb1
   go_wp2_with fail
   go_ret
   exact⟨rfl,HB1.out⟩
theorem everyD_any (A:Option Addr) (n c:Nat) (w:World) (l:List Dom) (hd:∀ d∈l,d.len≤9223372036854775807) (hn:n≤9223372036854775807) (hl:DomsAt w w.heap.size A n l):
  Calls Tryz.prog 74 #[.slice A n c,.func (.func 75) #[] #[]] w (RetPost (.bool (l.all goodD)) w.heap.size w):=by
 have Hl:=Lib.hid hl
 have Hlen:=Eqn.mk hl.1.1
 skip
 clear hl
 go_enter Tryz.func74,Tryz.ntmps74
 go_wp2_with fail
 go_loopw [9] (fun i wr=>∃ k:Nat,k≤n∧i=.int .i64 k∧Eqn (l.all goodD) ((l.drop k).all goodD)∧Below w.heap.size w wr) (fun i _=>n - (intOf i).toNat)
 case atStart=>exact⟨0,Nat.zero_le _,rfl,rfl,Below.refl _ _⟩
 case round=>
  obtain⟨k,hk,rfl,HR,hB⟩:=hrel
  have HB:=Lib.hid hB
  have hbs:=hB.size
  by_cases hlt:k<n
  ·obtain⟨p,hp,hpd⟩:=drop_at (xs:=l) (k:=k) (by rw[Hlen.out];exact hlt)
   obtain⟨b,off,hA,hbl,hc⟩:=(Hl.out.1.below hB).2 (by omega)
   have hrow:=((Hl.out.2 p (List.mem_of_getElem? hp)).below hB).up hbs
   subst hA
   obtain⟨st,adr,len,cap,chs⟩:=p
   have c0:=hc k _ hp 0 (by omega)
   have c1:=hc k _ hp 1 (by omega)
   simp only[Dom.cell,Nat.add_zero] at c0 c1
   have HG:Hid (∀ W,Below wr.heap.size wr W→Calls Tryz.prog 75 #[.agg #[.int .i64 st,.slice adr len cap]] W (RetPost (.bool (goodD ⟨st,adr,len,cap,chs⟩)) W.heap.size W)):=Lib.hid (fun W hW=>goodD_any ⟨st,adr,len,cap,chs⟩ W (hd _ (List.mem_of_getElem? hp)) (hrow.keep hW))
   have HR2:=HR.out
   rw[hpd,List.all_cons] at HR2
   try dsimp only at HG
   have hbw:b<wr.heap.size:=by omega
   have j0:(k:Int)<(n:Int):=by omega
   have HB2:=Lib.hid (hB.alloc hbs (.cells #[.int .i64 st,.slice adr len cap] 64))
   generalize goodD ⟨st,adr,len,cap,chs⟩=r at *
   clear hc hp hpd HR hB
   go_wp2_with fail
   refine(HG.out _ ((Below.refl _ _).alloc (Nat.le_refl _) _)).mono ?_
   rintro e w1 ⟨rfl,hb1⟩
   have HB3:=Lib.hid (HB2.out.trans (hb1.mono HB2.out.size))
   clear hb1
   cases r with
   | true=>
    have HV:Eqn (l.all goodD) ((l.drop (k+1)).all goodD):=by rw[Eqn,HR2];rfl
    clear HR2
    go_wp2_with fail
    go_roundw
    case rel=>exact⟨k+1,by omega,by go_num,HV,HB3.out⟩
    case measure=>simp[intOf];omega
   | false=>
    have HV:Eqn (l.all goodD) false:=by rw[Eqn,HR2];rfl
    clear HR2
    go_wp2_with fail
    go_ret
    exact⟨ret_bool HV.out.symm,HB3.out⟩
  ·have HV:Eqn (l.all goodD) true:=by rw[Eqn,HR.out,drop_end (by rw[Hlen.out];omega)];rfl
   clear HR hB
   go_wp2_with fail
   go_ret
   exact⟨ret_bool HV.out.symm,HB.out⟩
theorem bySt_any (x y:Dom) (w:World):Calls Tryz.prog 77 #[x.val,y.val] w (RetPost (.int .i64 (cmpF x.st y.st)) w.heap.size w):=by
 obtain⟨a,a1,a2,a3,a4⟩:=x
 obtain⟨b,b1,b2,b3,b4⟩:=y
 have HC:=Lib.hid (fun W=>compare_any a b W)
 have HB:Hid (Below w.heap.size w ((w.alloc (.cells #[.int .i64 a,.slice a1 a2 a3] 64)).alloc (.cells #[.int .i64 b,.slice b1 b2 b3] 64))):=Lib.hid (((Below.refl _ w).alloc (Nat.le_refl _) _).alloc (by simp) _)
 unfold Dom.val
 dsimp only
 generalize cmpF a b=r at *
 go_enter Tryz.func77,Tryz.ntmps77
 go_wp2_with fail
 refine(HC.out _).mono ?_
 rintro e w1 ⟨rfl,rfl⟩
 go_wp2_with fail
 go_ret
 exact⟨rfl,HB.out⟩
theorem incD_any (A:Option Addr) (n c:Nat) (w:World) (l:List Dom) (hn:n≤9223372036854775807) (hl:RowS 2 Dom.cell w w.heap.size A n l):
  Calls Tryz.prog 79 #[.slice A n c,.func (.func 77) #[] #[]] w (RetPost (.bool (incF (fun x y=>cmpF x.st y.st) l)) w.heap.size w):=by
 have Hl:=Lib.hid hl
 have Hlen:=Eqn.mk hl.1
 clear hl
 go_enter Tryz.func79,Tryz.ntmps79
 go_wp2_with fail
 go_loopw [5] (fun i wr=>∃ k:Nat,(k+1≤n∨k=0)∧i=.int .i64 ((k+1:Nat):Int)∧Eqn (incF (fun x y=>cmpF x.st y.st) l) (incF (fun x y=>cmpF x.st y.st) (l.drop k))∧Below w.heap.size w wr) (fun i _=>n+1 - (intOf i).toNat)
 case atStart=>exact⟨0,.inr rfl,rfl,rfl,Below.refl _ _⟩
 case round=>
  obtain⟨k,hk,rfl,HR,hB⟩:=hrel
  have HB:=Lib.hid hB
  have hbs:=hB.size
  by_cases hlt:k+1<n
  ·obtain⟨p,hp,hpd⟩:=drop_at (xs:=l) (k:=k) (by rw[Hlen.out];omega)
   obtain⟨q,hq,hqd⟩:=drop_at (xs:=l) (k:=k+1) (by rw[Hlen.out];exact hlt)
   obtain⟨b,off,hA,hbl,hc⟩:=(Hl.out.below hB).2 (by omega)
   subst hA
   obtain⟨p0,p1,p2,p3,p4⟩:=p
   obtain⟨q0,q1,q2,q3,q4⟩:=q
   have c0:=hc k _ hp 0 (by omega)
   have c1:=hc k _ hp 1 (by omega)
   have d0:=hc (k+1) _ hq 0 (by omega)
   have d1:=hc (k+1) _ hq 1 (by omega)
   simp only[Dom.cell,Nat.add_zero] at c0 c1 d0 d1
   have HG:=Lib.hid (fun W=>bySt_any ⟨p0,p1,p2,p3,p4⟩ ⟨q0,q1,q2,q3,q4⟩ W)
   have HR2:=HR.out
   rw[hpd,hqd,incF_cons,←hqd] at HR2
   unfold Dom.val at HG
   dsimp only at HG HR2
   have hbw:b<wr.heap.size:=by omega
   obtain⟨ki,hki⟩:∃ ki:Int,((k+1:Nat):Int)=ki:=⟨_,rfl⟩
   rw[hki]
   have j0:ki<(n:Int):=by omega
   have j1:1≤ki:=by omega
   have e1:IntKind.i64.wrap (ki - 1)=(k:Int):=by rw[IntWalk.i64_in _ (by omega)];omega
   have e2:ki.toNat=k+1:=by omega
   have e3:(ki - 1).toNat=k:=by omega
   have e4:0≤ki - 1:=by omega
   have e5:ki - 1<(n:Int):=by omega
   have e6:(k:Int)<(n:Int):=by omega
   have e7:(0:Int)≤(k:Int):=by omega
   have e8:0≤ki:=by omega
   have HKI:=Lib.hid hki
   generalize cmpF p0 q0=r at *
   clear hc hp hpd hq hqd HR hB hki
   by_cases hr:0≤r
   ·have HV:=Eqn.mk (HR2.trans (if_pos hr))
    clear HR2
    go_wp2_with fail
    refine Lx.region (C:=fun _=>True) (hs:=[]) (by kernel_rfl) (by kernel_rfl) trivial ?_
    repeat' (first|((first|refine Lx.ln (fun K hK=>?_) | (first|(refine Lx.lp (v:=?_) ?_ (fun K hK=>?_);rotate_left 1;intro w' hCw;try dsimp only at hCw) | (refine Lx.lr (v:=?_) ?_ (fun K hK=>?_);rotate_left 1));go_simp;first|done | with_reducible rfl);go_simp;refine hK _ ?_;clear hK K) | (refine Lx.le (fun K hK=>?_);go_simp;(first|(go_at_call 77;refine(HG.out _).mono ?_;rintro e w1 ⟨rfl,hb1⟩;have HB3:=Lib.hid (HB.out.drew.trans (hb1.mono (by exact hbs)));clear hb1));refine hK _ _ (trivial) ?_;clear hK K))
    all_goals (refine Lx.lex_nil ?_)
    go_wp2_with fail
    go_ret
    exact⟨ret_bool HV.out.symm,HB3.out⟩
   ·have HV:=Eqn.mk (HR2.trans (if_neg hr))
    clear HR2
    go_wp2_with fail
    refine Lx.region (C:=fun _=>True) (hs:=[]) (by kernel_rfl) (by kernel_rfl) trivial ?_
    repeat' (first|((first|refine Lx.ln (fun K hK=>?_) | (first|(refine Lx.lp (v:=?_) ?_ (fun K hK=>?_);rotate_left 1;intro w' hCw;try dsimp only at hCw) | (refine Lx.lr (v:=?_) ?_ (fun K hK=>?_);rotate_left 1));go_simp;first|done | with_reducible rfl);go_simp;refine hK _ ?_;clear hK K) | (refine Lx.le (fun K hK=>?_);go_simp;(first|(go_at_call 77;refine(HG.out _).mono ?_;rintro e w1 ⟨rfl,hb1⟩;have HB3:=Lib.hid (HB.out.drew.trans (hb1.mono (by exact hbs)));clear hb1));refine hK _ _ (trivial) ?_;clear hK K))
    all_goals (refine Lx.lex_nil ?_)
    go_wp2_with fail
    clear e1 e2 e3 e4 e5
    go_roundw
    case rel=>exact⟨k+1,.inl (by omega),by rw[←HKI.out];go_num,HV,HB3.out⟩
    case measure=>rw[←HKI.out];simp[intOf];omega
  ·have HV:Eqn (incF (fun x y:Dom=>cmpF x.st y.st) l) true:=by
    rw[Eqn,HR.out]
    by_cases h0:k<l.length
    ·obtain⟨p,hp,hpd⟩:=drop_at (xs:=l) (k:=k) h0
     have hl2:=Hlen.out
     rw[hpd,drop_end (by omega)];rfl
    ·rw[drop_end (by omega)];rfl
   have j0:¬((k+1:Nat):Int)<(n:Int):=by omega
   clear HR hB
   go_wp2_with fail
   go_ret
   exact⟨ret_bool HV.out.symm,HB.out⟩
theorem cloPair_any (x:R5) (g S:Nat) (w:World) (h:Blk w g 79 (tabL 8 (sC S))):Calls Tryz.prog 81 #[x.val,.pointer (some ⟨g,0,none⟩)] w (RetPost (.bool (hasS S x.a&&hasS S x.b)) w.heap.size w):=by
 obtain⟨x0,x1,x2,x3,x4⟩:=x
 obtain⟨W0,hW0⟩:∃ W0,W0=w.alloc (.cells #[.int .i64 x0,.int .i64 x1,.int .i64 x2,.int .i64 x3,.int .i64 x4] 67):=⟨_,rfl⟩
 have hB0:Below w.heap.size w W0:=by rw[hW0];exact(Below.refl _ w).alloc (Nat.le_refl _) _
 have hx:Blk W0 w.heap.size 67 [.int .i64 x0,.int .i64 x1,.int .i64 x2,.int .i64 x3,.int .i64 x4]:=by rw[hW0];exact blk_new w _ _
 have HX:=Lib.hid hx
 have HS:=Lib.hid (h.keep hB0)
 have z0:W0.cell? ⟨w.heap.size,0,none⟩=some (.int .i64 x0):=hx.cell rfl
 have zl:=hx.lt
 have HHA:=Lib.hid (fun W=>has_any S x0 W)
 have HHB:=Lib.hid (fun W=>has_any S x1 W)
 have HB0:=Lib.hid hB0
 obtain⟨q0,q1,q2,q3,q4,q5,q6,q7⟩:=HS.out.eight
 have ql:=HS.out.lt
 unfold R5.val
 unfold sV at HHA HHB
 dsimp only
 generalize hasS S x0=b0 at *
 generalize hasS S x1=b1 at *
 clear h hB0 hx
 go_enter Tryz.func81,Tryz.ntmps81
 go_upto_region 1 with fail
 rw[←hW0]
 clear hW0
 go_wp2_with fail
 clear q0 q1 q2 q3 q4 q5 q6 q7
 refine(HHA.out _).mono ?_
 rintro e W1 ⟨rfl,hb1⟩
 have HB1:=Lib.hid (HB0.out.trans (hb1.mono HB0.out.size))
 have hS1:=HS.out.keep hb1
 obtain⟨q0,q1,q2,q3,q4,q5,q6,q7⟩:=hS1.eight
 have ql1:=hS1.lt
 have z1:W1.cell? ⟨w.heap.size,1,none⟩=some (.int .i64 x1):=(HX.out.keep hb1).cell rfl
 have zl1:=(HX.out.keep hb1).lt
 clear hb1 hS1
 cases b0 with
 | false=>
  go_wp2_with fail
  go_ret
  exact⟨rfl,HB1.out⟩
 | true=>
  go_wp2_with fail
  clear q0 q1 q2 q3 q4 q5 q6 q7
  refine(HHB.out _).mono ?_
  rintro e W2 ⟨rfl,hb2⟩
  have HB2:=Lib.hid (HB1.out.trans (hb2.mono HB1.out.size))
  clear hb2
  go_wp2_with fail
  go_ret
  exact⟨rfl,HB2.out⟩
theorem everySPair_any (A:Option Addr) (n c:Nat) (w:World) (l:List R5) (g S:Nat) (hs:Blk w g 79 (tabL 8 (sC S))) (hn:n≤9223372036854775807) (hl:RowS 5 R5.cell w w.heap.size A n l):
  Calls Tryz.prog 80 #[.slice A n c,.func (.func 81) #[] #[.pointer (some ⟨g,0,none⟩)]] w (RetPost (.bool (l.all (fun x=>hasS S x.a&&hasS S x.b))) w.heap.size w):=by
 have Hl:=Lib.hid hl
 have Hlen:=Eqn.mk hl.1
 have HS:=Lib.hid hs
 clear hl hs
 go_enter Tryz.func80,Tryz.ntmps80
 go_wp2_with fail
 go_loopw [9] (fun i wr=>∃ k:Nat,k≤n∧i=.int .i64 k∧Eqn (l.all (fun x=>hasS S x.a&&hasS S x.b)) ((l.drop k).all (fun x=>hasS S x.a&&hasS S x.b))∧Below w.heap.size w wr) (fun i _=>n - (intOf i).toNat)
 case atStart=>exact⟨0,Nat.zero_le _,rfl,rfl,Below.refl _ _⟩
 case round=>
  obtain⟨k,hk,rfl,HR,hB⟩:=hrel
  have HB:=Lib.hid hB
  have hbs:=hB.size
  by_cases hlt:k<n
  ·obtain⟨p,hp,hpd⟩:=drop_at (xs:=l) (k:=k) (by rw[Hlen.out];exact hlt)
   obtain⟨b,off,hA,hbl,hc⟩:=(Hl.out.below hB).2 (by omega)
   skip
   subst hA
   obtain⟨p0,p1,p2,p3,p4⟩:=p
   have c0:=hc k _ hp 0 (by omega)
   have c1:=hc k _ hp 1 (by omega)
   have c2:=hc k _ hp 2 (by omega)
   have c3:=hc k _ hp 3 (by omega)
   have c4:=hc k _ hp 4 (by omega)
   simp only[R5.cell,Nat.add_zero] at c0 c1 c2 c3 c4
   have HG:Hid (∀ W,Below wr.heap.size wr W→Calls Tryz.prog 81 #[.agg #[.int .i64 p0,.int .i64 p1,.int .i64 p2,.int .i64 p3,.int .i64 p4],.pointer (some ⟨g,0,none⟩)] W (RetPost (.bool (hasS S p0&&hasS S p1)) W.heap.size W)):=Lib.hid (fun W hW=>cloPair_any ⟨p0,p1,p2,p3,p4⟩ g S W ((HS.out.keep hB).keep hW))
   have HR2:=HR.out
   rw[hpd,List.all_cons] at HR2
   try dsimp only at HG
   have hbw:b<wr.heap.size:=by omega
   have j0:(k:Int)<(n:Int):=by omega
   have HB2:=Lib.hid (hB.alloc hbs (.cells #[.int .i64 p0,.int .i64 p1,.int .i64 p2,.int .i64 p3,.int .i64 p4] 67))
   dsimp only at HR2
   generalize (hasS S p0&&hasS S p1)=r at *
   clear hc hp hpd HR hB
   go_wp2_with fail
   refine(HG.out _ ((Below.refl _ _).alloc (Nat.le_refl _) _)).mono ?_
   rintro e w1 ⟨rfl,hb1⟩
   have HB3:=Lib.hid (HB2.out.trans (hb1.mono HB2.out.size))
   clear hb1
   cases r with
   | true=>
    have HV:Eqn (l.all (fun x=>hasS S x.a&&hasS S x.b)) ((l.drop (k+1)).all (fun x=>hasS S x.a&&hasS S x.b)):=by rw[Eqn,HR2];rfl
    clear HR2
    go_wp2_with fail
    go_roundw
    case rel=>exact⟨k+1,by omega,by go_num,HV,HB3.out⟩
    case measure=>simp[intOf];omega
   | false=>
    have HV:Eqn (l.all (fun x=>hasS S x.a&&hasS S x.b)) false:=by rw[Eqn,HR2];rfl
    clear HR2
    go_wp2_with fail
    go_ret
    exact⟨ret_bool HV.out.symm,HB3.out⟩
  ·have HV:Eqn (l.all (fun x=>hasS S x.a&&hasS S x.b)) true:=by rw[Eqn,HR.out,drop_end (by rw[Hlen.out];omega)];rfl
   clear HR hB
   go_wp2_with fail
   go_ret
   exact⟨ret_bool HV.out.symm,HB.out⟩
theorem cloLoad_any (x:R5) (g S:Nat) (w:World) (h:Blk w g 79 (tabL 8 (sC S))):Calls Tryz.prog 84 #[x.val,.pointer (some ⟨g,0,none⟩)] w (RetPost (.bool (hasS S x.a&&hasS S x.b)) w.heap.size w):=by
 obtain⟨x0,x1,x2,x3,x4⟩:=x
 obtain⟨W0,hW0⟩:∃ W0,W0=w.alloc (.cells #[.int .i64 x0,.int .i64 x1,.int .i64 x2,.int .i64 x3,.int .i64 x4] 69):=⟨_,rfl⟩
 have hB0:Below w.heap.size w W0:=by rw[hW0];exact(Below.refl _ w).alloc (Nat.le_refl _) _
 have hx:Blk W0 w.heap.size 69 [.int .i64 x0,.int .i64 x1,.int .i64 x2,.int .i64 x3,.int .i64 x4]:=by rw[hW0];exact blk_new w _ _
 have HX:=Lib.hid hx
 have HS:=Lib.hid (h.keep hB0)
 have z0:W0.cell? ⟨w.heap.size,0,none⟩=some (.int .i64 x0):=hx.cell rfl
 have zl:=hx.lt
 have HHA:=Lib.hid (fun W=>has_any S x0 W)
 have HHB:=Lib.hid (fun W=>has_any S x1 W)
 have HB0:=Lib.hid hB0
 obtain⟨q0,q1,q2,q3,q4,q5,q6,q7⟩:=HS.out.eight
 have ql:=HS.out.lt
 unfold R5.val
 unfold sV at HHA HHB
 dsimp only
 generalize hasS S x0=b0 at *
 generalize hasS S x1=b1 at *
 clear h hB0 hx
 go_enter Tryz.func84,Tryz.ntmps84
 go_upto_region 1 with fail
 rw[←hW0]
 clear hW0
 go_wp2_with fail
 clear q0 q1 q2 q3 q4 q5 q6 q7
 refine(HHA.out _).mono ?_
 rintro e W1 ⟨rfl,hb1⟩
 have HB1:=Lib.hid (HB0.out.trans (hb1.mono HB0.out.size))
 have hS1:=HS.out.keep hb1
 obtain⟨q0,q1,q2,q3,q4,q5,q6,q7⟩:=hS1.eight
 have ql1:=hS1.lt
 have z1:W1.cell? ⟨w.heap.size,1,none⟩=some (.int .i64 x1):=(HX.out.keep hb1).cell rfl
 have zl1:=(HX.out.keep hb1).lt
 clear hb1 hS1
 cases b0 with
 | false=>
  go_wp2_with fail
  go_ret
  exact⟨rfl,HB1.out⟩
 | true=>
  go_wp2_with fail
  clear q0 q1 q2 q3 q4 q5 q6 q7
  refine(HHB.out _).mono ?_
  rintro e W2 ⟨rfl,hb2⟩
  have HB2:=Lib.hid (HB1.out.trans (hb2.mono HB1.out.size))
  clear hb2
  go_wp2_with fail
  go_ret
  exact⟨rfl,HB2.out⟩
theorem everySLoad_any (A:Option Addr) (n c:Nat) (w:World) (l:List R5) (g S:Nat) (hs:Blk w g 79 (tabL 8 (sC S))) (hn:n≤9223372036854775807) (hl:RowS 5 R5.cell w w.heap.size A n l):
  Calls Tryz.prog 83 #[.slice A n c,.func (.func 84) #[] #[.pointer (some ⟨g,0,none⟩)]] w (RetPost (.bool (l.all (fun x=>hasS S x.a&&hasS S x.b))) w.heap.size w):=by
 have Hl:=Lib.hid hl
 have Hlen:=Eqn.mk hl.1
 have HS:=Lib.hid hs
 clear hl hs
 go_enter Tryz.func83,Tryz.ntmps83
 go_wp2_with fail
 go_loopw [9] (fun i wr=>∃ k:Nat,k≤n∧i=.int .i64 k∧Eqn (l.all (fun x=>hasS S x.a&&hasS S x.b)) ((l.drop k).all (fun x=>hasS S x.a&&hasS S x.b))∧Below w.heap.size w wr) (fun i _=>n - (intOf i).toNat)
 case atStart=>exact⟨0,Nat.zero_le _,rfl,rfl,Below.refl _ _⟩
 case round=>
  obtain⟨k,hk,rfl,HR,hB⟩:=hrel
  have HB:=Lib.hid hB
  have hbs:=hB.size
  by_cases hlt:k<n
  ·obtain⟨p,hp,hpd⟩:=drop_at (xs:=l) (k:=k) (by rw[Hlen.out];exact hlt)
   obtain⟨b,off,hA,hbl,hc⟩:=(Hl.out.below hB).2 (by omega)
   skip
   subst hA
   obtain⟨p0,p1,p2,p3,p4⟩:=p
   have c0:=hc k _ hp 0 (by omega)
   have c1:=hc k _ hp 1 (by omega)
   have c2:=hc k _ hp 2 (by omega)
   have c3:=hc k _ hp 3 (by omega)
   have c4:=hc k _ hp 4 (by omega)
   simp only[R5.cell,Nat.add_zero] at c0 c1 c2 c3 c4
   have HG:Hid (∀ W,Below wr.heap.size wr W→Calls Tryz.prog 84 #[.agg #[.int .i64 p0,.int .i64 p1,.int .i64 p2,.int .i64 p3,.int .i64 p4],.pointer (some ⟨g,0,none⟩)] W (RetPost (.bool (hasS S p0&&hasS S p1)) W.heap.size W)):=Lib.hid (fun W hW=>cloLoad_any ⟨p0,p1,p2,p3,p4⟩ g S W ((HS.out.keep hB).keep hW))
   have HR2:=HR.out
   rw[hpd,List.all_cons] at HR2
   try dsimp only at HG
   have hbw:b<wr.heap.size:=by omega
   have j0:(k:Int)<(n:Int):=by omega
   have HB2:=Lib.hid (hB.alloc hbs (.cells #[.int .i64 p0,.int .i64 p1,.int .i64 p2,.int .i64 p3,.int .i64 p4] 69))
   dsimp only at HR2
   generalize (hasS S p0&&hasS S p1)=r at *
   clear hc hp hpd HR hB
   go_wp2_with fail
   refine(HG.out _ ((Below.refl _ _).alloc (Nat.le_refl _) _)).mono ?_
   rintro e w1 ⟨rfl,hb1⟩
   have HB3:=Lib.hid (HB2.out.trans (hb1.mono HB2.out.size))
   clear hb1
   cases r with
   | true=>
    have HV:Eqn (l.all (fun x=>hasS S x.a&&hasS S x.b)) ((l.drop (k+1)).all (fun x=>hasS S x.a&&hasS S x.b)):=by rw[Eqn,HR2];rfl
    clear HR2
    go_wp2_with fail
    go_roundw
    case rel=>exact⟨k+1,by omega,by go_num,HV,HB3.out⟩
    case measure=>simp[intOf];omega
   | false=>
    have HV:Eqn (l.all (fun x=>hasS S x.a&&hasS S x.b)) false:=by rw[Eqn,HR2];rfl
    clear HR2
    go_wp2_with fail
    go_ret
    exact⟨ret_bool HV.out.symm,HB3.out⟩
  ·have HV:Eqn (l.all (fun x=>hasS S x.a&&hasS S x.b)) true:=by rw[Eqn,HR.out,drop_end (by rw[Hlen.out];omega)];rfl
   clear HR hB
   go_wp2_with fail
   go_ret
   exact⟨ret_bool HV.out.symm,HB.out⟩
theorem cloCap_any (x:R4) (g S:Nat) (w:World) (h:Blk w g 79 (tabL 8 (sC S))):Calls Tryz.prog 86 #[x.val,.pointer (some ⟨g,0,none⟩)] w (RetPost (.bool (hasS S x.a)) w.heap.size w):=by
 obtain⟨x0,x1,x2,x3⟩:=x
 obtain⟨W0,hW0⟩:∃ W0,W0=w.alloc (.cells #[.int .i64 x0,.int .i64 x1,.int .i64 x2,.int .i64 x3] 71):=⟨_,rfl⟩
 have hB0:Below w.heap.size w W0:=by rw[hW0];exact(Below.refl _ w).alloc (Nat.le_refl _) _
 have hx:Blk W0 w.heap.size 71 [.int .i64 x0,.int .i64 x1,.int .i64 x2,.int .i64 x3]:=by rw[hW0];exact blk_new w _ _
 have HX:=Lib.hid hx
 have HS:=Lib.hid (h.keep hB0)
 have z0:W0.cell? ⟨w.heap.size,0,none⟩=some (.int .i64 x0):=hx.cell rfl
 have zl:=hx.lt
 have HHA:=Lib.hid (fun W=>has_any S x0 W)
 have HHB:=Lib.hid (fun W=>has_any S x1 W)
 have HB0:=Lib.hid hB0
 obtain⟨q0,q1,q2,q3,q4,q5,q6,q7⟩:=HS.out.eight
 have ql:=HS.out.lt
 unfold R4.val
 unfold sV at HHA HHB
 dsimp only
 generalize hasS S x0=b0 at *
 generalize hasS S x1=b1 at *
 clear h hB0 hx
 go_enter Tryz.func86,Tryz.ntmps86
 go_upto_region 1 with fail
 rw[←hW0]
 clear hW0
 go_wp2_with fail
 clear q0 q1 q2 q3 q4 q5 q6 q7
 refine(HHA.out _).mono ?_
 rintro e W1 ⟨rfl,hb1⟩
 have HB1:=Lib.hid (HB0.out.trans (hb1.mono HB0.out.size))
 clear hb1
 go_wp2_with fail
 go_ret
 exact⟨rfl,HB1.out⟩
theorem everySCap_any (A:Option Addr) (n c:Nat) (w:World) (l:List R4) (g S:Nat) (hs:Blk w g 79 (tabL 8 (sC S))) (hn:n≤9223372036854775807) (hl:RowS 4 R4.cell w w.heap.size A n l):
  Calls Tryz.prog 85 #[.slice A n c,.func (.func 86) #[] #[.pointer (some ⟨g,0,none⟩)]] w (RetPost (.bool (l.all (fun x=>hasS S x.a))) w.heap.size w):=by
 have Hl:=Lib.hid hl
 have Hlen:=Eqn.mk hl.1
 have HS:=Lib.hid hs
 clear hl hs
 go_enter Tryz.func85,Tryz.ntmps85
 go_wp2_with fail
 go_loopw [9] (fun i wr=>∃ k:Nat,k≤n∧i=.int .i64 k∧Eqn (l.all (fun x=>hasS S x.a)) ((l.drop k).all (fun x=>hasS S x.a))∧Below w.heap.size w wr) (fun i _=>n - (intOf i).toNat)
 case atStart=>exact⟨0,Nat.zero_le _,rfl,rfl,Below.refl _ _⟩
 case round=>
  obtain⟨k,hk,rfl,HR,hB⟩:=hrel
  have HB:=Lib.hid hB
  have hbs:=hB.size
  by_cases hlt:k<n
  ·obtain⟨p,hp,hpd⟩:=drop_at (xs:=l) (k:=k) (by rw[Hlen.out];exact hlt)
   obtain⟨b,off,hA,hbl,hc⟩:=(Hl.out.below hB).2 (by omega)
   skip
   subst hA
   obtain⟨p0,p1,p2,p3⟩:=p
   have c0:=hc k _ hp 0 (by omega)
   have c1:=hc k _ hp 1 (by omega)
   have c2:=hc k _ hp 2 (by omega)
   have c3:=hc k _ hp 3 (by omega)
   simp only[R4.cell,Nat.add_zero] at c0 c1 c2 c3
   have HG:Hid (∀ W,Below wr.heap.size wr W→Calls Tryz.prog 86 #[.agg #[.int .i64 p0,.int .i64 p1,.int .i64 p2,.int .i64 p3],.pointer (some ⟨g,0,none⟩)] W (RetPost (.bool (hasS S p0)) W.heap.size W)):=Lib.hid (fun W hW=>cloCap_any ⟨p0,p1,p2,p3⟩ g S W ((HS.out.keep hB).keep hW))
   have HR2:=HR.out
   rw[hpd,List.all_cons] at HR2
   try dsimp only at HG
   have hbw:b<wr.heap.size:=by omega
   have j0:(k:Int)<(n:Int):=by omega
   have HB2:=Lib.hid (hB.alloc hbs (.cells #[.int .i64 p0,.int .i64 p1,.int .i64 p2,.int .i64 p3] 71))
   dsimp only at HR2
   generalize (hasS S p0)=r at *
   clear hc hp hpd HR hB
   go_wp2_with fail
   refine(HG.out _ ((Below.refl _ _).alloc (Nat.le_refl _) _)).mono ?_
   rintro e w1 ⟨rfl,hb1⟩
   have HB3:=Lib.hid (HB2.out.trans (hb1.mono HB2.out.size))
   clear hb1
   cases r with
   | true=>
    have HV:Eqn (l.all (fun x=>hasS S x.a)) ((l.drop (k+1)).all (fun x=>hasS S x.a)):=by rw[Eqn,HR2];rfl
    clear HR2
    go_wp2_with fail
    go_roundw
    case rel=>exact⟨k+1,by omega,by go_num,HV,HB3.out⟩
    case measure=>simp[intOf];omega
   | false=>
    have HV:Eqn (l.all (fun x=>hasS S x.a)) false:=by rw[Eqn,HR2];rfl
    clear HR2
    go_wp2_with fail
    go_ret
    exact⟨ret_bool HV.out.symm,HB3.out⟩
  ·have HV:Eqn (l.all (fun x=>hasS S x.a)) true:=by rw[Eqn,HR.out,drop_end (by rw[Hlen.out];omega)];rfl
   clear HR hB
   go_wp2_with fail
   go_ret
   exact⟨ret_bool HV.out.symm,HB.out⟩
end Go.Proofs.YtjakdikhdndlgaaGreatDoor
