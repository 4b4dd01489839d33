/- Lemmas of the proof, part 7. Conditions: none. -/
import Derived.Test.YtjakdikhdndlgaaGreatDoorBas06
set_option maxRecDepth 100000
set_option maxHeartbeats 8000000
namespace Go.Proofs.YtjakdikhdndlgaaGreatDoor
open Go.RowKit
theorem vd_doms (w W0 wi:World) (A:Option Addr) (n c:Nat) (A0 A1 A2:Option Addr) (n0 c0 n1 c1 n2 c2:Nat) (ds:List Dom) (ans rest:Bool) (hn:n≤512) (h:DomsAt W0 W0.heap.size A n ds)
  (hx:Blk W0 w.heap.size 29 [.slice A n c,.slice A0 n0 c0,.slice A1 n1 c1,.slice A2 n2 c2]) (hans:Eqn ans (domGo none ds&&rest)) (hwi:Below W0.heap.size W0 wi)
  (x_0 x_2 x_4 x_5 x_6 x_7 x_8 x_9 x_10 x_11 x_12 x_13 x_14 x_15 x_16 x_17 x_18 x_19 x_20 x_21 x_22 x_23 x_24 x_25 x_26 x_27 x_28 x_29 x_30 x_31 x_32 x_33 x_34 x_35 x_36 x_37 x_38 x_39 x_40 x_41 x_42 x_43 x_44 x_45 x_46 x_47 x_48 x_49 x_50 x_51 x_52 x_53 x_54 x_55 x_56 x_57 x_58 x_59 x_60 x_61 x_62 x_63 x_64 x_65 x_66 x_67 x_68 x_69 x_70 x_71 x_72 x_73 x_74 x_75 x_76 x_77 x_78 x_79 x_80 x_81 x_82 x_83 x_84 x_85 x_86 x_87 x_88 x_89 x_90 x_91 x_92 x_93 x_94 x_95 x_96 x_97 x_98 x_99 x_100 x_101 x_102 x_103 x_104 x_105 x_106 x_107 x_108 x_109 x_110 x_111 x_112 x_113 x_114 x_115 x_116 x_117 x_118 x_119 x_120 x_121 x_122 x_123 x_124 x_125 x_126 x_127 x_128 x_129 x_130 x_131 x_132 x_133 x_134 x_135 x_136 x_137 x_138 x_139 x_140 x_141 x_142 x_143 x_144 x_145 x_146 x_147 x_148 x_149 x_150 x_151 x_152 x_153 x_154 x_155 x_156 x_157 x_158 x_159 x_160 x_161 x_162 x_163 x_164 x_165 x_166 x_167 x_168 x_169 x_170 x_171 x_172 x_173:Value) (Q:Exit→Act→World→Prop)
  (hQ:∀(u2 u3 u4 u5 u19 u20 u21 u22 u23 u24 u25 u26 u27 u28 u29 u30 u31 u32 u33 u34 u35 u36 u37 u38 u39 u40 u41 u42 u43 u44 u45 u46 u47 u48 u49 u50 u51 u52 u53 u54 u55 u56 u57 u58 u59 u60 u61 u62 u63 u64 u65 u66 u67 u68 u69 u70 u71 u72 u73 u74 u75 u76 u77 u78 u79 u80 u81 u82 u83 u84 u85 u86 u87 u88 u89 u90 u91 u92 u93 u94 u95:Value) (w':World),Eqn ans rest→Below W0.heap.size W0 w'→Q (.exit 0) ⟨List.toArray (x_0::Value.pointer (some ⟨w.heap.size,0,none⟩)::u2::u3::u4::u5::x_6::x_7::x_8::x_9::x_10::x_11::x_12::x_13::x_14::x_15::x_16::x_17::x_18::u19::u20::u21::u22::u23::u24::u25::u26::u27::u28::u29::u30::u31::u32::u33::u34::u35::u36::u37::u38::u39::u40::u41::u42::u43::u44::u45::u46::u47::u48::u49::u50::u51::u52::u53::u54::u55::u56::u57::u58::u59::u60::u61::u62::u63::u64::u65::u66::u67::u68::u69::u70::u71::u72::u73::u74::u75::u76::u77::u78::u79::u80::u81::u82::u83::u84::u85::u86::u87::u88::u89::u90::u91::u92::u93::u94::u95::x_96::x_97::x_98::x_99::x_100::x_101::x_102::x_103::x_104::x_105::x_106::x_107::x_108::x_109::x_110::x_111::x_112::x_113::x_114::x_115::x_116::x_117::x_118::x_119::x_120::x_121::x_122::x_123::x_124::x_125::x_126::x_127::x_128::x_129::x_130::x_131::x_132::x_133::x_134::x_135::x_136::x_137::x_138::x_139::x_140::x_141::x_142::x_143::x_144::x_145::x_146::x_147::x_148::x_149::x_150::x_151::x_152::x_153::x_154::x_155::x_156::x_157::x_158::x_159::x_160::x_161::x_162::x_163::x_164::x_165::x_166::x_167::x_168::x_169::x_170::x_171::x_172::x_173::[]),[]⟩ w')
  (hR:∀(u3 u4 u5 u19 u20 u21 u22 u23 u24 u25 u26 u27 u28 u29 u30 u31 u32 u33 u34 u35 u36 u37 u38 u39 u40 u41 u42 u43 u44 u45 u46 u47 u48 u49 u50 u51 u52 u53 u54 u55 u56 u57 u58 u59 u60 u61 u62 u63 u64 u65 u66 u67 u68 u69 u70 u71 u72 u73 u74 u75 u76 u77 u78 u79 u80 u81 u82 u83 u84 u85 u86 u87 u88 u89 u90 u91 u92 u93 u94 u95:Value) (w':World),Eqn ans false→Below W0.heap.size W0 w'→Q .ret ⟨List.toArray (x_0::Value.pointer (some ⟨w.heap.size,0,none⟩)::Value.bool false::u3::u4::u5::x_6::x_7::x_8::x_9::x_10::x_11::x_12::x_13::x_14::x_15::x_16::x_17::x_18::u19::u20::u21::u22::u23::u24::u25::u26::u27::u28::u29::u30::u31::u32::u33::u34::u35::u36::u37::u38::u39::u40::u41::u42::u43::u44::u45::u46::u47::u48::u49::u50::u51::u52::u53::u54::u55::u56::u57::u58::u59::u60::u61::u62::u63::u64::u65::u66::u67::u68::u69::u70::u71::u72::u73::u74::u75::u76::u77::u78::u79::u80::u81::u82::u83::u84::u85::u86::u87::u88::u89::u90::u91::u92::u93::u94::u95::x_96::x_97::x_98::x_99::x_100::x_101::x_102::x_103::x_104::x_105::x_106::x_107::x_108::x_109::x_110::x_111::x_112::x_113::x_114::x_115::x_116::x_117::x_118::x_119::x_120::x_121::x_122::x_123::x_124::x_125::x_126::x_127::x_128::x_129::x_130::x_131::x_132::x_133::x_134::x_135::x_136::x_137::x_138::x_139::x_140::x_141::x_142::x_143::x_144::x_145::x_146::x_147::x_148::x_149::x_150::x_151::x_152::x_153::x_154::x_155::x_156::x_157::x_158::x_159::x_160::x_161::x_162::x_163::x_164::x_165::x_166::x_167::x_168::x_169::x_170::x_171::x_172::x_173::[]),[]⟩ w'):
  Code.wp Tryz.prog (Code.loop (vdLoop 0)) Q ⟨List.toArray (x_0::Value.pointer (some ⟨w.heap.size,0,none⟩)::x_2::Value.int .i64 0::x_4::x_5::x_6::x_7::x_8::x_9::x_10::x_11::x_12::x_13::x_14::x_15::x_16::x_17::x_18::x_19::x_20::x_21::x_22::x_23::x_24::x_25::x_26::x_27::x_28::x_29::x_30::x_31::x_32::x_33::x_34::x_35::x_36::x_37::x_38::x_39::x_40::x_41::x_42::x_43::x_44::x_45::x_46::x_47::x_48::x_49::x_50::x_51::x_52::x_53::x_54::x_55::x_56::x_57::x_58::x_59::x_60::x_61::x_62::x_63::x_64::x_65::x_66::x_67::x_68::x_69::x_70::x_71::x_72::x_73::x_74::x_75::x_76::x_77::x_78::x_79::x_80::x_81::x_82::x_83::x_84::x_85::x_86::x_87::x_88::x_89::x_90::x_91::x_92::x_93::x_94::x_95::x_96::x_97::x_98::x_99::x_100::x_101::x_102::x_103::x_104::x_105::x_106::x_107::x_108::x_109::x_110::x_111::x_112::x_113::x_114::x_115::x_116::x_117::x_118::x_119::x_120::x_121::x_122::x_123::x_124::x_125::x_126::x_127::x_128::x_129::x_130::x_131::x_132::x_133::x_134::x_135::x_136::x_137::x_138::x_139::x_140::x_141::x_142::x_143::x_144::x_145::x_146::x_147::x_148::x_149::x_150::x_151::x_152::x_153::x_154::x_155::x_156::x_157::x_158::x_159::x_160::x_161::x_162::x_163::x_164::x_165::x_166::x_167::x_168::x_169::x_170::x_171::x_172::x_173::[]),[]⟩ wi:=by
 have HQ:=Lib.hid hQ
 have HRT:=Lib.hid hR
 have HX:=Lib.hid hx
 have HC:Hid (∀ W,Below W0.heap.size W0 W→W.cell? ⟨w.heap.size,0,none⟩=some (.slice A n c)∧W.cell? ⟨w.heap.size,1,none⟩=some (.slice A0 n0 c0)∧W.cell? ⟨w.heap.size,2,none⟩=some (.slice A1 n1 c1)∧W.cell? ⟨w.heap.size,3,none⟩=some (.slice A2 n2 c2)):=Lib.hid (fun W hb=>⟨(hx.keep hb).cell rfl,(hx.keep hb).cell rfl,(hx.keep hb).cell rfl,(hx.keep hb).cell rfl⟩)
 have HH:=Lib.hid h
 have Hlen:=Eqn.mk h.1.1
 have HST:=Lib.hid (fun n w=>rst_any n w)
 have HANS:=hans
 have B0:=Lib.hid hwi
 clear h hx hans hwi hQ hR
 conv=>arg 2;arg 1;whnf
 go_loopw [3] (fun i wr=>∃ k:Nat,k≤n∧i=.int .i64 k∧Eqn ans (domGo (prevOf Dom.st ds k) (ds.drop k)&&rest)∧Below W0.heap.size W0 wr) (fun i _=>n - (intOf i).toNat)
 case atStart=>exact⟨0,Nat.zero_le _,rfl,HANS,B0.out⟩
 case round=>
  clear HANS
  obtain⟨k,hk,rfl,HR,hB⟩:=hrel
  obtain⟨wo,rfl⟩:∃ wo:World,wo=wr:=⟨_,rfl⟩
  have HB:=Lib.hid hB
  have hbs:=hB.size
  obtain⟨b0,_,_,_⟩:=HC.out _ hB
  have hwr:w.heap.size<wo.heap.size:=(HX.out.keep hB).lt
  by_cases hlt:k<n
  ·obtain⟨p,hp,hpd⟩:=drop_at (xs:=ds) (k:=k) (by rw[Hlen.out];exact hlt)
   obtain⟨b,off,hA,hbl,hc⟩:=(HH.out.1.below hB).2 (by omega)
   subst hA
   have hrow:=(HH.out.2 p (List.mem_of_getElem? hp)).below hB
   have HR2:=HR.out
   rw[hpd,domGo] at HR2
   have hnx:prevOf Dom.st ds (k+1)=some p.st:=by rw[prevOf_succ,hp];rfl
   have c0':=hc k p hp 0 (by omega)
   have c1':=hc k p hp 1 (by omega)
   simp only[Dom.cell,Nat.add_zero] at c0' c1'
   have hbw:b<wo.heap.size:=by omega
   obtain⟨qs,hqs,hprev⟩:∃ qs:Int,(0<k→wo.cell? ⟨b,off+(k - 1) * 2,none⟩=some (.int .i64 qs))∧(0<k→prevOf Dom.st ds k=some qs):=by
    by_cases h0:0<k
    ·obtain⟨q,hq,_⟩:=drop_at (xs:=ds) (k:=k - 1) (by rw[Hlen.out];omega)
     refine⟨q.st,fun _=>?_,fun _=>?_⟩
     ·have:=hc (k - 1) q hq 0 (by omega);simpa[Dom.cell] using this
     ·unfold prevOf;rw[if_neg (by omega),hq];rfl
    ·exact⟨0,fun h=>absurd h h0,fun h=>absurd h h0⟩
   obtain⟨st,adr,len,cap,chs⟩:=p
   dsimp only at *
   have HCL:Hid (chs.length=len):=Lib.hid hrow.1
   have hINNER:Hid (stF st=true→notUp (prevOf Dom.st ds k) st=false→len≤50→Eqn ans (chIn (prevOf id chs 0) (chs.drop 0)&&(domGo (prevOf Dom.st ds (k+1)) (ds.drop (k+1))&&rest))):=Lib.hid (fun h1 h2 h3=>by
    rw[Eqn,HR2,if_neg (by
     rintro(h | h | h)
     ·rw[h1] at h;cases h
     ·rw[h2] at h;cases h
     ·omega),hnx]
    show (_&&_)=(chIn none chs&&_)
    cases hv:chIn none chs<;>simp)
   have hBAD:Hid (stF st=false∨notUp (prevOf Dom.st ds k) st=true∨50<len→Eqn ans false):=Lib.hid (fun h=>by rw[Eqn,HR2,if_pos h];rfl)
   obtain⟨V1,hV1⟩:∃ V1,V1=wo.alloc (.cells #[.int .i64 st,.slice adr len cap] 64):=⟨_,rfl⟩
   have hb1:Below wo.heap.size wo V1:=by rw[hV1];exact(Below.refl _ wo).alloc (Nat.le_refl _) _
   have hx4:Blk V1 wo.heap.size 64 [.int .i64 st,.slice adr len cap]:=by rw[hV1];exact blk_new _ _ _
   have v0:V1.cell? ⟨wo.heap.size,0,none⟩=some (.int .i64 st):=hx4.cell rfl
   have v1:V1.cell? ⟨wo.heap.size,1,none⟩=some (.slice adr len cap):=hx4.cell rfl
   have v2:=hx4.lt
   have v3:=((HX.out.keep hB).keep hb1).lt
   have HB1:=Lib.hid (hB.trans (hb1.mono hbs))
   obtain⟨z0,_,_,_⟩:=HC.out _ HB1.out
   have HX4:=Lib.hid hx4
   have HROW:=Lib.hid (fun W (h:Below V1.heap.size V1 W)=>(((hrow.up hbs).keep hb1).keep h))
   have HQ1:Hid (0<k→V1.cell? ⟨b,off+(k - 1) * 2,none⟩=some (.int .i64 qs)):=Lib.hid (fun h=>(hb1.cell (p:=⟨b,off+(k - 1) * 2,none⟩) hbw).trans (hqs h))
   have HP:=Lib.hid hprev
   have hbw1:b<V1.heap.size:=by have:=hb1.size;omega
   have j0:(k:Int)<(n:Int):=by omega
   clear hc hp hpd HR HR2 hB hrow hqs hprev hnx hb1 hx4
   go_wp2_with fail
   rw[←hV1]
   clear hV1 c0' c1' b0
   cases hs1:stF st with
   | false=>
    have HE:=hBAD.out (.inl hs1)
    clear hBAD hINNER HP HQ1
    refine Lx.region (C:=fun _=>True) (hs:=[]) (by kernel_rfl) (by kernel_rfl) trivial ?_
    repeat' (first|((first|refine Lx.ln (fun K hK=>?_) | (first|(refine Lx.lp (v:=?_) ?_ (fun K hK=>?_);rotate_left 1;intro w' hCw;try dsimp only at hCw) | (refine Lx.lr (v:=?_) ?_ (fun K hK=>?_);rotate_left 1));go_simp;first|done | with_reducible rfl);go_simp;refine hK _ ?_;clear hK K) | (refine Lx.le (fun K hK=>?_);go_simp;(first|(go_at_call 33;refine(HST.out _ _).mono ?_;rintro e wz ⟨rfl,rfl⟩));refine hK _ _ (trivial) ?_;clear hK K))
    all_goals (refine Lx.lex_nil ?_)
    go_wp2_with fail
    exact HRT.out _ _ _ _ _ _ _ _ _ _ _ _ _ _ _ _ _ _ _ _ _ _ _ _ _ _ _ _ _ _ _ _ _ _ _ _ _ _ _ _ _ _ _ _ _ _ _ _ _ _ _ _ _ _ _ _ _ _ _ _ _ _ _ _ _ _ _ _ _ _ _ _ _ _ _ _ _ _ _ _ _ HE HB1.out.drew
   | true=>
    by_cases h0:0<k
    ·have hp:=HP.out h0
     have qc:=HQ1.out h0
     have k1:decide ((0:Int)<(k:Int))=true:=decide_eq_true (by omega)
     have k5:decide (0<k)=true:=decide_eq_true h0
     obtain⟨k',hk'⟩:∃ k',k - 1=k':=⟨_,rfl⟩
     have e1:IntKind.i64.wrap ((k:Int) - 1)=(k':Int):=by rw[IntWalk.i64_in _ (by omega)];omega
     have e3:(k:Int) - 1=(k':Int):=by omega
     have e9:IntKind.i64.wrap (k':Int)=(k':Int):=by rw[IntWalk.i64_in _ (by omega)]
     have e4:(0:Int)≤(k':Int):=by omega
     have e5:(k':Int)<(n:Int):=by omega
     rw[hk'] at qc
     have hup0:notUp (prevOf Dom.st ds k) st=decide (st≤qs):=by rw[hp];rfl
     by_cases b3:st≤qs
     ·have HE:=hBAD.out (.inr (.inl (by rw[hup0];simpa using b3)))
      have hd3:decide (st≤qs)=true:=decide_eq_true b3
      clear hBAD hINNER HP HQ1 hp hup0 hk' h0 b3
      refine Lx.region (C:=fun _=>True) (hs:=[]) (by kernel_rfl) (by kernel_rfl) trivial ?_
      repeat' (first|((first|refine Lx.ln (fun K hK=>?_) | (first|(refine Lx.lp (v:=?_) ?_ (fun K hK=>?_);rotate_left 1;intro w' hCw;try dsimp only at hCw) | (refine Lx.lr (v:=?_) ?_ (fun K hK=>?_);rotate_left 1));go_simp;first|done | with_reducible rfl);go_simp;refine hK _ ?_;clear hK K) | (refine Lx.le (fun K hK=>?_);go_simp;(first|(go_at_call 33;refine(HST.out _ _).mono ?_;rintro e wz ⟨rfl,rfl⟩));refine hK _ _ (trivial) ?_;clear hK K))
      all_goals (refine Lx.lex_nil ?_)
      go_wp2_with fail
      exact HRT.out _ _ _ _ _ _ _ _ _ _ _ _ _ _ _ _ _ _ _ _ _ _ _ _ _ _ _ _ _ _ _ _ _ _ _ _ _ _ _ _ _ _ _ _ _ _ _ _ _ _ _ _ _ _ _ _ _ _ _ _ _ _ _ _ _ _ _ _ _ _ _ _ _ _ _ _ _ _ _ _ _ HE HB1.out.drew
     ·have hd3:decide (st≤qs)=false:=decide_eq_false b3
      have hup:notUp (prevOf Dom.st ds k) st=false:=by rw[hup0];exact hd3
      clear hp hup0 hk' h0 b3 HQ1 HP
      by_cases hl50:50<len
      ·have HE:=hBAD.out (.inr (.inr hl50))
       have hd6:decide ((50:Int)<(len:Int))=true:=decide_eq_true (by omega)
       clear hBAD hINNER hup hl50
       refine Lx.region (C:=fun _=>True) (hs:=[]) (by kernel_rfl) (by kernel_rfl) trivial ?_
       repeat' (first|((first|refine Lx.ln (fun K hK=>?_) | (first|(refine Lx.lp (v:=?_) ?_ (fun K hK=>?_);rotate_left 1;intro w' hCw;try dsimp only at hCw) | (refine Lx.lr (v:=?_) ?_ (fun K hK=>?_);rotate_left 1));go_simp;first|done | with_reducible rfl);go_simp;refine hK _ ?_;clear hK K) | (refine Lx.le (fun K hK=>?_);go_simp;(first|(go_at_call 33;refine(HST.out _ _).mono ?_;rintro e wz ⟨rfl,rfl⟩));refine hK _ _ (trivial) ?_;clear hK K))
       all_goals (refine Lx.lex_nil ?_)
       go_wp2_with fail
       exact HRT.out _ _ _ _ _ _ _ _ _ _ _ _ _ _ _ _ _ _ _ _ _ _ _ _ _ _ _ _ _ _ _ _ _ _ _ _ _ _ _ _ _ _ _ _ _ _ _ _ _ _ _ _ _ _ _ _ _ _ _ _ _ _ _ _ _ _ _ _ _ _ _ _ _ _ _ _ _ _ _ _ _ HE HB1.out.drew
      have hd6:decide ((50:Int)<(len:Int))=false:=decide_eq_false (by omega)
      have HI:=hINNER.out hs1 hup (by omega)
      clear hBAD hINNER hup
      refine Lx.region (C:=fun _=>True) (hs:=[]) (by kernel_rfl) (by kernel_rfl) trivial ?_
      repeat' (first|((first|refine Lx.ln (fun K hK=>?_) | (first|(refine Lx.lp (v:=?_) ?_ (fun K hK=>?_);rotate_left 1;intro w' hCw;try dsimp only at hCw) | (refine Lx.lr (v:=?_) ?_ (fun K hK=>?_);rotate_left 1));go_simp;first|done | with_reducible rfl);go_simp;refine hK _ ?_;clear hK K) | (refine Lx.le (fun K hK=>?_);go_simp;(first|(go_at_call 33;refine(HST.out _ _).mono ?_;rintro e wz ⟨rfl,rfl⟩));refine hK _ _ (trivial) ?_;clear hK K))
      all_goals (refine Lx.lex_nil ?_)
      go_wp2_with fail
      have HBV:Hid (∀ W,Below V1.heap.size V1 W→Below W0.heap.size W0 W):=Lib.hid (fun W h=>HB1.out.trans (h.mono HB1.out.size))
      have HCC:Hid (∀ W,Below V1.heap.size V1 W→W.cell? ⟨wo.heap.size,1,none⟩=some (.slice adr len cap)):=Lib.hid (fun W h=>(HX4.out.keep h).cell rfl)
      clear v0 v1 z0
      go_loopw [5] (fun i wr=>∃ m:Nat,m≤len∧i=.int .i64 m∧Eqn ans (chIn (prevOf id chs m) (chs.drop m)&&(domGo (prevOf Dom.st ds (k+1)) (ds.drop (k+1))&&rest))∧Below V1.heap.size V1 wr) (fun i _=>len - (intOf i).toNat)
      case atStart=>exact⟨0,Nat.zero_le _,rfl,HI,(Below.refl _ _).drew⟩
      case round=>
       clear HI
       obtain⟨m,hm,rfl,HJ,hBi⟩:=hrel
       have c1:=HCC.out _ hBi
       have his:=hBi.size
       have hbw2:wo.heap.size<wr.heap.size:=by omega
       have HBi:=Lib.hid hBi
       by_cases hml:m<len
       ·obtain⟨x,hx,hxd⟩:=drop_at (xs:=chs) (k:=m) (by rw[HCL.out];exact hml)
        obtain⟨b2,off2,hA2,hbl2,hc2⟩:=(HROW.out _ hBi).2 (by omega)
        subst hA2
        have x0:=hc2 m x hx
        simp only[intV] at x0
        have HJ2:=HJ.out
        rw[hxd,chIn] at HJ2
        have hnx:prevOf id chs (m+1)=some x:=by rw[prevOf_succ,hx];rfl
        obtain⟨q,hq,hprev⟩:∃ q:Int,(0<m→wr.cell? ⟨b2,off2+(m - 1),none⟩=some (.int .i64 q))∧(0<m→prevOf id chs m=some q):=by
         by_cases h0:0<m
         ·obtain⟨q,hq,_⟩:=drop_at (xs:=chs) (k:=m - 1) (by rw[HCL.out];omega)
          refine⟨q,fun _=>?_,fun _=>?_⟩
          ·have:=hc2 (m - 1) q hq;simpa[intV] using this
          ·unfold prevOf;rw[if_neg (by omega),hq];rfl
         ·exact⟨0,fun h=>absurd h h0,fun h=>absurd h h0⟩
        have HNX2:=Eqn.mk hnx
        have HJJ:=Eqn.mk HJ2
        have HQ2:=Lib.hid hq
        have HP2:=Lib.hid hprev
        have m0:(m:Int)<(len:Int):=by omega
        have hbw3:b2<wr.heap.size:=by omega
        clear hc2 hx hxd HJ HJ2 hnx hq hprev hBi
        go_wp2_with fail
        by_cases a1:x<2
        ·have HE:Eqn ans false:=by rw[Eqn,HJJ.out,if_pos (.inl a1)];rfl
         have g1:decide (x<2)=true:=decide_eq_true a1
         clear HJJ
         refine Lx.region (C:=fun _=>True) (hs:=[]) (by kernel_rfl) (by kernel_rfl) trivial ?_
         repeat' (first|((first|refine Lx.ln (fun K hK=>?_) | (first|(refine Lx.lp (v:=?_) ?_ (fun K hK=>?_);rotate_left 1;intro w' hCw;try dsimp only at hCw) | (refine Lx.lr (v:=?_) ?_ (fun K hK=>?_);rotate_left 1));go_simp;first|done | with_reducible rfl);go_simp;refine hK _ ?_;clear hK K) | (refine Lx.le (fun K hK=>?_);go_simp;(first|fail);refine hK _ _ (trivial) ?_;clear hK K))
         all_goals (refine Lx.lex_nil ?_)
         go_wp2_with fail
         exact HRT.out _ _ _ _ _ _ _ _ _ _ _ _ _ _ _ _ _ _ _ _ _ _ _ _ _ _ _ _ _ _ _ _ _ _ _ _ _ _ _ _ _ _ _ _ _ _ _ _ _ _ _ _ _ _ _ _ _ _ _ _ _ _ _ _ _ _ _ _ _ _ _ _ _ _ _ _ _ _ _ _ _ HE (HBV.out _ HBi.out.drew)
        by_cases a2:51<x
        ·have HE:Eqn ans false:=by rw[Eqn,HJJ.out,if_pos (.inr (.inl a2))];rfl
         have g1:decide (x<2)=false:=decide_eq_false a1
         have g2:decide (51<x)=true:=decide_eq_true a2
         clear HJJ a1
         refine Lx.region (C:=fun _=>True) (hs:=[]) (by kernel_rfl) (by kernel_rfl) trivial ?_
         repeat' (first|((first|refine Lx.ln (fun K hK=>?_) | (first|(refine Lx.lp (v:=?_) ?_ (fun K hK=>?_);rotate_left 1;intro w' hCw;try dsimp only at hCw) | (refine Lx.lr (v:=?_) ?_ (fun K hK=>?_);rotate_left 1));go_simp;first|done | with_reducible rfl);go_simp;refine hK _ ?_;clear hK K) | (refine Lx.le (fun K hK=>?_);go_simp;(first|fail);refine hK _ _ (trivial) ?_;clear hK K))
         all_goals (refine Lx.lex_nil ?_)
         go_wp2_with fail
         exact HRT.out _ _ _ _ _ _ _ _ _ _ _ _ _ _ _ _ _ _ _ _ _ _ _ _ _ _ _ _ _ _ _ _ _ _ _ _ _ _ _ _ _ _ _ _ _ _ _ _ _ _ _ _ _ _ _ _ _ _ _ _ _ _ _ _ _ _ _ _ _ _ _ _ _ _ _ _ _ _ _ _ _ HE (HBV.out _ HBi.out.drew)
        have g1:decide (x<2)=false:=decide_eq_false a1
        have g2:decide (51<x)=false:=decide_eq_false a2
        by_cases h0:0<m
        ·have hp:=HP2.out h0
         have qc:=HQ2.out h0
         have k1':decide ((0:Int)<(m:Int))=true:=decide_eq_true (by omega)
         have k5':decide (0<m)=true:=decide_eq_true h0
         obtain⟨m',hm'⟩:∃ m',m - 1=m':=⟨_,rfl⟩
         have s1:IntKind.i64.wrap ((m:Int) - 1)=(m':Int):=by rw[IntWalk.i64_in _ (by omega)];omega
         have s3:(m:Int) - 1=(m':Int):=by omega
         have s9:IntKind.i64.wrap (m':Int)=(m':Int):=by rw[IntWalk.i64_in _ (by omega)]
         have s4:(0:Int)≤(m':Int):=by omega
         have s5:(m':Int)<(len:Int):=by omega
         rw[hm'] at qc
         by_cases a3:x≤q
         ·have HE:Eqn ans false:=by rw[Eqn,HJJ.out,if_pos (.inr (.inr (by rw[hp];simpa[notUp] using a3)))];rfl
          have g3:decide (x≤q)=true:=decide_eq_true a3
          clear HJJ hp HP2 HQ2 hm' h0 a1 a2 a3
          refine Lx.region (C:=fun _=>True) (hs:=[]) (by kernel_rfl) (by kernel_rfl) trivial ?_
          repeat' (first|((first|refine Lx.ln (fun K hK=>?_) | (first|(refine Lx.lp (v:=?_) ?_ (fun K hK=>?_);rotate_left 1;intro w' hCw;try dsimp only at hCw) | (refine Lx.lr (v:=?_) ?_ (fun K hK=>?_);rotate_left 1));go_simp;first|done | with_reducible rfl);go_simp;refine hK _ ?_;clear hK K) | (refine Lx.le (fun K hK=>?_);go_simp;(first|fail);refine hK _ _ (trivial) ?_;clear hK K))
          all_goals (refine Lx.lex_nil ?_)
          go_wp2_with fail
          exact HRT.out _ _ _ _ _ _ _ _ _ _ _ _ _ _ _ _ _ _ _ _ _ _ _ _ _ _ _ _ _ _ _ _ _ _ _ _ _ _ _ _ _ _ _ _ _ _ _ _ _ _ _ _ _ _ _ _ _ _ _ _ _ _ _ _ _ _ _ _ _ _ _ _ _ _ _ _ _ _ _ _ _ HE (HBV.out _ HBi.out.drew)
         ·have HN:Eqn ans (chIn (prevOf id chs (m+1)) (chs.drop (m+1))&&(domGo (prevOf Dom.st ds (k+1)) (ds.drop (k+1))&&rest)):=by
           rw[Eqn,HJJ.out,if_neg (by
            rintro(h | h | h)
            ·exact a1 h
            ·exact a2 h
            ·rw[hp] at h;simp[notUp] at h;omega),HNX2.out]
          have g3:decide (x≤q)=false:=decide_eq_false a3
          clear HJJ hp HP2 HQ2 hm' h0 a1 a2 a3
          refine Lx.region (C:=fun _=>True) (hs:=[]) (by kernel_rfl) (by kernel_rfl) trivial ?_
          repeat' (first|((first|refine Lx.ln (fun K hK=>?_) | (first|(refine Lx.lp (v:=?_) ?_ (fun K hK=>?_);rotate_left 1;intro w' hCw;try dsimp only at hCw) | (refine Lx.lr (v:=?_) ?_ (fun K hK=>?_);rotate_left 1));go_simp;first|done | with_reducible rfl);go_simp;refine hK _ ?_;clear hK K) | (refine Lx.le (fun K hK=>?_);go_simp;(first|fail);refine hK _ _ (trivial) ?_;clear hK K))
          all_goals (refine Lx.lex_nil ?_)
          go_wp2_with fail
          go_roundw
          case rel=>exact⟨m+1,by omega,by go_num,HN,HBi.out.drew⟩
          case measure=>simp[intOf];omega
        ·have hp:prevOf id chs m=none:=by unfold prevOf;rw[if_pos (by omega)]
         have HN:Eqn ans (chIn (prevOf id chs (m+1)) (chs.drop (m+1))&&(domGo (prevOf Dom.st ds (k+1)) (ds.drop (k+1))&&rest)):=by
          rw[Eqn,HJJ.out,if_neg (by
           rintro(h | h | h)
           ·exact a1 h
           ·exact a2 h
           ·rw[hp] at h;cases h),HNX2.out]
         have k1':decide ((0:Int)<(m:Int))=false:=decide_eq_false (by omega)
         have k5':decide (0<m)=false:=decide_eq_false h0
         clear HJJ hp HP2 HQ2 h0 a1 a2
         refine Lx.region (C:=fun _=>True) (hs:=[]) (by kernel_rfl) (by kernel_rfl) trivial ?_
         repeat' (first|((first|refine Lx.ln (fun K hK=>?_) | (first|(refine Lx.lp (v:=?_) ?_ (fun K hK=>?_);rotate_left 1;intro w' hCw;try dsimp only at hCw) | (refine Lx.lr (v:=?_) ?_ (fun K hK=>?_);rotate_left 1));go_simp;first|done | with_reducible rfl);go_simp;refine hK _ ?_;clear hK K) | (refine Lx.le (fun K hK=>?_);go_simp;(first|fail);refine hK _ _ (trivial) ?_;clear hK K))
         all_goals (refine Lx.lex_nil ?_)
         go_wp2_with fail
         go_roundw
         case rel=>exact⟨m+1,by omega,by go_num,HN,HBi.out.drew⟩
         case measure=>simp[intOf];omega
       ·obtain rfl:m=len:=by omega
        have HN:Eqn ans (domGo (prevOf Dom.st ds (k+1)) (ds.drop (k+1))&&rest):=by rw[Eqn,HJ.out,drop_end (by rw[HCL.out];omega)];simp[chIn]
        clear HJ hBi
        go_wp2_with fail
        clear c1
        go_roundw
        case rel=>exact⟨k+1,by omega,by go_num,HN,HBV.out _ HBi.out⟩
        case measure=>simp[intOf];omega
    ·have hup:notUp (prevOf Dom.st ds k) st=false:=by unfold prevOf;rw[if_pos (by omega)];rfl
     have k1:decide ((0:Int)<(k:Int))=false:=decide_eq_false (by omega)
     have k5:decide (0<k)=false:=decide_eq_false h0
     clear h0 HQ1 HP
     by_cases hl50:50<len
     ·have HE:=hBAD.out (.inr (.inr hl50))
      have hd6:decide ((50:Int)<(len:Int))=true:=decide_eq_true (by omega)
      clear hBAD hINNER hup hl50
      refine Lx.region (C:=fun _=>True) (hs:=[]) (by kernel_rfl) (by kernel_rfl) trivial ?_
      repeat' (first|((first|refine Lx.ln (fun K hK=>?_) | (first|(refine Lx.lp (v:=?_) ?_ (fun K hK=>?_);rotate_left 1;intro w' hCw;try dsimp only at hCw) | (refine Lx.lr (v:=?_) ?_ (fun K hK=>?_);rotate_left 1));go_simp;first|done | with_reducible rfl);go_simp;refine hK _ ?_;clear hK K) | (refine Lx.le (fun K hK=>?_);go_simp;(first|(go_at_call 33;refine(HST.out _ _).mono ?_;rintro e wz ⟨rfl,rfl⟩));refine hK _ _ (trivial) ?_;clear hK K))
      all_goals (refine Lx.lex_nil ?_)
      go_wp2_with fail
      exact HRT.out _ _ _ _ _ _ _ _ _ _ _ _ _ _ _ _ _ _ _ _ _ _ _ _ _ _ _ _ _ _ _ _ _ _ _ _ _ _ _ _ _ _ _ _ _ _ _ _ _ _ _ _ _ _ _ _ _ _ _ _ _ _ _ _ _ _ _ _ _ _ _ _ _ _ _ _ _ _ _ _ _ HE HB1.out.drew
     have hd6:decide ((50:Int)<(len:Int))=false:=decide_eq_false (by omega)
     have HI:=hINNER.out hs1 hup (by omega)
     clear hBAD hINNER hup
     refine Lx.region (C:=fun _=>True) (hs:=[]) (by kernel_rfl) (by kernel_rfl) trivial ?_
     repeat' (first|((first|refine Lx.ln (fun K hK=>?_) | (first|(refine Lx.lp (v:=?_) ?_ (fun K hK=>?_);rotate_left 1;intro w' hCw;try dsimp only at hCw) | (refine Lx.lr (v:=?_) ?_ (fun K hK=>?_);rotate_left 1));go_simp;first|done | with_reducible rfl);go_simp;refine hK _ ?_;clear hK K) | (refine Lx.le (fun K hK=>?_);go_simp;(first|(go_at_call 33;refine(HST.out _ _).mono ?_;rintro e wz ⟨rfl,rfl⟩));refine hK _ _ (trivial) ?_;clear hK K))
     all_goals (refine Lx.lex_nil ?_)
     go_wp2_with fail
     have HBV:Hid (∀ W,Below V1.heap.size V1 W→Below W0.heap.size W0 W):=Lib.hid (fun W h=>HB1.out.trans (h.mono HB1.out.size))
     have HCC:Hid (∀ W,Below V1.heap.size V1 W→W.cell? ⟨wo.heap.size,1,none⟩=some (.slice adr len cap)):=Lib.hid (fun W h=>(HX4.out.keep h).cell rfl)
     clear v0 v1 z0
     go_loopw [5] (fun i wr=>∃ m:Nat,m≤len∧i=.int .i64 m∧Eqn ans (chIn (prevOf id chs m) (chs.drop m)&&(domGo (prevOf Dom.st ds (k+1)) (ds.drop (k+1))&&rest))∧Below V1.heap.size V1 wr) (fun i _=>len - (intOf i).toNat)
     case atStart=>exact⟨0,Nat.zero_le _,rfl,HI,(Below.refl _ _).drew⟩
     case round=>
      clear HI
      obtain⟨m,hm,rfl,HJ,hBi⟩:=hrel
      have c1:=HCC.out _ hBi
      have his:=hBi.size
      have hbw2:wo.heap.size<wr.heap.size:=by omega
      have HBi:=Lib.hid hBi
      by_cases hml:m<len
      ·obtain⟨x,hx,hxd⟩:=drop_at (xs:=chs) (k:=m) (by rw[HCL.out];exact hml)
       obtain⟨b2,off2,hA2,hbl2,hc2⟩:=(HROW.out _ hBi).2 (by omega)
       subst hA2
       have x0:=hc2 m x hx
       simp only[intV] at x0
       have HJ2:=HJ.out
       rw[hxd,chIn] at HJ2
       have hnx:prevOf id chs (m+1)=some x:=by rw[prevOf_succ,hx];rfl
       obtain⟨q,hq,hprev⟩:∃ q:Int,(0<m→wr.cell? ⟨b2,off2+(m - 1),none⟩=some (.int .i64 q))∧(0<m→prevOf id chs m=some q):=by
        by_cases h0:0<m
        ·obtain⟨q,hq,_⟩:=drop_at (xs:=chs) (k:=m - 1) (by rw[HCL.out];omega)
         refine⟨q,fun _=>?_,fun _=>?_⟩
         ·have:=hc2 (m - 1) q hq;simpa[intV] using this
         ·unfold prevOf;rw[if_neg (by omega),hq];rfl
        ·exact⟨0,fun h=>absurd h h0,fun h=>absurd h h0⟩
       have HNX2:=Eqn.mk hnx
       have HJJ:=Eqn.mk HJ2
       have HQ2:=Lib.hid hq
       have HP2:=Lib.hid hprev
       have m0:(m:Int)<(len:Int):=by omega
       have hbw3:b2<wr.heap.size:=by omega
       clear hc2 hx hxd HJ HJ2 hnx hq hprev hBi
       go_wp2_with fail
       by_cases a1:x<2
       ·have HE:Eqn ans false:=by rw[Eqn,HJJ.out,if_pos (.inl a1)];rfl
        have g1:decide (x<2)=true:=decide_eq_true a1
        clear HJJ
        refine Lx.region (C:=fun _=>True) (hs:=[]) (by kernel_rfl) (by kernel_rfl) trivial ?_
        repeat' (first|((first|refine Lx.ln (fun K hK=>?_) | (first|(refine Lx.lp (v:=?_) ?_ (fun K hK=>?_);rotate_left 1;intro w' hCw;try dsimp only at hCw) | (refine Lx.lr (v:=?_) ?_ (fun K hK=>?_);rotate_left 1));go_simp;first|done | with_reducible rfl);go_simp;refine hK _ ?_;clear hK K) | (refine Lx.le (fun K hK=>?_);go_simp;(first|fail);refine hK _ _ (trivial) ?_;clear hK K))
        all_goals (refine Lx.lex_nil ?_)
        go_wp2_with fail
        exact HRT.out _ _ _ _ _ _ _ _ _ _ _ _ _ _ _ _ _ _ _ _ _ _ _ _ _ _ _ _ _ _ _ _ _ _ _ _ _ _ _ _ _ _ _ _ _ _ _ _ _ _ _ _ _ _ _ _ _ _ _ _ _ _ _ _ _ _ _ _ _ _ _ _ _ _ _ _ _ _ _ _ _ HE (HBV.out _ HBi.out.drew)
       by_cases a2:51<x
       ·have HE:Eqn ans false:=by rw[Eqn,HJJ.out,if_pos (.inr (.inl a2))];rfl
        have g1:decide (x<2)=false:=decide_eq_false a1
        have g2:decide (51<x)=true:=decide_eq_true a2
        clear HJJ a1
        refine Lx.region (C:=fun _=>True) (hs:=[]) (by kernel_rfl) (by kernel_rfl) trivial ?_
        repeat' (first|((first|refine Lx.ln (fun K hK=>?_) | (first|(refine Lx.lp (v:=?_) ?_ (fun K hK=>?_);rotate_left 1;intro w' hCw;try dsimp only at hCw) | (refine Lx.lr (v:=?_) ?_ (fun K hK=>?_);rotate_left 1));go_simp;first|done | with_reducible rfl);go_simp;refine hK _ ?_;clear hK K) | (refine Lx.le (fun K hK=>?_);go_simp;(first|fail);refine hK _ _ (trivial) ?_;clear hK K))
        all_goals (refine Lx.lex_nil ?_)
        go_wp2_with fail
        exact HRT.out _ _ _ _ _ _ _ _ _ _ _ _ _ _ _ _ _ _ _ _ _ _ _ _ _ _ _ _ _ _ _ _ _ _ _ _ _ _ _ _ _ _ _ _ _ _ _ _ _ _ _ _ _ _ _ _ _ _ _ _ _ _ _ _ _ _ _ _ _ _ _ _ _ _ _ _ _ _ _ _ _ HE (HBV.out _ HBi.out.drew)
       have g1:decide (x<2)=false:=decide_eq_false a1
       have g2:decide (51<x)=false:=decide_eq_false a2
       by_cases h0:0<m
       ·have hp:=HP2.out h0
        have qc:=HQ2.out h0
        have k1':decide ((0:Int)<(m:Int))=true:=decide_eq_true (by omega)
        have k5':decide (0<m)=true:=decide_eq_true h0
        obtain⟨m',hm'⟩:∃ m',m - 1=m':=⟨_,rfl⟩
        have s1:IntKind.i64.wrap ((m:Int) - 1)=(m':Int):=by rw[IntWalk.i64_in _ (by omega)];omega
        have s3:(m:Int) - 1=(m':Int):=by omega
        have s9:IntKind.i64.wrap (m':Int)=(m':Int):=by rw[IntWalk.i64_in _ (by omega)]
        have s4:(0:Int)≤(m':Int):=by omega
        have s5:(m':Int)<(len:Int):=by omega
        rw[hm'] at qc
        by_cases a3:x≤q
        ·have HE:Eqn ans false:=by rw[Eqn,HJJ.out,if_pos (.inr (.inr (by rw[hp];simpa[notUp] using a3)))];rfl
         have g3:decide (x≤q)=true:=decide_eq_true a3
         clear HJJ hp HP2 HQ2 hm' h0 a1 a2 a3
         refine Lx.region (C:=fun _=>True) (hs:=[]) (by kernel_rfl) (by kernel_rfl) trivial ?_
         repeat' (first|((first|refine Lx.ln (fun K hK=>?_) | (first|(refine Lx.lp (v:=?_) ?_ (fun K hK=>?_);rotate_left 1;intro w' hCw;try dsimp only at hCw) | (refine Lx.lr (v:=?_) ?_ (fun K hK=>?_);rotate_left 1));go_simp;first|done | with_reducible rfl);go_simp;refine hK _ ?_;clear hK K) | (refine Lx.le (fun K hK=>?_);go_simp;(first|fail);refine hK _ _ (trivial) ?_;clear hK K))
         all_goals (refine Lx.lex_nil ?_)
         go_wp2_with fail
         exact HRT.out _ _ _ _ _ _ _ _ _ _ _ _ _ _ _ _ _ _ _ _ _ _ _ _ _ _ _ _ _ _ _ _ _ _ _ _ _ _ _ _ _ _ _ _ _ _ _ _ _ _ _ _ _ _ _ _ _ _ _ _ _ _ _ _ _ _ _ _ _ _ _ _ _ _ _ _ _ _ _ _ _ HE (HBV.out _ HBi.out.drew)
        ·have HN:Eqn ans (chIn (prevOf id chs (m+1)) (chs.drop (m+1))&&(domGo (prevOf Dom.st ds (k+1)) (ds.drop (k+1))&&rest)):=by
          rw[Eqn,HJJ.out,if_neg (by
           rintro(h | h | h)
           ·exact a1 h
           ·exact a2 h
           ·rw[hp] at h;simp[notUp] at h;omega),HNX2.out]
         have g3:decide (x≤q)=false:=decide_eq_false a3
         clear HJJ hp HP2 HQ2 hm' h0 a1 a2 a3
         refine Lx.region (C:=fun _=>True) (hs:=[]) (by kernel_rfl) (by kernel_rfl) trivial ?_
         repeat' (first|((first|refine Lx.ln (fun K hK=>?_) | (first|(refine Lx.lp (v:=?_) ?_ (fun K hK=>?_);rotate_left 1;intro w' hCw;try dsimp only at hCw) | (refine Lx.lr (v:=?_) ?_ (fun K hK=>?_);rotate_left 1));go_simp;first|done | with_reducible rfl);go_simp;refine hK _ ?_;clear hK K) | (refine Lx.le (fun K hK=>?_);go_simp;(first|fail);refine hK _ _ (trivial) ?_;clear hK K))
         all_goals (refine Lx.lex_nil ?_)
         go_wp2_with fail
         go_roundw
         case rel=>exact⟨m+1,by omega,by go_num,HN,HBi.out.drew⟩
         case measure=>simp[intOf];omega
       ·have hp:prevOf id chs m=none:=by unfold prevOf;rw[if_pos (by omega)]
        have HN:Eqn ans (chIn (prevOf id chs (m+1)) (chs.drop (m+1))&&(domGo (prevOf Dom.st ds (k+1)) (ds.drop (k+1))&&rest)):=by
         rw[Eqn,HJJ.out,if_neg (by
          rintro(h | h | h)
          ·exact a1 h
          ·exact a2 h
          ·rw[hp] at h;cases h),HNX2.out]
        have k1':decide ((0:Int)<(m:Int))=false:=decide_eq_false (by omega)
        have k5':decide (0<m)=false:=decide_eq_false h0
        clear HJJ hp HP2 HQ2 h0 a1 a2
        refine Lx.region (C:=fun _=>True) (hs:=[]) (by kernel_rfl) (by kernel_rfl) trivial ?_
        repeat' (first|((first|refine Lx.ln (fun K hK=>?_) | (first|(refine Lx.lp (v:=?_) ?_ (fun K hK=>?_);rotate_left 1;intro w' hCw;try dsimp only at hCw) | (refine Lx.lr (v:=?_) ?_ (fun K hK=>?_);rotate_left 1));go_simp;first|done | with_reducible rfl);go_simp;refine hK _ ?_;clear hK K) | (refine Lx.le (fun K hK=>?_);go_simp;(first|fail);refine hK _ _ (trivial) ?_;clear hK K))
        all_goals (refine Lx.lex_nil ?_)
        go_wp2_with fail
        go_roundw
        case rel=>exact⟨m+1,by omega,by go_num,HN,HBi.out.drew⟩
        case measure=>simp[intOf];omega
      ·obtain rfl:m=len:=by omega
       have HN:Eqn ans (domGo (prevOf Dom.st ds (k+1)) (ds.drop (k+1))&&rest):=by rw[Eqn,HJ.out,drop_end (by rw[HCL.out];omega)];simp[chIn]
       clear HJ hBi
       go_wp2_with fail
       clear c1
       go_roundw
       case rel=>exact⟨k+1,by omega,by go_num,HN,HBV.out _ HBi.out⟩
       case measure=>simp[intOf];omega
  ·obtain rfl:k=n:=by omega
   have HNEXT:Eqn ans rest:=by rw[Eqn,HR.out,drop_end (by rw[Hlen.out];omega)];simp[domGo]
   clear hB HR hlt hk
   go_wp2_with fail
   exact HQ.out _ _ _ _ _ _ _ _ _ _ _ _ _ _ _ _ _ _ _ _ _ _ _ _ _ _ _ _ _ _ _ _ _ _ _ _ _ _ _ _ _ _ _ _ _ _ _ _ _ _ _ _ _ _ _ _ _ _ _ _ _ _ _ _ _ _ _ _ _ _ _ _ _ _ _ _ _ _ _ _ _ _ HNEXT HB.out
theorem vd_pairs (w W0 wi:World) (A:Option Addr) (n c:Nat) (A0 A1 A2:Option Addr) (n0 c0 n1 c1 n2 c2:Nat) (ds:List Dom) (ans rest:Bool) (hn:n≤512) (h:DomsAt W0 W0.heap.size A n ds)
  (hx:Blk W0 w.heap.size 29 [.slice A n c,.slice A0 n0 c0,.slice A1 n1 c1,.slice A2 n2 c2]) (l:List R5) (hlr:RowS 5 R5.cell W0 W0.heap.size A0 n0 l) (hln:n0≤4096) (hans:Eqn ans (l.all (fun x=>inD ds x.a&&inD ds x.b)&&rest)) (hwi:Below W0.heap.size W0 wi)
  (x_0 x_2 x_3 x_4 x_5 x_7 x_8 x_9 x_10 x_11 x_12 x_13 x_14 x_15 x_16 x_17 x_18 x_19 x_20 x_21 x_22 x_23 x_24 x_25 x_26 x_27 x_28 x_29 x_30 x_31 x_32 x_33 x_34 x_35 x_36 x_37 x_38 x_39 x_40 x_41 x_42 x_43 x_44 x_45 x_46 x_47 x_48 x_49 x_50 x_51 x_52 x_53 x_54 x_55 x_56 x_57 x_58 x_59 x_60 x_61 x_62 x_63 x_64 x_65 x_66 x_67 x_68 x_69 x_70 x_71 x_72 x_73 x_74 x_75 x_76 x_77 x_78 x_79 x_80 x_81 x_82 x_83 x_84 x_85 x_86 x_87 x_88 x_89 x_90 x_91 x_92 x_93 x_94 x_95 x_96 x_97 x_98 x_99 x_100 x_101 x_102 x_103 x_104 x_105 x_106 x_107 x_108 x_109 x_110 x_111 x_112 x_113 x_114 x_115 x_116 x_117 x_118 x_119 x_120 x_121 x_122 x_123 x_124 x_125 x_126 x_127 x_128 x_129 x_130 x_131 x_132 x_133 x_134 x_135 x_136 x_137 x_138 x_139 x_140 x_141 x_142 x_143 x_144 x_145 x_146 x_147 x_148 x_149 x_150 x_151 x_152 x_153 x_154 x_155 x_156 x_157 x_158 x_159 x_160 x_161 x_162 x_163 x_164 x_165 x_166 x_167 x_168 x_169 x_170 x_171 x_172 x_173:Value) (Q:Exit→Act→World→Prop)
  (hQ:∀(u2 u6 u96 u97 u98 u99 u100 u101 u102 u103 u104 u105 u106 u107 u108 u109 u110 u111 u112 u113 u114 u115 u116 u117 u118 u119 u120 u121 u122 u123 u124 u125:Value) (w':World),Eqn ans rest→Below W0.heap.size W0 w'→Q (.exit 4) ⟨List.toArray (x_0::Value.pointer (some ⟨w.heap.size,0,none⟩)::u2::x_3::x_4::x_5::u6::x_7::x_8::x_9::x_10::x_11::x_12::x_13::x_14::x_15::x_16::x_17::x_18::x_19::x_20::x_21::x_22::x_23::x_24::x_25::x_26::x_27::x_28::x_29::x_30::x_31::x_32::x_33::x_34::x_35::x_36::x_37::x_38::x_39::x_40::x_41::x_42::x_43::x_44::x_45::x_46::x_47::x_48::x_49::x_50::x_51::x_52::x_53::x_54::x_55::x_56::x_57::x_58::x_59::x_60::x_61::x_62::x_63::x_64::x_65::x_66::x_67::x_68::x_69::x_70::x_71::x_72::x_73::x_74::x_75::x_76::x_77::x_78::x_79::x_80::x_81::x_82::x_83::x_84::x_85::x_86::x_87::x_88::x_89::x_90::x_91::x_92::x_93::x_94::x_95::u96::u97::u98::u99::u100::u101::u102::u103::u104::u105::u106::u107::u108::u109::u110::u111::u112::u113::u114::u115::u116::u117::u118::u119::u120::u121::u122::u123::u124::u125::x_126::x_127::x_128::x_129::x_130::x_131::x_132::x_133::x_134::x_135::x_136::x_137::x_138::x_139::x_140::x_141::x_142::x_143::x_144::x_145::x_146::x_147::x_148::x_149::x_150::x_151::x_152::x_153::x_154::x_155::x_156::x_157::x_158::x_159::x_160::x_161::x_162::x_163::x_164::x_165::x_166::x_167::x_168::x_169::x_170::x_171::x_172::x_173::[]),[]⟩ w')
  (hR:∀(u6 u96 u97 u98 u99 u100 u101 u102 u103 u104 u105 u106 u107 u108 u109 u110 u111 u112 u113 u114 u115 u116 u117 u118 u119 u120 u121 u122 u123 u124 u125:Value) (w':World),Eqn ans false→Below W0.heap.size W0 w'→Q .ret ⟨List.toArray (x_0::Value.pointer (some ⟨w.heap.size,0,none⟩)::Value.bool false::x_3::x_4::x_5::u6::x_7::x_8::x_9::x_10::x_11::x_12::x_13::x_14::x_15::x_16::x_17::x_18::x_19::x_20::x_21::x_22::x_23::x_24::x_25::x_26::x_27::x_28::x_29::x_30::x_31::x_32::x_33::x_34::x_35::x_36::x_37::x_38::x_39::x_40::x_41::x_42::x_43::x_44::x_45::x_46::x_47::x_48::x_49::x_50::x_51::x_52::x_53::x_54::x_55::x_56::x_57::x_58::x_59::x_60::x_61::x_62::x_63::x_64::x_65::x_66::x_67::x_68::x_69::x_70::x_71::x_72::x_73::x_74::x_75::x_76::x_77::x_78::x_79::x_80::x_81::x_82::x_83::x_84::x_85::x_86::x_87::x_88::x_89::x_90::x_91::x_92::x_93::x_94::x_95::u96::u97::u98::u99::u100::u101::u102::u103::u104::u105::u106::u107::u108::u109::u110::u111::u112::u113::u114::u115::u116::u117::u118::u119::u120::u121::u122::u123::u124::u125::x_126::x_127::x_128::x_129::x_130::x_131::x_132::x_133::x_134::x_135::x_136::x_137::x_138::x_139::x_140::x_141::x_142::x_143::x_144::x_145::x_146::x_147::x_148::x_149::x_150::x_151::x_152::x_153::x_154::x_155::x_156::x_157::x_158::x_159::x_160::x_161::x_162::x_163::x_164::x_165::x_166::x_167::x_168::x_169::x_170::x_171::x_172::x_173::[]),[]⟩ w'):
  Code.wp Tryz.prog (Code.loop (vdLoop 2)) Q ⟨List.toArray (x_0::Value.pointer (some ⟨w.heap.size,0,none⟩)::x_2::x_3::x_4::x_5::Value.int .i64 0::x_7::x_8::x_9::x_10::x_11::x_12::x_13::x_14::x_15::x_16::x_17::x_18::x_19::x_20::x_21::x_22::x_23::x_24::x_25::x_26::x_27::x_28::x_29::x_30::x_31::x_32::x_33::x_34::x_35::x_36::x_37::x_38::x_39::x_40::x_41::x_42::x_43::x_44::x_45::x_46::x_47::x_48::x_49::x_50::x_51::x_52::x_53::x_54::x_55::x_56::x_57::x_58::x_59::x_60::x_61::x_62::x_63::x_64::x_65::x_66::x_67::x_68::x_69::x_70::x_71::x_72::x_73::x_74::x_75::x_76::x_77::x_78::x_79::x_80::x_81::x_82::x_83::x_84::x_85::x_86::x_87::x_88::x_89::x_90::x_91::x_92::x_93::x_94::x_95::x_96::x_97::x_98::x_99::x_100::x_101::x_102::x_103::x_104::x_105::x_106::x_107::x_108::x_109::x_110::x_111::x_112::x_113::x_114::x_115::x_116::x_117::x_118::x_119::x_120::x_121::x_122::x_123::x_124::x_125::x_126::x_127::x_128::x_129::x_130::x_131::x_132::x_133::x_134::x_135::x_136::x_137::x_138::x_139::x_140::x_141::x_142::x_143::x_144::x_145::x_146::x_147::x_148::x_149::x_150::x_151::x_152::x_153::x_154::x_155::x_156::x_157::x_158::x_159::x_160::x_161::x_162::x_163::x_164::x_165::x_166::x_167::x_168::x_169::x_170::x_171::x_172::x_173::[]),[]⟩ wi:=by
 have HQ:=Lib.hid hQ
 have HRT:=Lib.hid hR
 have HX:=Lib.hid hx
 have HC:Hid (∀ W,Below W0.heap.size W0 W→W.cell? ⟨w.heap.size,0,none⟩=some (.slice A n c)∧W.cell? ⟨w.heap.size,1,none⟩=some (.slice A0 n0 c0)∧W.cell? ⟨w.heap.size,2,none⟩=some (.slice A1 n1 c1)∧W.cell? ⟨w.heap.size,3,none⟩=some (.slice A2 n2 c2)):=Lib.hid (fun W hb=>⟨(hx.keep hb).cell rfl,(hx.keep hb).cell rfl,(hx.keep hb).cell rfl,(hx.keep hb).cell rfl⟩)
 have HH:=Lib.hid h
 have Hlen:=Eqn.mk h.1.1
 have HST:=Lib.hid (fun n w=>rst_any n w)
 have HANS:=hans
 have B0:=Lib.hid hwi
 have HLR:=Lib.hid hlr
 have Hll:=Eqn.mk hlr.1
 have HFD:Hid (∀(x:Int) W,Below W0.heap.size W0 W→Calls Tryz.prog 21 #[.agg #[.slice A n c,.slice A0 n0 c0,.slice A1 n1 c1,.slice A2 n2 c2],.int .i64 x] W (RetPost (.int .i64 (findD x 0 ds)) W.heap.size W)):=Lib.hid (fun x W hW=>rfind_any ⟨A,n,c,⟨A0,n0,c0,A1,n1,c1,A2,n2,c2⟩⟩ x W ds (by dsimp only;omega) (h.keep hW))
 clear h hx hans hwi hQ hR hlr
 conv=>arg 2;arg 1;whnf
 go_loopw [6] (fun i wr=>∃ k:Nat,k≤n0∧i=.int .i64 k∧Eqn ans ((l.drop k).all (fun x=>inD ds x.a&&inD ds x.b)&&rest)∧Below W0.heap.size W0 wr) (fun i _=>n0 - (intOf i).toNat)
 case atStart=>exact⟨0,Nat.zero_le _,rfl,HANS,B0.out⟩
 case round=>
  clear HANS
  obtain⟨k,hk,rfl,HR,hB⟩:=hrel
  have HB:=Lib.hid hB
  have hbs:=hB.size
  obtain⟨b0,b1,b2,b3⟩:=HC.out _ hB
  have hwr:w.heap.size<wr.heap.size:=(HX.out.keep hB).lt
  by_cases hlt:k<n0
  ·obtain⟨y,hy,hyd⟩:=drop_at (xs:=l) (k:=k) (by rw[Hll.out];exact hlt)
   obtain⟨b,off,hA,hbl,hc⟩:=(HLR.out.below hB).2 (by omega)
   subst hA
   have HRR:Eqn ans ((fun x=>inD ds x.a&&inD ds x.b) y&&((l.drop (k+1)).all (fun x=>inD ds x.a&&inD ds x.b)&&rest)):=by rw[Eqn,HR.out,hyd,List.all_cons,Bool.and_assoc]
   have e0:=hc k y hy 0 (by omega)
   have hbw:b<wr.heap.size:=by omega
   have j0:(k:Int)<(n0:Int):=by omega
   have HE1:Hid (∀ W,Below wr.heap.size wr W→W.cell? ⟨b,off+k * 5+1,none⟩=some (.int .i64 y.b)):=Lib.hid (fun W hW=>(hW.cell (p:=⟨b,off+k * 5+1,none⟩) hbw).trans (hc k y hy 1 (by omega)))
   have HCW:Hid (∀ W,Below wr.heap.size wr W→W.cell? ⟨w.heap.size,0,none⟩=some (.slice A n c)∧W.cell? ⟨w.heap.size,1,none⟩=some (.slice (some ⟨b,off,none⟩) n0 c0)∧W.cell? ⟨w.heap.size,2,none⟩=some (.slice A1 n1 c1)∧W.cell? ⟨w.heap.size,3,none⟩=some (.slice A2 n2 c2)∧w.heap.size<W.heap.size):=Lib.hid (fun W hW=>by
    have hb:=HB.out.trans (hW.mono hbs)
    obtain⟨q0,q1,q2,q3⟩:=HC.out W hb
    exact⟨q0,q1,q2,q3,(HX.out.keep hb).lt⟩)
   obtain⟨y0,y1,y2,y3,y4⟩:=y
   simp only[R5.cell,Nat.add_zero] at e0
   dsimp only at *
   have HFW:Hid (∀(x:Int) W,Below wr.heap.size wr W→Calls Tryz.prog 21 #[.agg #[.slice A n c,.slice (some ⟨b,off,none⟩) n0 c0,.slice A1 n1 c1,.slice A2 n2 c2],.int .i64 x] W (RetPost (.int .i64 (findD x 0 ds)) W.heap.size W)):=Lib.hid (fun x W hW=>HFD.out x W (HB.out.trans (hW.mono hbs)))
   have HDR:=Lib.hid ((Below.refl wr.heap.size wr).drew)
   clear hc hy hyd HR hB
   go_wp2_with fail
   by_cases h0:findD y0 0 ds<0
   ·have hi0:inD ds y0=false:=by unfold inD;exact decide_eq_false (by omega)
    have HE:Eqn ans false:=by rw[Eqn,HRR.out];simp[hi0]
    have g0:decide (findD y0 0 ds<0)=true:=decide_eq_true h0
    clear HRR hi0 h0
    refine Lx.region (C:=fun X=>Below wr.heap.size wr X) (hs:=[]) (by kernel_rfl) (by kernel_rfl) HDR.out ?_
    repeat' (first|((first|refine Lx.ln (fun K hK=>?_) | (first|(refine Lx.lp (v:=?_) ?_ (fun K hK=>?_);rotate_left 1;intro w' hCw;try dsimp only at hCw) | (refine Lx.lr (v:=?_) ?_ (fun K hK=>?_);rotate_left 1));go_simp;first|done | with_reducible rfl);go_simp;refine hK _ ?_;clear hK K) | (refine Lx.le (fun K hK=>?_);go_simp;(first|(go_at_call_of 21 (Value.int .i64 y0);refine(HFW.out y0 _ HDR.out).mono ?_;rintro e Wx ⟨rfl,hbx⟩;have hbx1:Below wr.heap.size wr Wx:=HDR.out.trans (hbx.mono HDR.out.size)));refine hK _ _ (hbx1) ?_;clear hK K))
    all_goals (refine Lx.lex_nil ?_)
    go_wp2_with fail
    exact HRT.out _ _ _ _ _ _ _ _ _ _ _ _ _ _ _ _ _ _ _ _ _ _ _ _ _ _ _ _ _ _ _ _ HE (HB.out.trans (hbx1.mono hbs))
   have hi0:inD ds y0=true:=by unfold inD;exact decide_eq_true (by omega)
   have g0:decide (findD y0 0 ds<0)=false:=decide_eq_false h0
   clear h0
   by_cases h1:findD y1 0 ds<0
   ·have hi1:inD ds y1=false:=by unfold inD;exact decide_eq_false (by omega)
    have HE:Eqn ans false:=by rw[Eqn,HRR.out];simp[hi1]
    have g1:decide (findD y1 0 ds<0)=true:=decide_eq_true h1
    clear HRR hi0 hi1 h1
    refine Lx.region (C:=fun X=>Below wr.heap.size wr X) (hs:=[]) (by kernel_rfl) (by kernel_rfl) HDR.out ?_
    repeat' (first|((first|refine Lx.ln (fun K hK=>?_) | (first|(refine Lx.lp (v:=?_) ?_ (fun K hK=>?_);rotate_left 1;intro w' hCw;try dsimp only at hCw) | (refine Lx.lr (v:=?_) ?_ (fun K hK=>?_);rotate_left 1));go_simp;first|done | with_reducible rfl);go_simp;refine hK _ ?_;clear hK K) | (refine Lx.le (fun K hK=>?_);go_simp;(first|(go_at_call_of 21 (Value.int .i64 y0);refine(HFW.out y0 _ HDR.out).mono ?_;rintro e Wx ⟨rfl,hbx⟩;have hbx1:Below wr.heap.size wr Wx:=HDR.out.trans (hbx.mono HDR.out.size);have E1:=HE1.out _ hbx1;obtain⟨t0,t1,t2,t3,t4⟩:=HCW.out _ hbx1;have t5:b<Wx.heap.size:=Nat.lt_of_lt_of_le hbw hbx1.size) | (go_at_call_of 21 (Value.int .i64 y1);refine(HFW.out y1 _ hbx1).mono ?_;rintro e Wy ⟨rfl,hby⟩;have hby1:Below wr.heap.size wr Wy:=hbx1.trans (hby.mono hbx1.size)));refine hK _ _ (by first|exact hby1 | exact hbx1) ?_;clear hK K))
    all_goals (refine Lx.lex_nil ?_)
    go_wp2_with fail
    exact HRT.out _ _ _ _ _ _ _ _ _ _ _ _ _ _ _ _ _ _ _ _ _ _ _ _ _ _ _ _ _ _ _ _ HE (HB.out.trans (hby1.mono hbs))
   ·have hi1:inD ds y1=true:=by unfold inD;exact decide_eq_true (by omega)
    have g1:decide (findD y1 0 ds<0)=false:=decide_eq_false h1
    have HN:Eqn ans ((l.drop (k+1)).all (fun x=>inD ds x.a&&inD ds x.b)&&rest):=by rw[Eqn,HRR.out];simp[hi0,hi1]
    clear HRR hi0 hi1 h1
    refine Lx.region (C:=fun X=>Below wr.heap.size wr X) (hs:=[]) (by kernel_rfl) (by kernel_rfl) HDR.out ?_
    repeat' (first|((first|refine Lx.ln (fun K hK=>?_) | (first|(refine Lx.lp (v:=?_) ?_ (fun K hK=>?_);rotate_left 1;intro w' hCw;try dsimp only at hCw) | (refine Lx.lr (v:=?_) ?_ (fun K hK=>?_);rotate_left 1));go_simp;first|done | with_reducible rfl);go_simp;refine hK _ ?_;clear hK K) | (refine Lx.le (fun K hK=>?_);go_simp;(first|(go_at_call_of 21 (Value.int .i64 y0);refine(HFW.out y0 _ HDR.out).mono ?_;rintro e Wx ⟨rfl,hbx⟩;have hbx1:Below wr.heap.size wr Wx:=HDR.out.trans (hbx.mono HDR.out.size);have E1:=HE1.out _ hbx1;obtain⟨t0,t1,t2,t3,t4⟩:=HCW.out _ hbx1;have t5:b<Wx.heap.size:=Nat.lt_of_lt_of_le hbw hbx1.size) | (go_at_call_of 21 (Value.int .i64 y1);refine(HFW.out y1 _ hbx1).mono ?_;rintro e Wy ⟨rfl,hby⟩;have hby1:Below wr.heap.size wr Wy:=hbx1.trans (hby.mono hbx1.size)));refine hK _ _ (by first|exact hby1 | exact hbx1) ?_;clear hK K))
    all_goals (refine Lx.lex_nil ?_)
    go_wp2_with fail
    go_roundw
    case rel=>exact⟨k+1,hlt,by go_num,HN,HB.out.trans (hby1.mono hbs)⟩
    case measure=>simp[intOf];omega
  ·obtain rfl:k=n0:=by omega
   have HNEXT:Eqn ans rest:=by rw[Eqn,HR.out,drop_end (by rw[Hll.out];omega)];rfl
   clear hB HR hlt hk
   go_wp2_with fail
   exact HQ.out _ _ _ _ _ _ _ _ _ _ _ _ _ _ _ _ _ _ _ _ _ _ _ _ _ _ _ _ _ _ _ _ _ HNEXT HB.out
theorem vd_loads (w W0 wi:World) (A:Option Addr) (n c:Nat) (A0 A1 A2:Option Addr) (n0 c0 n1 c1 n2 c2:Nat) (ds:List Dom) (ans rest:Bool) (hn:n≤512) (h:DomsAt W0 W0.heap.size A n ds)
  (hx:Blk W0 w.heap.size 29 [.slice A n c,.slice A0 n0 c0,.slice A1 n1 c1,.slice A2 n2 c2]) (l:List R5) (hlr:RowS 5 R5.cell W0 W0.heap.size A1 n1 l) (hln:n1≤4096) (hans:Eqn ans (l.all (fun x=>inD ds x.a&&inD ds x.b)&&rest)) (hwi:Below W0.heap.size W0 wi)
  (x_0 x_2 x_3 x_4 x_5 x_6 x_8 x_9 x_10 x_11 x_12 x_13 x_14 x_15 x_16 x_17 x_18 x_19 x_20 x_21 x_22 x_23 x_24 x_25 x_26 x_27 x_28 x_29 x_30 x_31 x_32 x_33 x_34 x_35 x_36 x_37 x_38 x_39 x_40 x_41 x_42 x_43 x_44 x_45 x_46 x_47 x_48 x_49 x_50 x_51 x_52 x_53 x_54 x_55 x_56 x_57 x_58 x_59 x_60 x_61 x_62 x_63 x_64 x_65 x_66 x_67 x_68 x_69 x_70 x_71 x_72 x_73 x_74 x_75 x_76 x_77 x_78 x_79 x_80 x_81 x_82 x_83 x_84 x_85 x_86 x_87 x_88 x_89 x_90 x_91 x_92 x_93 x_94 x_95 x_96 x_97 x_98 x_99 x_100 x_101 x_102 x_103 x_104 x_105 x_106 x_107 x_108 x_109 x_110 x_111 x_112 x_113 x_114 x_115 x_116 x_117 x_118 x_119 x_120 x_121 x_122 x_123 x_124 x_125 x_126 x_127 x_128 x_129 x_130 x_131 x_132 x_133 x_134 x_135 x_136 x_137 x_138 x_139 x_140 x_141 x_142 x_143 x_144 x_145 x_146 x_147 x_148 x_149 x_150 x_151 x_152 x_153 x_154 x_155 x_156 x_157 x_158 x_159 x_160 x_161 x_162 x_163 x_164 x_165 x_166 x_167 x_168 x_169 x_170 x_171 x_172 x_173:Value) (Q:Exit→Act→World→Prop)
  (hQ:∀(u2 u7 u126 u127 u128 u129 u130 u131 u132 u133 u134 u135 u136 u137 u138 u139 u140 u141 u142 u143 u144 u145 u146 u147 u148 u149 u150 u151 u152 u153 u154 u155:Value) (w':World),Eqn ans rest→Below W0.heap.size W0 w'→Q (.exit 6) ⟨List.toArray (x_0::Value.pointer (some ⟨w.heap.size,0,none⟩)::u2::x_3::x_4::x_5::x_6::u7::x_8::x_9::x_10::x_11::x_12::x_13::x_14::x_15::x_16::x_17::x_18::x_19::x_20::x_21::x_22::x_23::x_24::x_25::x_26::x_27::x_28::x_29::x_30::x_31::x_32::x_33::x_34::x_35::x_36::x_37::x_38::x_39::x_40::x_41::x_42::x_43::x_44::x_45::x_46::x_47::x_48::x_49::x_50::x_51::x_52::x_53::x_54::x_55::x_56::x_57::x_58::x_59::x_60::x_61::x_62::x_63::x_64::x_65::x_66::x_67::x_68::x_69::x_70::x_71::x_72::x_73::x_74::x_75::x_76::x_77::x_78::x_79::x_80::x_81::x_82::x_83::x_84::x_85::x_86::x_87::x_88::x_89::x_90::x_91::x_92::x_93::x_94::x_95::x_96::x_97::x_98::x_99::x_100::x_101::x_102::x_103::x_104::x_105::x_106::x_107::x_108::x_109::x_110::x_111::x_112::x_113::x_114::x_115::x_116::x_117::x_118::x_119::x_120::x_121::x_122::x_123::x_124::x_125::u126::u127::u128::u129::u130::u131::u132::u133::u134::u135::u136::u137::u138::u139::u140::u141::u142::u143::u144::u145::u146::u147::u148::u149::u150::u151::u152::u153::u154::u155::x_156::x_157::x_158::x_159::x_160::x_161::x_162::x_163::x_164::x_165::x_166::x_167::x_168::x_169::x_170::x_171::x_172::x_173::[]),[]⟩ w')
  (hR:∀(u7 u126 u127 u128 u129 u130 u131 u132 u133 u134 u135 u136 u137 u138 u139 u140 u141 u142 u143 u144 u145 u146 u147 u148 u149 u150 u151 u152 u153 u154 u155:Value) (w':World),Eqn ans false→Below W0.heap.size W0 w'→Q .ret ⟨List.toArray (x_0::Value.pointer (some ⟨w.heap.size,0,none⟩)::Value.bool false::x_3::x_4::x_5::x_6::u7::x_8::x_9::x_10::x_11::x_12::x_13::x_14::x_15::x_16::x_17::x_18::x_19::x_20::x_21::x_22::x_23::x_24::x_25::x_26::x_27::x_28::x_29::x_30::x_31::x_32::x_33::x_34::x_35::x_36::x_37::x_38::x_39::x_40::x_41::x_42::x_43::x_44::x_45::x_46::x_47::x_48::x_49::x_50::x_51::x_52::x_53::x_54::x_55::x_56::x_57::x_58::x_59::x_60::x_61::x_62::x_63::x_64::x_65::x_66::x_67::x_68::x_69::x_70::x_71::x_72::x_73::x_74::x_75::x_76::x_77::x_78::x_79::x_80::x_81::x_82::x_83::x_84::x_85::x_86::x_87::x_88::x_89::x_90::x_91::x_92::x_93::x_94::x_95::x_96::x_97::x_98::x_99::x_100::x_101::x_102::x_103::x_104::x_105::x_106::x_107::x_108::x_109::x_110::x_111::x_112::x_113::x_114::x_115::x_116::x_117::x_118::x_119::x_120::x_121::x_122::x_123::x_124::x_125::u126::u127::u128::u129::u130::u131::u132::u133::u134::u135::u136::u137::u138::u139::u140::u141::u142::u143::u144::u145::u146::u147::u148::u149::u150::u151::u152::u153::u154::u155::x_156::x_157::x_158::x_159::x_160::x_161::x_162::x_163::x_164::x_165::x_166::x_167::x_168::x_169::x_170::x_171::x_172::x_173::[]),[]⟩ w'):
  Code.wp Tryz.prog (Code.loop (vdLoop 3)) Q ⟨List.toArray (x_0::Value.pointer (some ⟨w.heap.size,0,none⟩)::x_2::x_3::x_4::x_5::x_6::Value.int .i64 0::x_8::x_9::x_10::x_11::x_12::x_13::x_14::x_15::x_16::x_17::x_18::x_19::x_20::x_21::x_22::x_23::x_24::x_25::x_26::x_27::x_28::x_29::x_30::x_31::x_32::x_33::x_34::x_35::x_36::x_37::x_38::x_39::x_40::x_41::x_42::x_43::x_44::x_45::x_46::x_47::x_48::x_49::x_50::x_51::x_52::x_53::x_54::x_55::x_56::x_57::x_58::x_59::x_60::x_61::x_62::x_63::x_64::x_65::x_66::x_67::x_68::x_69::x_70::x_71::x_72::x_73::x_74::x_75::x_76::x_77::x_78::x_79::x_80::x_81::x_82::x_83::x_84::x_85::x_86::x_87::x_88::x_89::x_90::x_91::x_92::x_93::x_94::x_95::x_96::x_97::x_98::x_99::x_100::x_101::x_102::x_103::x_104::x_105::x_106::x_107::x_108::x_109::x_110::x_111::x_112::x_113::x_114::x_115::x_116::x_117::x_118::x_119::x_120::x_121::x_122::x_123::x_124::x_125::x_126::x_127::x_128::x_129::x_130::x_131::x_132::x_133::x_134::x_135::x_136::x_137::x_138::x_139::x_140::x_141::x_142::x_143::x_144::x_145::x_146::x_147::x_148::x_149::x_150::x_151::x_152::x_153::x_154::x_155::x_156::x_157::x_158::x_159::x_160::x_161::x_162::x_163::x_164::x_165::x_166::x_167::x_168::x_169::x_170::x_171::x_172::x_173::[]),[]⟩ wi:=by
 have HQ:=Lib.hid hQ
 have HRT:=Lib.hid hR
 have HX:=Lib.hid hx
 have HC:Hid (∀ W,Below W0.heap.size W0 W→W.cell? ⟨w.heap.size,0,none⟩=some (.slice A n c)∧W.cell? ⟨w.heap.size,1,none⟩=some (.slice A0 n0 c0)∧W.cell? ⟨w.heap.size,2,none⟩=some (.slice A1 n1 c1)∧W.cell? ⟨w.heap.size,3,none⟩=some (.slice A2 n2 c2)):=Lib.hid (fun W hb=>⟨(hx.keep hb).cell rfl,(hx.keep hb).cell rfl,(hx.keep hb).cell rfl,(hx.keep hb).cell rfl⟩)
 have HH:=Lib.hid h
 have Hlen:=Eqn.mk h.1.1
 have HST:=Lib.hid (fun n w=>rst_any n w)
 have HANS:=hans
 have B0:=Lib.hid hwi
 have HLR:=Lib.hid hlr
 have Hll:=Eqn.mk hlr.1
 have HFD:Hid (∀(x:Int) W,Below W0.heap.size W0 W→Calls Tryz.prog 21 #[.agg #[.slice A n c,.slice A0 n0 c0,.slice A1 n1 c1,.slice A2 n2 c2],.int .i64 x] W (RetPost (.int .i64 (findD x 0 ds)) W.heap.size W)):=Lib.hid (fun x W hW=>rfind_any ⟨A,n,c,⟨A0,n0,c0,A1,n1,c1,A2,n2,c2⟩⟩ x W ds (by dsimp only;omega) (h.keep hW))
 clear h hx hans hwi hQ hR hlr
 conv=>arg 2;arg 1;whnf
 go_loopw [7] (fun i wr=>∃ k:Nat,k≤n1∧i=.int .i64 k∧Eqn ans ((l.drop k).all (fun x=>inD ds x.a&&inD ds x.b)&&rest)∧Below W0.heap.size W0 wr) (fun i _=>n1 - (intOf i).toNat)
 case atStart=>exact⟨0,Nat.zero_le _,rfl,HANS,B0.out⟩
 case round=>
  clear HANS
  obtain⟨k,hk,rfl,HR,hB⟩:=hrel
  have HB:=Lib.hid hB
  have hbs:=hB.size
  obtain⟨b0,b1,b2,b3⟩:=HC.out _ hB
  have hwr:w.heap.size<wr.heap.size:=(HX.out.keep hB).lt
  by_cases hlt:k<n1
  ·obtain⟨y,hy,hyd⟩:=drop_at (xs:=l) (k:=k) (by rw[Hll.out];exact hlt)
   obtain⟨b,off,hA,hbl,hc⟩:=(HLR.out.below hB).2 (by omega)
   subst hA
   have HRR:Eqn ans ((fun x=>inD ds x.a&&inD ds x.b) y&&((l.drop (k+1)).all (fun x=>inD ds x.a&&inD ds x.b)&&rest)):=by rw[Eqn,HR.out,hyd,List.all_cons,Bool.and_assoc]
   have e0:=hc k y hy 0 (by omega)
   have hbw:b<wr.heap.size:=by omega
   have j0:(k:Int)<(n1:Int):=by omega
   have HE1:Hid (∀ W,Below wr.heap.size wr W→W.cell? ⟨b,off+k * 5+1,none⟩=some (.int .i64 y.b)):=Lib.hid (fun W hW=>(hW.cell (p:=⟨b,off+k * 5+1,none⟩) hbw).trans (hc k y hy 1 (by omega)))
   have HCW:Hid (∀ W,Below wr.heap.size wr W→W.cell? ⟨w.heap.size,0,none⟩=some (.slice A n c)∧W.cell? ⟨w.heap.size,1,none⟩=some (.slice A0 n0 c0)∧W.cell? ⟨w.heap.size,2,none⟩=some (.slice (some ⟨b,off,none⟩) n1 c1)∧W.cell? ⟨w.heap.size,3,none⟩=some (.slice A2 n2 c2)∧w.heap.size<W.heap.size):=Lib.hid (fun W hW=>by
    have hb:=HB.out.trans (hW.mono hbs)
    obtain⟨q0,q1,q2,q3⟩:=HC.out W hb
    exact⟨q0,q1,q2,q3,(HX.out.keep hb).lt⟩)
   obtain⟨y0,y1,y2,y3,y4⟩:=y
   simp only[R5.cell,Nat.add_zero] at e0
   dsimp only at *
   have HFW:Hid (∀(x:Int) W,Below wr.heap.size wr W→Calls Tryz.prog 21 #[.agg #[.slice A n c,.slice A0 n0 c0,.slice (some ⟨b,off,none⟩) n1 c1,.slice A2 n2 c2],.int .i64 x] W (RetPost (.int .i64 (findD x 0 ds)) W.heap.size W)):=Lib.hid (fun x W hW=>HFD.out x W (HB.out.trans (hW.mono hbs)))
   have HDR:=Lib.hid ((Below.refl wr.heap.size wr).drew)
   clear hc hy hyd HR hB
   go_wp2_with fail
   by_cases h0:findD y0 0 ds<0
   ·have hi0:inD ds y0=false:=by unfold inD;exact decide_eq_false (by omega)
    have HE:Eqn ans false:=by rw[Eqn,HRR.out];simp[hi0]
    have g0:decide (findD y0 0 ds<0)=true:=decide_eq_true h0
    clear HRR hi0 h0
    refine Lx.region (C:=fun X=>Below wr.heap.size wr X) (hs:=[]) (by kernel_rfl) (by kernel_rfl) HDR.out ?_
    repeat' (first|((first|refine Lx.ln (fun K hK=>?_) | (first|(refine Lx.lp (v:=?_) ?_ (fun K hK=>?_);rotate_left 1;intro w' hCw;try dsimp only at hCw) | (refine Lx.lr (v:=?_) ?_ (fun K hK=>?_);rotate_left 1));go_simp;first|done | with_reducible rfl);go_simp;refine hK _ ?_;clear hK K) | (refine Lx.le (fun K hK=>?_);go_simp;(first|(go_at_call_of 21 (Value.int .i64 y0);refine(HFW.out y0 _ HDR.out).mono ?_;rintro e Wx ⟨rfl,hbx⟩;have hbx1:Below wr.heap.size wr Wx:=HDR.out.trans (hbx.mono HDR.out.size)));refine hK _ _ (hbx1) ?_;clear hK K))
    all_goals (refine Lx.lex_nil ?_)
    go_wp2_with fail
    exact HRT.out _ _ _ _ _ _ _ _ _ _ _ _ _ _ _ _ _ _ _ _ _ _ _ _ _ _ _ _ _ _ _ _ HE (HB.out.trans (hbx1.mono hbs))
   have hi0:inD ds y0=true:=by unfold inD;exact decide_eq_true (by omega)
   have g0:decide (findD y0 0 ds<0)=false:=decide_eq_false h0
   clear h0
   by_cases h1:findD y1 0 ds<0
   ·have hi1:inD ds y1=false:=by unfold inD;exact decide_eq_false (by omega)
    have HE:Eqn ans false:=by rw[Eqn,HRR.out];simp[hi1]
    have g1:decide (findD y1 0 ds<0)=true:=decide_eq_true h1
    clear HRR hi0 hi1 h1
    refine Lx.region (C:=fun X=>Below wr.heap.size wr X) (hs:=[]) (by kernel_rfl) (by kernel_rfl) HDR.out ?_
    repeat' (first|((first|refine Lx.ln (fun K hK=>?_) | (first|(refine Lx.lp (v:=?_) ?_ (fun K hK=>?_);rotate_left 1;intro w' hCw;try dsimp only at hCw) | (refine Lx.lr (v:=?_) ?_ (fun K hK=>?_);rotate_left 1));go_simp;first|done | with_reducible rfl);go_simp;refine hK _ ?_;clear hK K) | (refine Lx.le (fun K hK=>?_);go_simp;(first|(go_at_call_of 21 (Value.int .i64 y0);refine(HFW.out y0 _ HDR.out).mono ?_;rintro e Wx ⟨rfl,hbx⟩;have hbx1:Below wr.heap.size wr Wx:=HDR.out.trans (hbx.mono HDR.out.size);have E1:=HE1.out _ hbx1;obtain⟨t0,t1,t2,t3,t4⟩:=HCW.out _ hbx1;have t5:b<Wx.heap.size:=Nat.lt_of_lt_of_le hbw hbx1.size) | (go_at_call_of 21 (Value.int .i64 y1);refine(HFW.out y1 _ hbx1).mono ?_;rintro e Wy ⟨rfl,hby⟩;have hby1:Below wr.heap.size wr Wy:=hbx1.trans (hby.mono hbx1.size)));refine hK _ _ (by first|exact hby1 | exact hbx1) ?_;clear hK K))
    all_goals (refine Lx.lex_nil ?_)
    go_wp2_with fail
    exact HRT.out _ _ _ _ _ _ _ _ _ _ _ _ _ _ _ _ _ _ _ _ _ _ _ _ _ _ _ _ _ _ _ _ HE (HB.out.trans (hby1.mono hbs))
   ·have hi1:inD ds y1=true:=by unfold inD;exact decide_eq_true (by omega)
    have g1:decide (findD y1 0 ds<0)=false:=decide_eq_false h1
    have HN:Eqn ans ((l.drop (k+1)).all (fun x=>inD ds x.a&&inD ds x.b)&&rest):=by rw[Eqn,HRR.out];simp[hi0,hi1]
    clear HRR hi0 hi1 h1
    refine Lx.region (C:=fun X=>Below wr.heap.size wr X) (hs:=[]) (by kernel_rfl) (by kernel_rfl) HDR.out ?_
    repeat' (first|((first|refine Lx.ln (fun K hK=>?_) | (first|(refine Lx.lp (v:=?_) ?_ (fun K hK=>?_);rotate_left 1;intro w' hCw;try dsimp only at hCw) | (refine Lx.lr (v:=?_) ?_ (fun K hK=>?_);rotate_left 1));go_simp;first|done | with_reducible rfl);go_simp;refine hK _ ?_;clear hK K) | (refine Lx.le (fun K hK=>?_);go_simp;(first|(go_at_call_of 21 (Value.int .i64 y0);refine(HFW.out y0 _ HDR.out).mono ?_;rintro e Wx ⟨rfl,hbx⟩;have hbx1:Below wr.heap.size wr Wx:=HDR.out.trans (hbx.mono HDR.out.size);have E1:=HE1.out _ hbx1;obtain⟨t0,t1,t2,t3,t4⟩:=HCW.out _ hbx1;have t5:b<Wx.heap.size:=Nat.lt_of_lt_of_le hbw hbx1.size) | (go_at_call_of 21 (Value.int .i64 y1);refine(HFW.out y1 _ hbx1).mono ?_;rintro e Wy ⟨rfl,hby⟩;have hby1:Below wr.heap.size wr Wy:=hbx1.trans (hby.mono hbx1.size)));refine hK _ _ (by first|exact hby1 | exact hbx1) ?_;clear hK K))
    all_goals (refine Lx.lex_nil ?_)
    go_wp2_with fail
    go_roundw
    case rel=>exact⟨k+1,hlt,by go_num,HN,HB.out.trans (hby1.mono hbs)⟩
    case measure=>simp[intOf];omega
  ·obtain rfl:k=n1:=by omega
   have HNEXT:Eqn ans rest:=by rw[Eqn,HR.out,drop_end (by rw[Hll.out];omega)];rfl
   clear hB HR hlt hk
   go_wp2_with fail
   exact HQ.out _ _ _ _ _ _ _ _ _ _ _ _ _ _ _ _ _ _ _ _ _ _ _ _ _ _ _ _ _ _ _ _ _ HNEXT HB.out
end Go.Proofs.YtjakdikhdndlgaaGreatDoor
