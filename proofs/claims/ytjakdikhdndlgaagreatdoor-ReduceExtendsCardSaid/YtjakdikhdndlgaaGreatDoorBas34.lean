/- REDUCE EXTENDS: for every problem and every list of choices,the law ReduceExtends returns true,and the input reads as it did. Conditions: none beyond the card's own. Printed by genlaw19c.py. -/
import Derived.Test.YtjakdikhdndlgaaGreatDoorBas28
import Derived.Test.YtjakdikhdndlgaaGreatDoorBas33
set_option maxRecDepth 100000
set_option maxHeartbeats 40000000
namespace Go.Proofs.YtjakdikhdndlgaaGreatDoor
open Go.RowKit Go.Shelf
theorem chC_one (a:Int×Int) (j:Nat) (_:j<2):(chC a j).oneCell'=true:=by unfold chC;split<;>rfl
theorem hasL_st {L:List Int} (h:stOk L=true):hasL L=hasS (stS L):=by
 funext x
 rw[hasS_mem (stOk_in h),hasL_mem]
theorem all_inD {ds:List Dom} {L:List Int} (h:stOk L=true) (hv:∀ y∈ds.map Dom.st,0≤y∧y<512):L.all (inD ds)=decide (mi (stS L) (stS (ds.map Dom.st))=0):=by
 rw[Bool.eq_iff_iff,List.all_eq_true,decide_eq_true_eq,sub_iff (stOk_in h) hv]
 constructor
 ·intro h1 x hx;have:=h1 x hx;rwa [inD_mem,decide_eq_true_eq] at this
 ·intro h1 x hx;rw[inD_mem,decide_eq_true_eq];exact h1 x hx
theorem keepR_res {L:List Int} (h:stOk L=true) (r:Rul):keepR L r=resR (stS L) r:=by unfold keepR resR;rw[hasL_st h]
theorem rrest_ok {ds:List Dom} {r:Rul} {L:List Int} (hv:validP ds r=true) (hd:∀ d∈ds,d.len=d.chs.length) (h:stOk L=true):rrestF ds r L=if mi (stS L) (stS (ds.map Dom.st))=0 then (((resD (stS L) ds).map Dom.say,resR (stS L) r),0) else (([],⟨[],[],[]⟩),9):=by
 unfold rrestF
 rw[if_pos ⟨by rw[←valid_eq hd];exact hv,h⟩,all_inD h (valid_st hv).1,keepR_res h,hasL_st h]
 by_cases hm:mi (stS L) (stS (ds.map Dom.st))=0
 ·rw[if_pos hm,if_pos (decide_eq_true hm)];rfl
 ·rw[if_neg hm,if_neg (by simpa using hm)]
theorem exG_step {r:Rul} {s c:Int} {own:List Int} {q:Nat} (h:own[q]?=some c) (pl:List (Int×Int)):exGo r s (own.drop q) pl=if onF pl s=0 then exGo r s (own.drop (q+1)) (if (pl.all fun x=>!blkd r s c x.1 x.2)=true then pl++[(s,c)] else pl) else pl:=by
 obtain⟨h1,h2⟩:=List.getElem?_eq_some_iff.1 h
 rw[List.drop_eq_getElem_cons h1,h2,exGo]
theorem exG_back {D:Dms} {r:Rul} {R:List Int} {k:Nat} {s:Int} (h:R[k]?=some s) (l:List (Int×Int)):extG D r (R.drop k).reverse l=exGo r s (chsOf D s) (extG D r (R.drop (k+1)).reverse l):=by
 obtain⟨h1,h2⟩:=List.getElem?_eq_some_iff.1 h
 rw[List.drop_eq_getElem_cons h1,h2,List.reverse_cons,extG,List.foldl_append];rfl
theorem all_snoc {α:Type} {p:α→Bool} {l:List α} {k:Nat} {x:α} (h:l[k]?=some x):(l.take (k+1)).all p=((l.take k).all p&&p x):=by
 rw[List.take_add_one,h,Option.toList_some,List.all_append];simp
theorem refextend_any (ps:PrbS) (A:Option Addr) (n c:Nat) (l:List (Int×Int)) (w:World) (ds:List Dom) (r:Rul) (hn:ps.nd≤1000) (hpl:r.pairs.length≤100000) (hll:r.loads.length≤100000) (hcl:r.caps.length≤100000) (hch:∀ d∈ds,d.chs.length≤1000) (hm:n≤1000) (h:PrbAt w w.heap.size ps ds r) (hl:RowS 2 chC w w.heap.size A n l):
  Calls Tryz.prog 26 #[ps.val,.slice A n c] w (ChsPost (exR ds r l) w):=by
 have hnl:ds.length=ps.nd:=h.1.1.1
 have hdl:∀ d∈ds,d.len=d.chs.length:=fun d hd=>(h.1.2 d hd).1.symm
 have HVA:=Lib.hid (fun (W:World) (hb:Below w.heap.size w W)=>rvalid_any ps W ds r (by omega) ⟨h.1.keep hb,h.2.keep hb⟩)
 rw[←valid_eq hdl] at HVA
 have HVL:=Lib.hid (fun (W:World) (hb:Below w.heap.size w W)=>rvl_any A n c W l (by omega) (hl.keep hb))
 have HPE:=Lib.hid (fun (W:World) (hb:Below w.heap.size w W)=>refpeel_any ps W ds r hn hpl hll hcl hch ⟨h.1.keep hb,h.2.keep hb⟩)
 have HRS:=Lib.hid (fun (hv:validP ds r=true) (B:Option Addr) (m d:Nat) (W:World) (hb:Below w.heap.size w W) (hB:Row1 intV W W.heap.size B m (peelF (ds.map Dom.say) r).2) (hmm:m≤1000)=>(by
  have h1:=rrestrict_any ps B m d W ds r (peelF (ds.map Dom.say) r).2 (by omega) (by omega) ⟨h.1.keep hb,h.2.keep hb⟩ hB;rw[rrest_ok hv hdl (core_ok hv),if_pos (core_zero hv)] at h1;refine h1.mono ?_;rintro e w' ⟨s,es,rfl,hP,hs,hb'⟩;dsimp only at hP hs;have hle:es.length≤1000:=by
   have:=congrArg List.length hs;simp only[List.length_map] at this;rw[this];exact Nat.le_trans (List.length_filter_le _ _) (by omega)
  have hdl2:∀ d∈es,d.len≤9223372036854775807:=fun d hd=>by
   have h2:d.chs.length=d.len:=(hP.1.2 d hd).1;have h3:Dom.say d∈(resD (stS (peelF (ds.map Dom.say) r).2) ds).map Dom.say:=by rw[←hs];exact List.mem_map.2 ⟨d,hd,rfl⟩
   obtain⟨d0,hd0,e0⟩:=List.mem_map.1 h3;have h4:=hch d0 (List.mem_filter.1 hd0).1;have h5:d0.chs=d.chs:=congrArg Prod.snd e0;rw[h5] at h4;omega
  refine⟨s,es,rfl,hP,by have:es.length=s.nd:=hP.1.1.1;omega,hdl2,?_,hb'⟩;intro l;exact fine_say hs _ _:Calls Tryz.prog 14 #[ps.val,.slice B m d] W (fun e w'=>∃ s es,e=.returned (.tuple #[PrbS.val s,.int .i64 0])∧PrbAt w' w'.heap.size s es (resR (stS (peelF (ds.map Dom.say) r).2) r)∧s.nd≤9223372036854775807∧(∀ d∈es,d.len≤9223372036854775807)∧(∀ l,fineF es (resR (stS (peelF (ds.map Dom.say) r).2) r) l=fitC ds r l)∧Below W.heap.size W w')))
 have HBK:=Lib.hid (fun (s c t d:Int) (W:World) (hb:Below w.heap.size w W)=>rblocked_any ps s c t d W ds r hpl hll hcl ⟨h.1.keep hb,h.2.keep hb⟩)
 have HFD:=Lib.hid (fun (x:Int) (W:World) (hb:Below w.heap.size w W)=>rfind_any ps x W ds (by omega) (h.1.keep hb))
 have HON:=Lib.hid (fun (A:Option Addr) (n c:Nat) (x:Int) (W:World) (l:List (Int×Int)) (hn:n≤9223372036854775807) (hl:RowS 2 chC W W.heap.size A n l)=>ron_any A n c x W l hn hl)
 have HEX:Hid (∀ x,x∈(peelF (ds.map Dom.say) r).1→∃(i:Nat) (d:Dom),ds[i]?=some d∧findD x 0 ds=(i:Int)∧chsOf (ds.map Dom.say) x=d.chs):=Lib.hid (fun x hx=>by
  have hx2:x∈ds.map Dom.st:=by
   rcases(peelG_mem (ds.map Dom.say) r (ds.map Dom.say).length [] ((ds.map Dom.say).map Prod.fst) x).1 (.inl hx) with h | h
   ·cases h
   ·rwa [say_st] at h
  obtain⟨i,d,h1,h2,h3,h4⟩:=findD_ex x ds 0 hx2;exact⟨i,d,h1,by rw[h2];simp,h4⟩)
 have HDM:=Lib.hid (fun (W:World) (hb:Below w.heap.size w W)=>(h.1.keep hb))
 have HCH:=Lib.hid hch
 have HL:=Lib.hid hl
 have HRL:Hid ((peelF (ds.map Dom.say) r).1.length≤1000):=Lib.hid (by have:=peel_len (ds.map Dom.say) r;rw[List.length_map] at this;omega)
 have HCL:Hid ((peelF (ds.map Dom.say) r).2.length≤1000):=Lib.hid (by
  rw[core_list];refine Nat.le_trans (List.length_filter_le _ _) ?_;rw[List.length_map,List.length_map];omega)
 have HXF:Hid (extF (ds.map Dom.say) r l=outF (ds.map Dom.say) (extG (ds.map Dom.say) r ((peelF (ds.map Dom.say) r).1.drop 0).reverse l)):=Lib.hid rfl
 have HOD:Hid (∀(k:Nat) (d:Dom),ds[k]?=some d→∀ pl,(outF (ds.map Dom.say) pl)[k]?=some (d.st,onF pl d.st)):=Lib.hid (fun k d hk pl=>by
  unfold outF;rw[List.getElem?_map,List.getElem?_map,hk];rfl)
 have HOL:Hid (∀ pl,(outF (ds.map Dom.say) pl).length=ds.length):=Lib.hid (fun pl=>by unfold outF;rw[List.length_map,List.length_map])
 obtain⟨i0,hi,hz0,hz1,hz2⟩:=info_parts ch_info
 have HR0:Hid (∀ a b,validP ds r=a→vlGo none l=b→exR ds r l=if a=true∧b=true then (if fitC ds r l=true then (extF (ds.map Dom.say) r l,0) else ([],10)) else ([],(2:Int))):=Lib.hid (fun a b ha hb=>by unfold exR;rw[ha,hb])
 generalize exR ds r l=RR at *
 generalize hvv:validP ds r=vv at *
 generalize hvl:vlGo none l=vl at *
 generalize hft:fitC ds r l=ft at *
 have HFT:=Eqn.mk hft
 generalize extF (ds.map Dom.say) r l=XF at *
 generalize hR1:(peelF (ds.map Dom.say) r).1=R1 at *
 generalize hR2:(peelF (ds.map Dom.say) r).2=R2 at *
 generalize resR (stS R2) r=rq at *
 generalize hD:ds.map Dom.say=D at *
 obtain⟨Ad,nd,cd,⟨A0,n0,c0,A1,n1,c1,A2,n2,c2⟩⟩:=ps
 unfold PrbS.val at *
 dsimp only at HVA HPE HRS HBK HFD HDM hn hnl ⊢
 clear h hl hpl hll hcl hch hdl hvv hvl hft hR1 hR2 hD
 obtain⟨W0,hW0⟩:∃ W0,W0=w.alloc (.cells #[.slice Ad nd cd,.slice A0 n0 c0,.slice A1 n1 c1,.slice A2 n2 c2] 29):=⟨_,rfl⟩
 have hP0:=(Hp.start w).alloc [.slice Ad nd cd,.slice A0 n0 c0,.slice A1 n1 c1,.slice A2 n2 c2] 29
 rw[show ([.slice Ad nd cd,.slice A0 n0 c0,.slice A1 n1 c1,.slice A2 n2 c2]:List Value).toArray=#[.slice Ad nd cd,.slice A0 n0 c0,.slice A1 n1 c1,.slice A2 n2 c2] from rfl,←hW0] at hP0
 have HP0:=Lib.hid hP0
 have q0:=hP0.c 0 0 rfl rfl
 have q1:=hP0.c 0 1 rfl rfl
 have q2:=hP0.c 0 2 rfl rfl
 have q3:=hP0.c 0 3 rfl rfl
 have q4:=hP0.lt 0 rfl
 clear hP0
 go_enter Tryz.func26,Tryz.ntmps26
 go_upto_region 1 with fail
 rw[←hW0]
 clear hW0
 have HV1:=Lib.hid (HVA.out W0 HP0.out.below)
 cases vv with
 | false=>
  obtain rfl:RR=([],2):=HR0.out _ _ rfl rfl
  go_wp2_with fail
  refine HV1.out.mono ?_;rintro e w1 ⟨rfl,hb1⟩;have HB:=Lib.hid (HP0.out.keep hb1).below;clear hb1
  go_wp2_with fail
  refine bodyPost_ret (v:=.tuple #[.slice none 0 0,.int .i64 2]) (by simp[results,Tryz.results26,go_sem]) rfl ⟨_,rfl,World.ownsRow_nil _ _ _ _,HB.out⟩
 | true=>
  cases vl with
  | false=>
   obtain rfl:RR=([],2):=HR0.out _ _ rfl rfl
   go_wp2_with fail
   refine HV1.out.mono ?_;rintro e w1 ⟨rfl,hb1⟩;have HP1:=Lib.hid (HP0.out.keep hb1);have HV2:=Lib.hid (HVL.out w1 HP1.out.below);clear hb1
   go_wp2_with fail
   refine HV2.out.mono ?_;rintro e w2 ⟨rfl,hb2⟩;have HB:=Lib.hid (HP1.out.keep hb2).below;clear hb2
   go_wp2_with fail
   refine bodyPost_ret (v:=.tuple #[.slice none 0 0,.int .i64 2]) (by simp[results,Tryz.results26,go_sem]) rfl ⟨_,rfl,World.ownsRow_nil _ _ _ _,HB.out⟩
  | true=>
   have hR3:RR=if ft=true then (XF,0) else ([],10):=HR0.out _ _ rfl rfl
   have HRR:=Eqn.mk hR3;clear hR3 HR0
   go_wp2_with fail
   refine HV1.out.mono ?_;rintro e w1 ⟨rfl,hb1⟩;have HP1:=Lib.hid (HP0.out.keep hb1);have HV2:=Lib.hid (HVL.out w1 HP1.out.below);clear hb1
   go_wp2_with fail
   refine HV2.out.mono ?_;rintro e w2 ⟨rfl,hb2⟩;have hP2:=HP1.out.keep hb2;have HP2:=Lib.hid hP2;have HPE1:=Lib.hid (HPE.out w2 hP2.below);clear hb2 q0 q1 q2 q3 q4 HP0 HP1 HV1 HV2 HVA HVL HPE;have q0:=hP2.c 0 0 rfl rfl;have q1:=hP2.c 0 1 rfl rfl;have q2:=hP2.c 0 2 rfl rfl;have q3:=hP2.c 0 3 rfl rfl;have q4:=hP2.lt 0 rfl;clear hP2
   go_wp2_with fail
   refine HPE1.out.mono ?_;rintro e w3 ⟨v1,v2,rfl,hown1,hown2,hb3⟩;have hP3:=HP2.out.pushRow hb3 hown1;obtain⟨Ar,cr,rfl⟩:=hP3.form 1 rfl;obtain⟨A7,c7,rfl,hr7,_⟩:=own_form hown2;have HRS1:=Lib.hid (HRS.out trivial A7 R2.length c7 w3 hP3.below hr7 HCL.out);have HP3:=Lib.hid hP3;clear hown1 hown2 hb3 hr7 q0 q1 q2 q3 q4 HP2 HRS HPE1;have q0:=hP3.c 0 0 rfl rfl;have q1:=hP3.c 0 1 rfl rfl;have q2:=hP3.c 0 2 rfl rfl;have q3:=hP3.c 0 3 rfl rfl;have q4:=hP3.lt 0 rfl;clear hP3
   go_wp2_with fail
   refine HRS1.out.mono ?_;rintro e w4 ⟨sq,es,rfl,hPq,hnq,hdq,hfq,hb4⟩;have hP4:=(HP3.out.keep hb4).alloc [.slice sq.ad sq.nd sq.cd,.slice sq.rs.a0 sq.rs.n0 sq.rs.c0,.slice sq.rs.a1 sq.rs.n1 sq.rs.c1,.slice sq.rs.a2 sq.rs.n2 sq.rs.c2] 29;obtain⟨V4,hV4⟩:∃ V,V=w4.alloc (.cells #[.slice sq.ad sq.nd sq.cd,.slice sq.rs.a0 sq.rs.n0 sq.rs.c0,.slice sq.rs.a1 sq.rs.n1 sq.rs.c1,.slice sq.rs.a2 sq.rs.n2 sq.rs.c2] 29):=⟨_,rfl⟩;rw[show ([.slice sq.ad sq.nd sq.cd,.slice sq.rs.a0 sq.rs.n0 sq.rs.c0,.slice sq.rs.a1 sq.rs.n1 sq.rs.c1,.slice sq.rs.a2 sq.rs.n2 sq.rs.c2]:List Value).toArray=#[.slice sq.ad sq.nd sq.cd,.slice sq.rs.a0 sq.rs.n0 sq.rs.c0,.slice sq.rs.a1 sq.rs.n1 sq.rs.c1,.slice sq.rs.a2 sq.rs.n2 sq.rs.c2] from rfl,←hV4] at hP4;have hb44:Below w4.heap.size w4 V4:=by rw[hV4];exact(Below.refl _ w4).alloc (Nat.le_refl _) _
   have HFI:=rfine_any sq A n c V4 es rq l (by omega) hnq (HL.out.keep hP4.below) ⟨hPq.1.keep hb44,hPq.2.keep hb44⟩ hdq;rw[hfq l] at HFI;rw[HFT.out] at HFI;unfold PrbS.val at HFI;have HFI:=Lib.hid HFI;have HP4:=Lib.hid hP4;have z0:=hP4.c 2 0 rfl rfl;have z1:=hP4.c 2 1 rfl rfl;have z2:=hP4.c 2 2 rfl rfl;have z3:=hP4.c 2 3 rfl rfl;have z4:=hP4.lt 2 rfl;clear hPq hnq hdq hfq hb4 hb44 hP4 q0 q1 q2 q3 q4 HP3 HRS1
   go_upto_region 5 with fail
   rw[←hV4];clear hV4
   cases ft with
   | false=>
    obtain rfl:RR=([],10):=HRR.out
    go_wp2_with fail
    refine HFI.out.mono ?_;rintro e w5 ⟨rfl,hb5⟩;have HB:=Lib.hid (HP4.out.keep hb5).below;clear hb5
    go_wp2_with fail
    refine bodyPost_ret (v:=.tuple #[.slice none 0 0,.int .i64 10]) (by simp[results,Tryz.results26,go_sem]) rfl ⟨_,rfl,World.ownsRow_nil _ _ _ _,HB.out⟩
   | true=>
    have hRR:RR=(XF,0):=HRR.out;have HRR:=Eqn.mk hRR;clear hRR
    go_wp2_with fail
    refine HFI.out.mono ?_;rintro e w5 ⟨rfl,hb5⟩;have HP5:=Lib.hid ((HP4.out.keep hb5).sub (L':=[.blk w.heap.size 29 [.slice Ad nd cd,.slice A0 n0 c0,.slice A1 n1 c1,.slice A2 n2 c2],.row (.slice Ar R1.length cr) 3 1 R1.length (R1.map intV)]) (.cons_cons _ (.cons_cons _ (List.nil_sublist _))));clear hb5 HP4 z0 z1 z2 z3 z4 HFI
    go_upto_region 8 with (at_builtin;refine wpList_append_rowR rfl _ _ 53 rfl (f:=chC) (by decide) chC_one w5.heap.size 75 i0 (.agg #[.int .i64 0,.int .i64 0]) 16 Tryz.underlying53 hi hz0 hz1 hz2 rfl _ 0 [] rfl (World.ownsRow_nil _ _ _ _) A n c l w5.heap.size rfl (HL.out.keep HP5.out.below) (by unfold maxLen;omega) (by omega) (Nat.le_refl _) ?_;intro v6 w6 hown hgrow hat;rw[Nat.zero_add,List.nil_append] at hown;obtain⟨A6,c6,rfl,_⟩:=own_formS (by decide) hown;have HP6:=Lib.hid (HP5.out.pushRow ((Below.refl _ _).grown hgrow (Nat.le_refl _) (fun g hg=>by cases hg)) hown);clear hown hgrow hat)
    have hRl:=HRL.out;have e8:IntKind.i64.wrap ((R1.length:Int) - 1)=(R1.length:Int) - 1:=IntWalk.i64_in _ (by omega);have hll:l.length=n:=HL.out.1;have HLL:=Eqn.mk hll;clear hll
    go_wp2_with fail
    clear e8
    go_loopw [10,11] (fun pv iv wr=>∃(k:Nat) (pl:List (Int×Int)),k≤R1.length∧iv=.int .i64 ((k:Int) - 1)∧Eqn pl (extG D r (R1.drop k).reverse l)∧pl.length+k * 1000≤n+R1.length * 1000∧Hp w w wr [.blk w.heap.size 29 [.slice Ad nd cd,.slice A0 n0 c0,.slice A1 n1 c1,.slice A2 n2 c2],.row (.slice Ar R1.length cr) 3 1 R1.length (R1.map intV),.row pv 75 2 pl.length (flat 2 chC pl)] []) (fun _ iv _=>(intOf iv+1).toNat)
    case atStart=>exact⟨R1.length,l,Nat.le_refl _,rfl,by rw[Eqn,List.drop_length];rfl,by rw[HLL.out];exact Nat.le_refl _,by rw[HLL.out];exact HP6.out⟩
    case round=>
     clear HP6 HP5;obtain⟨k,pl,hk,rfl,HPL,hbd,hP⟩:=hrel;obtain⟨Ap,cp,rfl⟩:=hP.form 2 rfl
     cases k with
     | zero=>
      rw[show (((0:Nat):Int) - 1)=-1 from rfl];have j0:¬(0:Int)≤-1:=by omega
      have HXE:Hid (XF=outF D pl):=Lib.hid (by rw[HXF.out,HPL.out]);have HPN:=Lib.hid ((hP.nil 75 2).sub (L':=[.blk w.heap.size 29 [.slice Ad nd cd,.slice A0 n0 c0,.slice A1 n1 c1,.slice A2 n2 c2],.row (.slice Ap pl.length cp) 75 2 pl.length (flat 2 chC pl),.row (.slice none 0 0) 75 2 0 []]) (.cons_cons _ (.cons _ (List.Sublist.refl _))));have hpl2:pl.length≤3000000:=by omega
      clear hP HPL hbd
      go_wp2_with fail
      obtain⟨wa,rfl⟩:∃ wo:World,wo=wr:=⟨_,rfl⟩
      go_loopw [17,18] (fun ov kv wr=>∃ k:Nat,k≤nd∧kv=.int .i64 k∧Hp w w wr [.blk w.heap.size 29 [.slice Ad nd cd,.slice A0 n0 c0,.slice A1 n1 c1,.slice A2 n2 c2],.row (.slice Ap pl.length cp) 75 2 pl.length (flat 2 chC pl),.row ov 75 2 k (flat 2 chC ((outF D pl).take k))] []) (fun _ kv _=>nd - (intOf kv).toNat)
      case atStart=>exact⟨0,Nat.zero_le _,rfl,HPN.out⟩
      case round=>
       clear HPN;obtain⟨k,hk,rfl,hP⟩:=hrel;obtain⟨Ao,co,rfl⟩:=hP.form 2 rfl;have HP:=Lib.hid hP;have q0:=hP.c 0 0 rfl rfl;have q4:=hP.lt 0 rfl
       by_cases hkl:k<nd
       ·have j1:(k:Int)<(nd:Int):=by omega
        obtain⟨d,hd⟩:∃ d,ds[k]?=some d:=⟨_,List.getElem?_eq_getElem (by omega)⟩;have HDK:=Lib.hid hd;have HOS:Hid ((outF D pl).take (k+1)=(outF D pl).take k++[(d.st,onF pl d.st)]):=Lib.hid (by rw[List.take_add_one,HOD.out k d hd pl];rfl);obtain⟨bD,oD,eAd,hbD,hcD⟩:=(HDM.out wr hP.below).1.2 (by omega);subst eAd;have m1:wr.cell? ⟨bD,oD+k * 2,none⟩=some (.int .i64 d.st):=hcD k d hd 0 (by decide);have hrp:RowS 2 chC wr.drew wr.drew.heap.size Ap pl.length pl:=rowS_own (by decide) (hP.drew.row 1 rfl);have HON1:=Lib.hid (HON.out Ap pl.length cp d.st wr.drew pl (by omega) hrp);have HPD:=Lib.hid hP.drew;obtain⟨dst,dA,dl,dc,dC⟩:=d;dsimp only at m1 HOS HON1;generalize onF pl dst=oo at *;have qd0:wr.drew.cell? ⟨w.heap.size,0,none⟩=some (.slice (some ⟨bD,oD,none⟩) nd cd):=q0;have md1:wr.drew.cell? ⟨bD,oD+k * 2,none⟩=some (.int .i64 dst):=m1;have HAC:=Lib.hid (fun o=>And.intro ((HPD.out.alloc0 o).c 0 0 rfl rfl) ((((Below.refl wr.heap.size wr).drew.alloc (by simp) o).cell (p:=⟨bD,oD+k * 2,none⟩) hbD).trans m1));clear hP hd hcD hrp
        go_wp2_with fail
        refine Lx.region (C:=fun Z=>Z.cell? ⟨w.heap.size,0,none⟩=some (.slice (some ⟨bD,oD,none⟩) nd cd)∧Z.cell? ⟨bD,oD+k * 2,none⟩=some (.int .i64 dst)) (hs:=[2,6]) (by kernel_rfl) (by kernel_rfl) ⟨q0,m1⟩ ?_
        repeat' (first|((first|refine Lx.ln (fun K hK=>?_) | (first|(refine Lx.lp (v:=?_) ?_ (fun K hK=>?_);rotate_left 1;intro w' hCw;try dsimp only at hCw) | (refine Lx.lr (v:=?_) ?_ (fun K hK=>?_);rotate_left 1));go_simp;first|done | with_reducible rfl);go_simp;refine hK _ ?_;clear hK K) | (refine Lx.le (fun K hK=>?_);go_simp;(first|(go_at_call 64;refine HON1.out.mono ?_;rintro e w4 ⟨rfl,rfl⟩) | skip);refine hK _ _ (by first|with_reducible exact⟨qd0,md1⟩ | exact HAC.out _) ?_;clear hK K))
        refine Lx.lex_append rfl rfl _ _ 53 rfl w.heap.size 75 i0 (.agg #[.int .i64 0,.int .i64 0]) 2 16 Tryz.underlying53 hi hz0 hz1 hz2 rfl (by decide) _ _ _ rfl ((HPD.out.row 2 rfl).alloc _) ⟨wr.heap.size,0,none⟩ 1 1 [.int .i64 dst,.int .i64 oo] rfl rfl (cells_newR wr.drew [.int .i64 dst,.int .i64 oo] 75) (by simp[Value.oneCell']) (by unfold maxLen;omega) (by omega) (by have:=HPD.out.below.size;simp at this ⊢;omega) ?_;intro v' w5 hown' hgrow hor;have hP5:=(HPD.out.alloc0 _).grow 2 rfl hgrow hown' hor;have HP5:=Lib.hid hP5;obtain⟨A5,c5,rfl⟩:=hP5.form 2 rfl;have x0:=hP5.c 0 0 rfl rfl;have hx1:w5.cell? ⟨bD,oD+k * 2,none⟩=some (.int .i64 dst):=by
         obtain⟨b7,o7,e7,hb7,hc7⟩:=(HDM.out w5 hP5.below).1.2 (by omega);injection e7 with e7;injection e7 with e7a e7b;subst e7a e7b;exact hc7 k ⟨dst,dA,dl,dc,dC⟩ HDK.out 0 (by decide)
        refine⟨⟨x0,hx1⟩,?_⟩;clear hown' hgrow hor hP5
        repeat' (first|((first|refine Lx.ln (fun K hK=>?_) | (first|(refine Lx.lp (v:=?_) ?_ (fun K hK=>?_);rotate_left 1;intro w' hCw;try dsimp only at hCw) | (refine Lx.lr (v:=?_) ?_ (fun K hK=>?_);rotate_left 1));go_simp;first|done | with_reducible rfl);go_simp;refine hK _ ?_;clear hK K) | (refine Lx.le (fun K hK=>?_);go_simp;(first|skip);refine hK _ _ (exact ⟨x0,hx1⟩) ?_;clear hK K))
        all_goals (refine Lx.lex_nil ?_)
        clear q0 q4 m1 x0 hx1 qd0 md1
        go_wp2_with fail
        go_roundw
        case rel=>exact⟨k+1,hkl,by go_num,by rw[HOS.out,flat_snoc];exact HP5.out⟩
        case measure=>simp[intOf]<;>omega
       ·obtain rfl:k=nd:=by omega
        have j1:¬((k:Nat):Int)<(k:Int):=by omega
        have HLE:Hid ((outF D pl).take k=XF∧XF.length=k):=Lib.hid (by
         have h1:=HOL.out pl;rw[hnl] at h1;rw[HXE.out];exact⟨List.take_of_length_le (by rw[h1];exact Nat.le_refl _),h1⟩)
        clear hP
        go_wp2_with fail
        obtain rfl:=HRR.out;refine bodyPost_ret (v:=.tuple #[.slice Ao k co,.int .i64 0]) (by simp[results,Tryz.results26,go_sem]) rfl ⟨.slice Ao k co,rfl,?_,HP.out.below⟩;have h1:=HP.out.row 2 rfl;rw[HLE.out.1] at h1;show World.ownsRow _ _ _ _ _ XF.length _;rw[HLE.out.2];exact h1
     | succ k=>
      rw[show (((k+1:Nat):Int) - 1)=(k:Int) by omega];have j0:(0:Int)≤(k:Int):=by omega
      have j1:(k:Int)<(R1.length:Int):=by omega
      obtain⟨s,hs⟩:∃ s,R1[k]?=some s:=⟨_,List.getElem?_eq_getElem (by omega)⟩;obtain⟨i,di,hi1,hi2,hi4⟩:=HEX.out s (List.mem_of_getElem? hs);have hil0:=(List.getElem?_eq_some_iff.1 hi1).1;have k0:(i:Int)<(nd:Int):=by omega
      obtain⟨E,hE⟩:∃ E,E=extG D r (R1.drop k).reverse l:=⟨_,rfl⟩;have HEE:=Eqn.mk hE;have HE0:Hid (E=exGo r s (di.chs.drop 0) pl):=Lib.hid (by rw[hE,exG_back hs,hi4,←HPL.out];rfl);obtain⟨gr,cr',er,y0,_,lr⟩:=hP.at 1 k rfl (show (R1.map intV)[k]?=some (.int .i64 s) by rw[List.getElem?_map,hs];rfl);injection er with er _ erc;subst er erc;obtain⟨bD,oD,eAd,hbD,hcD⟩:=(HDM.out wr hP.below).1.2 (by omega);subst eAd;have m1:wr.cell? ⟨bD,oD+i * 2+1,none⟩=some (.slice di.adr di.len di.cap):=hcD i di hi1 1 (by decide);have HRI:=Lib.hid ((HDM.out wr hP.below).2 di (List.mem_of_getElem? hi1));have hil:di.len≤1000:=by have:=HRI.out.1;have:=HCH.out di (List.mem_of_getElem? hi1);omega
      have HLI:=Eqn.mk HRI.out.1;have HRW:=Lib.hid (fun (W:World) (hb:Below w.heap.size w W)=>(HDM.out W hb).2 di (List.mem_of_getElem? hi1));have HFC:=Lib.hid (HFD.out s wr.drew hP.drew.below);rw[hi2] at HFC;obtain⟨ist,iA,il,ic,iCh⟩:=di;dsimp only at m1 HRI hil HLI HE0 HRW;have hPd:=hP.drew;have HPD:=Lib.hid hPd;have HM1:=Lib.hid (fun (W:World) (hb:Below wr.drew.heap.size wr.drew W)=>(hb.cell (p:=⟨bD,oD+i * 2+1,none⟩) hbD).trans (show wr.drew.cell? ⟨bD,oD+i * 2+1,none⟩=_ from m1));have q0:=hP.c 0 0 rfl rfl;have q1:=hP.c 0 1 rfl rfl;have q2:=hP.c 0 2 rfl rfl;have q3:=hP.c 0 3 rfl rfl;have q4:=hP.lt 0 rfl;clear hP hs hi1 hi2 hi4 hil0 hE hcD hPd HPL HRI
      go_wp2_with fail
      refine Lx.region (C:=fun Z=>Z.cell? ⟨w.heap.size,0,none⟩=some (.slice (some ⟨bD,oD,none⟩) nd cd)) (hs:=[1]) (by kernel_rfl) (by kernel_rfl) q0 ?_
      repeat' (first|((first|refine Lx.ln (fun K hK=>?_) | (first|(refine Lx.lp (v:=?_) ?_ (fun K hK=>?_);rotate_left 1;intro w' hCw;try dsimp only at hCw) | (refine Lx.lr (v:=?_) ?_ (fun K hK=>?_);rotate_left 1));go_simp;first|done | with_reducible rfl);go_simp;refine hK _ ?_;clear hK K) | (refine Lx.le (fun K hK=>?_);go_simp;(first|(go_at_call 21;refine HFC.out.mono ?_;rintro e w4 ⟨rfl,hb4⟩;have hP4:=HPD.out.keep hb4;have z1:=HM1.out _ hb4;have y1:=hP4.c 0 0 rfl rfl;have HP4:=Lib.hid hP4;clear hb4 hP4) | skip);refine hK _ _ (by first|exact q0 | exact y1) ?_;clear hK K) | (refine Lx.lex_cases rfl rfl rfl (fun hgd K hK=>?_) (fun hgd K hK=>?_)<;>(try simp only[decide_eq_true_eq,decide_eq_false_iff_not] at hgd)<;>(first|(exfalso;omega) | (go_simp;refine hK _ ?_;clear hK K))))
      all_goals (refine Lx.lex_nil ?_)
      clear q0 q1 q2 q3 q4 z1 y0 y1 m1 HM1 HFC HPD;obtain⟨wa,rfl⟩:∃ wo:World,wo=wr:=⟨_,rfl⟩
      go_wp2_with fail
      go_loopw [10,14] (fun pv qv wr=>∃(q:Nat) (p2:List (Int×Int)),q≤il∧qv=.int .i64 q∧Eqn E (exGo r s (iCh.drop q) p2)∧p2.length≤pl.length+q∧Hp w w wr [.blk w.heap.size 29 [.slice (some ⟨bD,oD,none⟩) nd cd,.slice A0 n0 c0,.slice A1 n1 c1,.slice A2 n2 c2],.row (.slice (some ⟨gr,0,none⟩) R1.length cr) 3 1 R1.length (R1.map intV),.row pv 75 2 p2.length (flat 2 chC p2)] []) (fun _ qv _=>il - (intOf qv).toNat)
      case atStart=>exact⟨0,pl,Nat.zero_le _,rfl,HE0.out,Nat.le_refl _,HP4.out⟩
      case round=>
       clear HP4 HE0;obtain⟨q,p2,hq,rfl,HEQ,hp2,hP⟩:=hrel;obtain⟨A2',c2',rfl⟩:=hP.form 2 rfl;have HP:=Lib.hid hP
       by_cases hql:q<il
       ·have j2:(q:Int)<(il:Int):=by omega
        obtain⟨c,hc⟩:∃ c,iCh[q]?=some c:=⟨_,List.getElem?_eq_getElem (by have:=HLI.out;omega)⟩;have hEQ:=HEQ.out;rw[exG_step hc] at hEQ;have hrp:RowS 2 chC wr wr.heap.size A2' p2.length p2:=rowS_own (by decide) (hP.row 2 rfl);have hON:=HON.out A2' p2.length c2' s wr p2 (by omega) hrp;have HCQ:=Lib.hid hc
        by_cases h0:onF p2 s=0
        ·rw[h0] at hON
         rw[if_pos h0] at hEQ;have HEQ2:=Eqn.mk hEQ;have HON1:=Lib.hid hON;clear h0 hEQ hON hP hc hrp HEQ
         go_wp2_with fail
         refine HON1.out.mono ?_;rintro e w5 ⟨rfl,rfl⟩
         go_wp2_with fail
         obtain⟨wb,rfl⟩:∃ wo:World,wo=wr:=⟨_,rfl⟩
         go_loopw [15,16] (fun fv jv wr=>∃(j:Nat) (b:Bool),j≤p2.length∧jv=.int .i64 j∧fv=.bool b∧Eqn b ((p2.take j).all (fun x=>!blkd r s c x.1 x.2))∧Hp w w wr [.blk w.heap.size 29 [.slice (some ⟨bD,oD,none⟩) nd cd,.slice A0 n0 c0,.slice A1 n1 c1,.slice A2 n2 c2],.row (.slice (some ⟨gr,0,none⟩) R1.length cr) 3 1 R1.length (R1.map intV),.row (.slice A2' p2.length c2') 75 2 p2.length (flat 2 chC p2)] []) (fun _ jv _=>p2.length - (intOf jv).toNat)
         case atStart=>exact⟨0,true,Nat.zero_le _,rfl,rfl,by rw[Eqn,List.take_zero];rfl,HP.out⟩
         case round=>
          obtain⟨j,b,hj,rfl,rfl,HB,hP⟩:=hrel;have HPJ:=Lib.hid hP
          by_cases hjl:j<p2.length
          ·have j3:(j:Int)<(p2.length:Int):=by omega
           obtain⟨x,hx⟩:∃ x,p2[j]?=some x:=⟨_,List.getElem?_eq_getElem hjl⟩;have hAS:=all_snoc (p:=fun x=>!blkd r s c x.1 x.2) hx;rw[←HB.out] at hAS
           cases b with
           | false=>
            have HAS:=Eqn.mk (hAS.trans (Bool.false_and _));clear hAS hx hP HB
            go_wp2_with fail
            refine Lx.region (C:=fun _=>True) (hs:=[]) (by kernel_rfl) (by kernel_rfl) trivial ?_
            repeat' (first|((first|refine Lx.ln (fun K hK=>?_) | (first|(refine Lx.lp (v:=?_) ?_ (fun K hK=>?_);rotate_left 1;intro w' hCw;try dsimp only at hCw) | (refine Lx.lr (v:=?_) ?_ (fun K hK=>?_);rotate_left 1));go_simp;first|done | with_reducible rfl);go_simp;refine hK _ ?_;clear hK K) | (refine Lx.le (fun K hK=>?_);go_simp;(first|fail | skip);refine hK _ _ (trivial) ?_;clear hK K) | (refine Lx.lex_cases rfl rfl rfl (fun hgd K hK=>?_) (fun hgd K hK=>?_)<;>(try simp only[decide_eq_true_eq,decide_eq_false_iff_not] at hgd)<;>(first|(exfalso;omega) | (go_simp;refine hK _ ?_;clear hK K))))
            all_goals (refine Lx.lex_nil ?_)
            go_wp2_with fail
            go_roundw
            case rel=>exact⟨j+1,false,hjl,by go_num,rfl,HAS.out.symm,HPJ.out.drew⟩
            case measure=>simp[intOf];omega
           | true=>
            have hPd:=hP.drew;obtain⟨gp,cp',ep,y2,_,lp⟩:=hPd.at 2 (j * 2+0) rfl (flat_at 2 chC p2 j x hx 0 (by decide));injection ep with ep _ epc;subst ep epc;obtain⟨gp',cp'',ep',y3,_,_⟩:=hPd.at 2 (j * 2+1) rfl (flat_at 2 chC p2 j x hx 1 (by decide));injection ep' with ep' _ epc';injection ep' with ep';injection ep' with ep';subst ep' epc';replace y2:wr.drew.cell? ⟨gp,j * 2,none⟩=some (.int .i64 x.1):=y2;replace y3:wr.drew.cell? ⟨gp,j * 2+1,none⟩=some (.int .i64 x.2):=y3;obtain⟨b5,o5,e5,hb5,hc5⟩:=(HRW.out wr.drew hPd.below).2 (by omega);subst e5;have y4:wr.drew.cell? ⟨b5,o5+q,none⟩=some (.int .i64 c):=hc5 q c HCQ.out;have hBK:=HBK.out s c x.1 x.2 wr.drew hPd.below;have q0:=hPd.c 0 0 rfl rfl;have q1:=hPd.c 0 1 rfl rfl;have q2:=hPd.c 0 2 rfl rfl;have q3:=hPd.c 0 3 rfl rfl;have q4:=hPd.lt 0 rfl;have HPD:=Lib.hid hPd;obtain⟨xs,xc⟩:=x;dsimp only at y2 y3 hBK hAS;generalize blkd r s c xs xc=bb at *;have HBK1:=Lib.hid hBK;have HAS:=Eqn.mk hAS;clear hAS hx hP HB hPd hc5 hBK
            go_wp2_with fail
            refine Lx.region (C:=fun _=>True) (hs:=[]) (by kernel_rfl) (by kernel_rfl) trivial ?_
            repeat' (first|((first|refine Lx.ln (fun K hK=>?_) | (first|(refine Lx.lp (v:=?_) ?_ (fun K hK=>?_);rotate_left 1;intro w' hCw;try dsimp only at hCw) | (refine Lx.lr (v:=?_) ?_ (fun K hK=>?_);rotate_left 1));go_simp;first|done | with_reducible rfl);go_simp;refine hK _ ?_;clear hK K) | (refine Lx.le (fun K hK=>?_);go_simp;(first|(go_at_call 52;refine HBK1.out.mono ?_;rintro e w7 ⟨rfl,hb7⟩;have HP7:=Lib.hid (HPD.out.keep hb7);clear hb7) | skip);refine hK _ _ (trivial) ?_;clear hK K) | (refine Lx.lex_cases rfl rfl rfl (fun hgd K hK=>?_) (fun hgd K hK=>?_)<;>(try simp only[decide_eq_true_eq,decide_eq_false_iff_not] at hgd)<;>(first|(exfalso;omega) | (go_simp;refine hK _ ?_;clear hK K))))
            all_goals (refine Lx.lex_nil ?_)
            clear y2 y3 y4 q0 q1 q2 q3 q4
            go_wp2_with fail
            go_roundw
            case rel=>exact⟨j+1,!bb,hjl,by go_num,rfl,by rw[Eqn,HAS.out];simp,HP7.out⟩
            case measure=>simp[intOf];omega
          ·obtain rfl:j=p2.length:=by omega
           have j3:¬((p2.length:Nat):Int)<(p2.length:Int):=by omega
           have hB:=HB.out;rw[List.take_length] at hB;rw[←hB] at HEQ2;clear hB HB hP;have hbd2:p2.length+1≤3000000:=by omega
           cases b with
           | false=>
            rw[if_neg (by simp)] at HEQ2
            go_wp2_with fail
            go_roundw
            case rel=>exact⟨q+1,p2,hql,by go_num,HEQ2,by omega,HPJ.out⟩
            case measure=>simp[intOf];omega
           | true=>
            rw[if_pos rfl] at HEQ2;obtain⟨b5,o5,e5,hb5,hc5⟩:=(HRW.out wr HPJ.out.below).2 (by omega);subst e5;have y4:wr.cell? ⟨b5,o5+q,none⟩=some (.int .i64 c):=hc5 q c HCQ.out;clear hc5
            go_wp2_with (at_builtin;refine wpList_append_own_at _ rfl _ _ 53 rfl w.heap.size 75 i0 (.agg #[.int .i64 0,.int .i64 0]) 2 16 Tryz.underlying53 hi hz0 hz1 hz2 rfl (by decide) _ _ _ rfl ((HPJ.out.row 2 rfl).alloc _) ⟨wr.heap.size,0,none⟩ 1 1 [.int .i64 s,.int .i64 c] rfl rfl (cells_newR wr [.int .i64 s,.int .i64 c] 75) (by simp[Value.oneCell']) (by unfold maxLen;omega) (by omega) (by have:=HPJ.out.below.size;simp;omega) ?_;intro v8 w8 hown' hgrow _ hat;have HP8:=Lib.hid ((HPJ.out.alloc0 _).grow 2 rfl hgrow hown' hat);obtain⟨A8,cp8,rfl⟩:=HP8.out.form 2 rfl;clear hown' hgrow hat)
            go_roundw
            case rel=>
             refine⟨q+1,p2++[(s,c)],hql,by go_num,HEQ2,by rw[List.length_append];simp only[List.length_singleton];omega,?_⟩;rw[flat_snoc,List.length_append];exact HP8.out
            case measure=>simp[intOf];omega
        ·have d0:(onF p2 s == 0)=false:=by simpa using h0
         rw[if_neg h0] at hEQ;have HEQ2:=Eqn.mk hEQ;have HON1:=Lib.hid hON;generalize onF p2 s=oo at *;clear hEQ hON hP hc hrp HEQ h0
         go_wp2_with fail
         refine HON1.out.mono ?_;rintro e w5 ⟨rfl,rfl⟩
         go_wp2_with fail
         go_roundw
         case rel=>exact⟨k,E,by omega,by go_num,HEE,by rw[HEQ2.out];omega,by rw[HEQ2.out];exact HP.out⟩
         case measure=>simp[intOf]<;>omega
       ·obtain rfl:q=il:=by omega
        have j2:¬((q:Nat):Int)<(q:Int):=by omega
        have hEQ:=HEQ.out;rw[List.drop_eq_nil_of_le (by rw[HLI.out];exact Nat.le_refl _),exGo] at hEQ;have HEQ2:=Eqn.mk hEQ;clear hEQ hP HEQ
        go_wp2_with fail
        go_roundw
        case rel=>exact⟨k,E,by omega,by go_num,HEE,by rw[HEQ2.out];omega,by rw[HEQ2.out];exact HP.out⟩
        case measure=>simp[intOf]<;>omega
end Go.Proofs.YtjakdikhdndlgaaGreatDoor
namespace Go.Proofs.YtjakdikhdndlgaaGreatDoor
open Go.RowKit Go.Shelf Go.ChangeShapes Go.WideShapes Go.ChangeAt Go.Deep Go.Joins
theorem chs_form {E:List (Int×Int)} {k:Int} {m:Nat} {w:World} {e:Ending} {w':World} (h:ChsPost (E,k) w e w') (hm:E.length=m):∃ A c,e=.returned (.tuple #[.slice A m c,.int .i64 k])∧RowS 2 chC w' w'.heap.size A m E∧m≤maxLen∧Below w.heap.size w w':=by
 subst hm
 obtain⟨v,rfl,ho,hb⟩:=h
 dsimp only at ho ⊢
 have hle:E.length≤maxLen:=by
  rcases ho.2 with ⟨_,h0⟩ | ⟨g,cap,cur,_,_,_,hc1,hc2,_⟩
  ·rw[show E.length=0 from h0];exact Nat.zero_le _
  ·exact Nat.le_trans hc1 hc2
 obtain⟨A,c,rfl,hr⟩:=own_formS (by decide) ho
 exact⟨A,c,rfl,hr,hle,hb⟩
theorem reduceExtends_walk (w:World) (hT:Tab w) (ps:PrbS) (ds:List Dom) (r:Rul) (R0:PrbAt w w.heap.size ps ds r∧ps.nd≤9223372036854775807) (A:Option Addr) (n c:Nat) (l:List (Int×Int)) (R1:RowS 2 chC w w.heap.size A n l∧n≤9223372036854775807):
  Calls Tryz.prog 7 #[ps.val,.slice A n c] w fun e W'=>e=.returned (.bool true)∧Below w.heap.size w W':=by
 have HSM:=Lib.hid (fun (W:World) (hb:Below w.heap.size w W)=>lsmall_any ps W ds r R0.2 ⟨R0.1.1.keep hb,R0.1.2.keep hb⟩)
 have hnl:ds.length=ps.nd:=R0.1.1.1.1
 have hdl:∀ d∈ds,d.len=d.chs.length:=fun d hd=>(R0.1.1.2 d hd).1.symm
 have HSP:Hid (smF ds r 10 40=true→ps.nd≤10∧(∀ d∈ds,d.len≤60)∧r.pairs.length≤40∧r.loads.length≤40∧r.caps.length≤40):=Lib.hid (fun h=>by
  obtain⟨h1,h2,h3,h4,h5⟩:=smF_spec (by decide) h;exact⟨by omega,h2,by omega,by omega,by omega⟩)
 have HVA:=Lib.hid (fun (W:World) (hb:Below w.heap.size w W)=>rvalid_any ps W ds r R0.2 ⟨R0.1.1.keep hb,R0.1.2.keep hb⟩)
 rw[←valid_eq hdl] at HVA
 have HKN:=Lib.hid (fun (W:World) (hb:Below w.heap.size w W)=>known_any W (hT.keep hb))
 have HPB:=Lib.hid (fun (W:World) (hb:Below w.heap.size w W)=>(⟨R0.1.1.keep hb,R0.1.2.keep hb⟩:PrbAt W W.heap.size ps ds r))
 have HDL:=Lib.hid hdl
 have HNL:=Eqn.mk hnl
 have HTW:=Lib.hid hT
 have HND:=Lib.hid R0.2
 obtain⟨E,k,hR1⟩:∃ E k,exR ds r l=(E,k):=⟨_,_,rfl⟩
 obtain⟨m,hm⟩:∃ m,E.length=m:=⟨_,rfl⟩
 have HXE:=Lib.hid (fun (hd:∀ d∈ds,d.len≤9223372036854775807) (hn:n≤20) (A:Option Addr) (c:Nat) (W:World) (hb:Below w.heap.size w W) (hl:RowS 2 chC W W.heap.size A n l)=>((rextend_any ps A n c l W (HTW.out.keep hb) ds r HND.out hd (by omega) (HPB.out W hb) hl).mono (fun e w' hh=>chs_form (by rw[hR1] at hh;exact hh) hm)))
 have HXR:=Lib.hid (fun (hq:ps.nd≤10) (hd:∀ d∈ds,d.len≤60) (hp:r.pairs.length≤40∧r.loads.length≤40∧r.caps.length≤40) (hn:n≤20) (W:World) (hb:Below w.heap.size w W) (hl:RowS 2 chC W W.heap.size A n l)=>((refextend_any ps A n c l W ds r (by omega) (by omega) (by omega) (by omega) (fun d h=>by have:=hd d h;have:=HDL.out d h;omega) (by omega) (HPB.out W hb) hl).mono (fun e w' hh=>chs_form (by rw[hR1] at hh;exact hh) hm)))
 have HSL:=Lib.hid (fun (A B:Option Addr) (n c d:Nat) (l:List (Int×Int)) (W:World) (D:Nat) (hn:n≤9223372036854775807) (ha:RowS 2 chC W D A n l) (hb:RowS 2 chC W D B n l)=>(sameList_any A B n c n d W D l l hn ha hb).mono (fun e w' hh=>(by
  rw[decide_eq_true rfl] at hh;exact hh:e=.returned (.bool true)∧Below D W w')))
 have HL:=Lib.hid R1.1
 obtain⟨i0,hi,hz0,hz1,hz2⟩:=info_parts ch_info
 clear hR1 hm R1
 obtain⟨W0,hW0⟩:∃ W0,W0=w.alloc (.cells #[.slice ps.ad ps.nd ps.cd,.slice ps.rs.a0 ps.rs.n0 ps.rs.c0,.slice ps.rs.a1 ps.rs.n1 ps.rs.c1,.slice ps.rs.a2 ps.rs.n2 ps.rs.c2] 29):=⟨_,rfl⟩
 have HX0:Hid (Blk W0 w.heap.size 29 [.slice ps.ad ps.nd ps.cd,.slice ps.rs.a0 ps.rs.n0 ps.rs.c0,.slice ps.rs.a1 ps.rs.n1 ps.rs.c1,.slice ps.rs.a2 ps.rs.n2 ps.rs.c2]):=Lib.hid (by rw[hW0];exact blk_new w _ _)
 have hB0:Below w.heap.size w W0:=by rw[hW0];exact(Below.refl _ w).alloc (Nat.le_refl _) _
 have HQ:=Lib.hid (fun (W:World) (hb:Below W0.heap.size W0 W)=>(by
  have hx:=HX0.out.keep hb;exact⟨hx.cell (i:=0) rfl,hx.cell (i:=1) rfl,hx.cell (i:=2) rfl,hx.cell (i:=3) rfl,hx.lt⟩:W.cell? ⟨w.heap.size,0,none⟩=some (.slice ps.ad ps.nd ps.cd)∧W.cell? ⟨w.heap.size,1,none⟩=some (.slice ps.rs.a0 ps.rs.n0 ps.rs.c0)∧W.cell? ⟨w.heap.size,2,none⟩=some (.slice ps.rs.a1 ps.rs.n1 ps.rs.c1)∧W.cell? ⟨w.heap.size,3,none⟩=some (.slice ps.rs.a2 ps.rs.n2 ps.rs.c2)∧w.heap.size<W.heap.size))
 have HB0:=Lib.hid hB0
 have HS0:=Lib.hid (HSM.out W0 hB0)
 obtain⟨q0,q1,q2,q3,q4⟩:=HQ.out W0 (Below.refl _ _)
 unfold PrbS.val at *
 clear R0 hnl hdl hT hB0 HSM
 generalize hsm:smF ds r 10 40=sm at *
 clear hsm
 go_enter Tryz.func7,Tryz.ntmps7
 go_upto_region 1 with fail
 rw[←hW0]
 clear hW0
 go_wp2_with fail
 refine HS0.out.mono ?_
 rintro e W1 ⟨rfl,hb1⟩
 have HF1:=Lib.hid hb1
 have HB1:=Lib.hid (HB0.out.trans (hb1.mono HB0.out.size))
 clear hb1 q0 q1 q2 q3 q4 HS0
 cases sm with
 | false=>
  go_wp2_with fail
  refine(HKN.out _ HB1.out).mono ?_;rintro e W9 ⟨rfl,hb9⟩;have HB9:=Lib.hid (Below.trans HB1.out (hb9.mono (Below.size HB1.out)));clear hb9
  go_wp2_with fail
  go_ret
  exact⟨rfl,HB9.out⟩
 | true=>
  by_cases j1:(20:Int)<(n:Int)
  ·go_wp2_with fail
   refine(HKN.out _ HB1.out).mono ?_;rintro e W9 ⟨rfl,hb9⟩;have HB9:=Lib.hid (Below.trans HB1.out (hb9.mono (Below.size HB1.out)));clear hb9
   go_wp2_with fail
   go_ret
   exact⟨rfl,HB9.out⟩
  ·obtain⟨hn10,hd60,hp40,hl40,hc40⟩:=HSP.out rfl
   have hd6:∀ d∈ds,d.len≤9223372036854775807:=fun d hd=>by have:=hd60 d hd;omega
   have hn20:n≤20:=by omega
   replace HXE:=Lib.hid (HXE.out hd6 hn20);replace HXR:=Lib.hid (HXR.out hn10 hd60 ⟨hp40,hl40,hc40⟩ hn20);clear hn10 hd60 hp40 hl40 hc40 hd6 HSP;obtain⟨q0,q1,q2,q3,q4⟩:=HQ.out W1 HF1.out
   go_upto_region 4 with (at_builtin;refine wpList_append_rowR rfl _ _ 53 rfl (f:=chC) (by decide) chC_one W1.heap.size 75 i0 (.agg #[.int .i64 0,.int .i64 0]) 16 Tryz.underlying53 hi hz0 hz1 hz2 rfl _ 0 [] rfl (World.ownsRow_nil _ _ _ _) A n c l W1.heap.size rfl (HL.out.keep HB1.out) (by unfold maxLen;omega) (by omega) (Nat.le_refl _) ?_;intro v2 W2 hown hgrow hat;rw[Nat.zero_add,List.nil_append] at hown;obtain⟨A2,c2,rfl,hr2⟩:=own_formS (by decide) hown;have hb2:Below W1.heap.size W1 W2:=(Below.refl _ _).grown hgrow (Nat.le_refl _) (fun g hg=>by cases hg);have HO:=Lib.hid hr2;clear hown hgrow hat hr2)
   have HF2:=Lib.hid (HF1.out.trans (hb2.mono HF1.out.size));have HB2:=Lib.hid (HB1.out.trans (hb2.mono HB1.out.size));clear hb2 q0 q1 q2 q3 q4;obtain⟨q0,q1,q2,q3,q4⟩:=HQ.out W2 HF2.out
   go_wp2_with fail
   refine(HXE.out A2 c2 W2 HB2.out HO.out).mono ?_;rintro e W3 ⟨A3,c3,rfl,hr3,hm3,hb3⟩;have HR3:=Lib.hid hr3;have HM3:=Lib.hid hm3;replace HO:=Lib.hid (HO.out.keep hb3);clear hr3 hm3;have HF3:=Lib.hid (HF2.out.trans (hb3.mono HF2.out.size));have HB3:=Lib.hid (HB2.out.trans (hb3.mono HB2.out.size));clear hb3 q0 q1 q2 q3 q4;obtain⟨q0,q1,q2,q3,q4⟩:=HQ.out W3 HF3.out
   go_wp2_with fail
   refine(HXR.out W3 HB3.out (HL.out.keep HB3.out)).mono ?_;rintro e W4 ⟨A4,c4,rfl,hr4,_,hb4⟩;have HR4:=Lib.hid hr4;replace HR3:=Lib.hid (HR3.out.keep hb4);replace HO:=Lib.hid (HO.out.keep hb4);clear hr4;have HF4:=Lib.hid (HF3.out.trans (hb4.mono HF3.out.size));have HB4:=Lib.hid (HB3.out.trans (hb4.mono HB3.out.size));clear hb4 q0 q1 q2 q3 q4;obtain⟨q0,q1,q2,q3,q4⟩:=HQ.out W4 HF4.out;clear q0 q1 q2 q3 q4
   go_wp2_with fail
   refine(HSL.out A3 A4 m c3 c4 E W4 _ (by have:=HM3.out;unfold maxLen at this;omega) HR3.out HR4.out).mono ?_;rintro e W5 ⟨rfl,hb5⟩;have HB5:=Lib.hid (HB4.out.trans (hb5.mono HB4.out.size));replace HO:=Lib.hid (HO.out.keep hb5);clear hb5
   go_wp2_with fail
   refine(HSL.out A2 A n c2 c l W5 _ (by omega) HO.out (HL.out.keep HB5.out)).mono ?_;rintro e W6 ⟨rfl,hb6⟩;have HB6:=Lib.hid (HB5.out.trans (hb6.mono HB5.out.size));clear hb6
   go_wp2_with fail
   refine(HKN.out _ HB6.out).mono ?_;rintro e W9 ⟨rfl,hb9⟩;have HB9:=Lib.hid (Below.trans HB6.out (hb9.mono (Below.size HB6.out)));clear hb9
   go_wp2_with fail
   go_ret
   exact⟨rfl,HB9.out⟩
theorem reduceExtends_lifted (os:Os) (started:os.Started) (H:Type) (enc:TypeId×Value→H):
  ReturnsInHanded {} Tryz.checked os 7 .any (fun w args=>(Rows.reduceExtendsSpec.pre enc Tryz.prog Tryz.f7 [] false w args∧laidMetH Tryz.prog laid07 w)∧sizedMet enc Tryz.prog Tryz.f7 (OpenSpec.ofChange Rows.reduceExtendsSpec) false w args) (Rows.reduceExtendsSpec.post enc Tryz.prog Tryz.f7 false true false false):=by
 refine handed_laid (C:=Tryz.checked) (laid:=laid07) own started (by kernel_rfl) Tryz.func7
  (ChangeSpec.witness_shaped (enc:=enc) (C:=Tryz.checked) (os:=os) (X:=fun w _=>laidMetH Tryz.prog laid07 w) false (World.laidAll Tryz.prog os laid07) #[.agg #[.slice none 0 0,.slice none 0 0,.slice none 0 0,.slice none 0 0],.slice none 0 0] 8 (World.laidAll_os _ _ _) (World.shaped_of_ZipB (by kernel_rfl) (by kernel_rfl)) (by kernel_rfl) (by kernel_rfl) (by kernel_rfl) (laidHold os _)) ?_
 intro W base args ds gs before hval0 hW hL hsh
 have hTab:=tab_of hL hsh
 have hval:∀(j:Nat) t v,Tryz.f7.params[j]?=some t→args[j]?=some v→Value.okWide Tryz.prog W .any base t v:=hval0
 have hW':=hW
 obtain⟨p,q,hA0,hV,rfl,hfz,hnd⟩:=hW
 have hA:DataW.TrodAll enc Tryz.prog W 0 (fun _=>true) true Tryz.f7.params.toList args.toList ds p:=hA0
 rw[Tryz.params7] at hA hval
 obtain⟨v0,vs0,d0,ds0,p0,q0,hargs,rfl,rfl,h0,r0⟩:=trodAll_cons hA
 obtain⟨v1,vs1,d1,ds1,p1,q1,rfl,rfl,rfl,h1,r1⟩:=trodAll_cons r0
 obtain⟨rfl,rfl,rfl⟩:=trodAll_nil r1
 obtain rfl:args=#[v0,v1]:=by cases args;simp_all
 obtain⟨rfl,rfl⟩:=trodVars_none hV
 have k0:=h0
 have lt0:∀ x∈p0,x.block<W.heap.size:=by obtain⟨m,hm⟩:=k0;exact DataW.trod_lt m _ _ _ hm
 have k1:=h1
 have lt1:∀ x∈p1,x.block<W.heap.size:=by obtain⟨m,hm⟩:=k1;exact DataW.trod_lt m _ _ _ hm
 obtain⟨s0,ds0,x0,rfl,R0⟩:=arg_prb (hval 0 29 _ rfl rfl) h0
 obtain⟨A1,n1,c1,xs1,rfl,R1⟩:=arg_chos (hval 1 53 _ rfl rfl) h1
 clear hA0 hval0
 refine(reduceExtends_walk W hTab s0 ds0 x0 R0 A1 n1 c1 xs1 R1).mono fun e W' ⟨he,bel⟩=>?_
 subst he
 exact⟨_,rfl,_,_,_,[],_,[],hW',trodAll_mk1 (shut_bool Tryz.underlying4 _),(trodAll_cons_mk (Below.trod laidOut (by kernel_rfl) (of_decide_eq_true (by kernel_rfl)) k0 bel lt0) (trodAll_cons_mk (Below.trod laidOut (by kernel_rfl) (of_decide_eq_true (by kernel_rfl)) k1 bel lt1) trodAll_mk0)),rfl,bel.frame _,fun h=>by cases h⟩
theorem reduceExtends_over:Rows.reduceExtendsRow.holds Tryz.pinned (OpenSpec.ofChange Rows.reduceExtendsSpec):=
 OpenClaim.holds_of_wide 7 Tryz.f7 rfl rfl rfl rfl rfl rfl rfl ⟨rfl,rfl,rfl,rfl,rfl⟩ rfl rfl rfl rfl rfl (by kernel_rfl) Tryz.func7 (by kernel_rfl)
  (of_decide_eq_true (by kernel_rfl)) (by unfold Func.isWrapper;first|(rw[if_pos (by decide +kernel)];kernel_rfl) | (rw[if_neg (by decide +kernel)];exact⟨rfl,rfl⟩))
  (fun os started H enc _=>reduceExtends_lifted os started H enc)
theorem reduceExtendsCard_holds:Rows.ReduceExtendsCardSaid:=
 Claim7.holds_tied_plain_at .later [] [.data] true (true, "60866ed61efe1440238383c15dd6059d6e8c591d87e8f8b121f25048c3dbf775") false
  reduceExtends_over (fun _ h=>by cases h) (by kernel_rfl) (fun _ h=>by cases h) reduceExtends_row_tie rfl ⟨rfl,rfl⟩ (by kernel_rfl) rfl
  (fun f fn hf hfn=>by
   obtain rfl : f = 7 := Option.some.inj ((show Tryz.prog.funcNamed "bandplan/bandplanlaw19.ReduceExtends" = some 7 by kernel_rfl).symm.trans hf) |>.symm
   obtain rfl:fn=Tryz.f7:=(Option.some.inj (Tryz.func7.symm.trans hfn)).symm;exact⟨by kernel_rfl,fun j t ht=>by
    rw[Tryz.params7] at ht;rcases j with _ | j
    ·obtain rfl:t=29:=by simpa using ht.symm
     exact(show Tryz.prog.wantsStandIn 29=false by kernel_rfl)
    rcases j with _ | j
    ·obtain rfl:t=53:=by simpa using ht.symm
     exact(show Tryz.prog.wantsStandIn 53=false by kernel_rfl)
    ·simp at ht⟩)
  (by kernel_rfl)
#print axioms reduceExtendsCard_holds
end Go.Proofs.YtjakdikhdndlgaaGreatDoor
