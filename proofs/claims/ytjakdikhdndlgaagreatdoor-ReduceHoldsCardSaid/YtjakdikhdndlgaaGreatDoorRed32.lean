/- REDUCE HOLDS: for every problem and every list of choices,the law ReduceHolds returns true,and the input reads as it did. Conditions: none beyond the card's own. Printed by genlaw19f.py. -/
import Derived.Test.YtjakdikhdndlgaaGreatDoorRed31
set_option maxRecDepth 100000
set_option maxHeartbeats 80000000
namespace Go.Proofs.YtjakdikhdndlgaaGreatDoor
open Go.RowKit Go.Shelf Go.ChangeShapes Go.WideShapes Go.ChangeAt Go.Deep Go.Joins
theorem reduceHolds_walk (w:World) (hT:Tab w) (ps:PrbS) (ds:List Dom) (r:Rul) (R0:PrbAt w w.heap.size ps ds r∧ps.nd≤9223372036854775807) (A:Option Addr) (n c:Nat) (l:List (Int×Int)) (R1:RowS 2 chC w w.heap.size A n l∧n≤9223372036854775807):
  Calls Tryz.prog 8 #[ps.val,.slice A n c] w fun e W'=>e=.returned (.bool true)∧Below w.heap.size w W':=by
 have HSM:=Lib.hid (fun (W:World) (hb:Below w.heap.size w W)=>lsmall_any ps W ds r R0.2 ⟨R0.1.1.keep hb,R0.1.2.keep hb⟩)
 have hnl:ds.length=ps.nd:=R0.1.1.1.1
 have hdl:∀ d∈ds,d.len=d.chs.length:=fun d hd=>(R0.1.1.2 d hd).1.symm
 have HSP:Hid (smF ds r 10 40=true→ps.nd≤10∧(∀ d∈ds,d.len≤60)∧r.pairs.length≤40∧r.loads.length≤40∧r.caps.length≤40):=Lib.hid (fun h=>by
  obtain⟨h1,h2,h3,h4,h5⟩:=smF_spec (by decide) h
  exact⟨by omega,h2,by omega,by omega,by omega⟩)
 have HVA:=Lib.hid (fun (W:World) (hb:Below w.heap.size w W)=>rvalid_any ps W ds r R0.2 ⟨R0.1.1.keep hb,R0.1.2.keep hb⟩)
 rw[←valid_eq hdl] at HVA
 have HKN:=Lib.hid (fun (W:World) (hb:Below w.heap.size w W)=>known_any W (hT.keep hb))
 have HPB:=Lib.hid (fun (W:World) (hb:Below w.heap.size w W)=>(⟨R0.1.1.keep hb,R0.1.2.keep hb⟩:PrbAt W W.heap.size ps ds r))
 have HDL:=Lib.hid hdl
 have HNL:=Eqn.mk hnl
 have HTW:=Lib.hid hT
 have HND:=Lib.hid R0.2
 obtain⟨L2,hL2⟩:∃ L,(peelF (ds.map Dom.say) r).2=L:=⟨_,rfl⟩
 obtain⟨m2,hm2⟩:∃ m,L2.length=m:=⟨_,rfl⟩
 obtain⟨L1,hL1⟩:∃ L,(peelF (ds.map Dom.say) r).1=L:=⟨_,rfl⟩
 obtain⟨m1,hm1⟩:∃ m,L1.length=m:=⟨_,rfl⟩
 obtain⟨P3,hP3⟩:∃ P,compF r (peelF (ds.map Dom.say) r).2=P:=⟨_,rfl⟩
 obtain⟨m3,hm3⟩:∃ m,P3.length=m:=⟨_,rfl⟩
 obtain⟨lc,hlc⟩:∃ x,(l.filter fun x=>hasL L2 x.1)=x:=⟨_,rfl⟩
 obtain⟨nc,hnc⟩:∃ m,lc.length=m:=⟨_,rfl⟩
 obtain⟨E,hE⟩:∃ E,extF (ds.map Dom.say) r lc=E:=⟨_,rfl⟩
 have hEl:E.length=ps.nd:=by rw[←hE,extF_len,hnl]
 have hncn:nc≤n:=by
  have h1:=only_len hlc
  have h2:l.length=n:=R1.1.1
  omega
 have HL:=Lib.hid R1.1
 have HCO:=Lib.hid (fun (hv:validP ds r=true) (hd:∀ d∈ds,d.len≤9223372036854775807) (W:World) (hb:Below w.heap.size w W)=>rcore_yes ps W (HTW.out.keep hb) HND.out hd hv hL2 hm2 (HPB.out W hb))
 have HPE:=Lib.hid (fun (hv:validP ds r=true) (hd:∀ d∈ds,d.len≤9223372036854775807) (W:World) (hb:Below w.heap.size w W)=>rpeel_yes ps W (HTW.out.keep hb) HND.out hd hv hL1 hm1 (HPB.out W hb))
 have HCM:=Lib.hid (fun (hv:validP ds r=true) (hd:∀ d∈ds,d.len≤9223372036854775807) (W:World) (hb:Below w.heap.size w W)=>rcomps_yes ps W (HTW.out.keep hb) HND.out hd hv hP3 hm3 (HPB.out W hb))
 have HVI:=Lib.hid (fun (W:World) (hb:Below w.heap.size w W)=>rvl_any A n c W l R1.2 (R1.1.keep hb))
 have HOC:=Lib.hid (fun (hn:n≤20) (hm:m2≤512) (B:Option Addr) (d:Nat) (W:World) (hb:Below w.heap.size w W) (hB:Row1 intV W W.heap.size B m2 L2)=>only_yes A B n c m2 d W hlc hnc (by omega) (by omega) (HL.out.keep hb) hB)
 have HPT:Hid (validP ds r=true→∀(k:Nat) (p:List Int),P3[k]?=some p→stOk p=true∧mi (stS p) (stS (ds.map Dom.st))=0∧0<p.length∧p.length≤512):=Lib.hid (fun hv k p hp=>part_ok hv (by rw[hP3];exact List.mem_of_getElem? hp))
 have HRS:=Lib.hid (fun (hv:validP ds r=true) (k:Nat) (p:List Int) (hp:P3[k]?=some p) (B:Option Addr) (d:Nat) (W:World) (hb:Below w.heap.size w W) (hB:Row1 intV W W.heap.size B p.length p)=>(by
  obtain⟨h1,h2,_,h3⟩:=HPT.out hv k p hp
  refine(rest_yes ps B p.length d W hv HND.out HDL.out (HPB.out W hb) hB (by omega) h1 h2).mono (fun e w' hh=>?_)
  obtain⟨s,es,rfl,hP,hs,h1,h2,h3⟩:=hh
  exact⟨s,es,resR (stS p) r,rfl,hP,h1,h2,fine_say hs _ _,h3⟩:Calls Tryz.prog 14 #[.agg #[.slice ps.ad ps.nd ps.cd,.slice ps.rs.a0 ps.rs.n0 ps.rs.c0,.slice ps.rs.a1 ps.rs.n1 ps.rs.c1,.slice ps.rs.a2 ps.rs.n2 ps.rs.c2],.slice B p.length d] W (fun e w'=>∃(s:PrbS) (es:List Dom) (q:Rul),e=.returned (.tuple #[.agg #[.slice s.ad s.nd s.cd,.slice s.rs.a0 s.rs.n0 s.rs.c0,.slice s.rs.a1 s.rs.n1 s.rs.c1,.slice s.rs.a2 s.rs.n2 s.rs.c2],.int .i64 0])∧PrbAt w' w'.heap.size s es q∧s.nd≤9223372036854775807∧(∀ d∈es,d.len≤9223372036854775807)∧fineF es q (l.filter fun x=>hasL p x.1)=ptF ds r l p∧Below W.heap.size W w')))
 have HXF0:=Lib.hid (fun (hv:validP ds r=true) (hl0:vlGo none l=true) (hf:fitC ds r lc=false) (hd:∀ d∈ds,d.len≤9223372036854775807) (hn:n≤20) (B:Option Addr) (d:Nat) (W:World) (hb:Below w.heap.size w W) (hB:RowS 2 chC W W.heap.size B nc lc)=>((rextend_any ps B nc d lc W (HTW.out.keep hb) ds r HND.out hd (by omega) (HPB.out W hb) hB).mono (fun e w' hh=>(by
  rw[ext_no hv (hlc ▸ vl_filterB hl0 _) hf] at hh
  exact ext_form hh rfl:∃ A c,e=.returned (.tuple #[.slice A 0 c,.int .i64 10])∧RowS 2 chC w' w'.heap.size A 0 []∧Below W.heap.size W w')):Calls Tryz.prog 25 #[.agg #[.slice ps.ad ps.nd ps.cd,.slice ps.rs.a0 ps.rs.n0 ps.rs.c0,.slice ps.rs.a1 ps.rs.n1 ps.rs.c1,.slice ps.rs.a2 ps.rs.n2 ps.rs.c2],.slice B nc d] W (fun e w'=>∃ A c,e=.returned (.tuple #[.slice A 0 c,.int .i64 10])∧RowS 2 chC w' w'.heap.size A 0 []∧Below W.heap.size W w')))
 have HXF1:=Lib.hid (fun (hv:validP ds r=true) (hl0:vlGo none l=true) (hf:fitC ds r lc=true) (hd:∀ d∈ds,d.len≤9223372036854775807) (hn:n≤20) (B:Option Addr) (d:Nat) (W:World) (hb:Below w.heap.size w W) (hB:RowS 2 chC W W.heap.size B nc lc)=>((rextend_any ps B nc d lc W (HTW.out.keep hb) ds r HND.out hd (by omega) (HPB.out W hb) hB).mono (fun e w' hh=>(by
  rw[(ext_yes hv (hlc ▸ vl_filterB hl0 _) hf).1,hE] at hh
  exact ext_form hh hEl:∃ A c,e=.returned (.tuple #[.slice A ps.nd c,.int .i64 0])∧RowS 2 chC w' w'.heap.size A ps.nd E∧Below W.heap.size W w')):Calls Tryz.prog 25 #[.agg #[.slice ps.ad ps.nd ps.cd,.slice ps.rs.a0 ps.rs.n0 ps.rs.c0,.slice ps.rs.a1 ps.rs.n1 ps.rs.c1,.slice ps.rs.a2 ps.rs.n2 ps.rs.c2],.slice B nc d] W (fun e w'=>∃ A c,e=.returned (.tuple #[.slice A ps.nd c,.int .i64 0])∧RowS 2 chC w' w'.heap.size A ps.nd E∧Below W.heap.size W w')))
 have HEF:Hid (validP ds r=true→vlGo none l=true→fitC ds r lc=true→fineF ds r E=true∧(E.filter fun x=>hasL L2 x.1)=lc):=Lib.hid (fun hv hl0 hf=>by
  have h:=(ext_yes hv (hlc ▸ vl_filterB hl0 _) hf).2
  rw[hE,hL2] at h
  exact h)
 have HFE:=Lib.hid (fun (hd:∀ d∈ds,d.len≤9223372036854775807) (B:Option Addr) (d:Nat) (W:World) (hb:Below w.heap.size w W) (hB:RowS 2 chC W W.heap.size B ps.nd E) (hf:fineF ds r E=true)=>(by
  have h:=rfine_any ps B ps.nd d W ds r E HND.out HND.out hB (HPB.out W hb) hd
  rw[hf] at h
  exact h:Calls Tryz.prog 29 #[.agg #[.slice ps.ad ps.nd ps.cd,.slice ps.rs.a0 ps.rs.n0 ps.rs.c0,.slice ps.rs.a1 ps.rs.n1 ps.rs.c1,.slice ps.rs.a2 ps.rs.n2 ps.rs.c2],.slice B ps.nd d] W (RetPost (.bool true) W.heap.size W)))
 have HOE:=Lib.hid (fun (hn:ps.nd≤10) (hm:m2≤512) (hf:(E.filter fun x=>hasL L2 x.1)=lc) (B C:Option Addr) (b d:Nat) (W:World) (hB:RowS 2 chC W W.heap.size B ps.nd E) (hC:Row1 intV W W.heap.size C m2 L2)=>only_yes B C ps.nd b m2 d W hf hnc (by omega) (by omega) hB hC)
 have HSL:=Lib.hid (fun (A B:Option Addr) (c d:Nat) (W:World) (hn:nc≤20) (ha:RowS 2 chC W W.heap.size A nc lc) (hb:RowS 2 chC W W.heap.size B nc lc)=>(sameList_any A B nc c nc d W W.heap.size lc lc (by omega) ha hb).mono (fun e w' hh=>(by
  rw[decide_eq_true rfl] at hh
  exact hh:e=.returned (.bool true)∧Below W.heap.size W w')))
 have HME:Hid (validP ds r=true→vlGo none l=true→m2+m1=ps.nd∧m2≤512∧m3≤512∧P3.all (ptF ds r l)=fitC ds r lc∧(P3.map List.length).sum=m2):=Lib.hid (fun hv hl0=>by
  have h5:(compF r (peelF (ds.map Dom.say) r).2).length≤(peelF (ds.map Dom.say) r).2.length:=by rw[comp_eq (inc_nodup (core_inc hv)),List.length_map];exact List.length_filter_le _ _
  rw[hP3,hm3,hL2,hm2] at h5
  have h1:=peel_count hv
  have h2:=core_len hv
  have h3:=parts_fit hv hl0
  have h4:=parts_sum hv
  rw[hL1,hL2,hm1,hm2,hnl] at h1
  rw[hL2,hm2] at h2
  rw[hP3,hL2,hlc] at h3
  rw[hP3,hL2,hm2] at h4
  exact⟨h1,h2,by omega,h3,h4⟩)
 have HPL:=Eqn.mk hm3
 clear hL2 hm2 hL1 hm1 hP3 hm3 hlc hnc hE hEl R1
 obtain⟨W0,hW0⟩:∃ W0,W0=w.alloc (.cells #[.slice ps.ad ps.nd ps.cd,.slice ps.rs.a0 ps.rs.n0 ps.rs.c0,.slice ps.rs.a1 ps.rs.n1 ps.rs.c1,.slice ps.rs.a2 ps.rs.n2 ps.rs.c2] 29):=⟨_,rfl⟩
 have HX0:Hid (Blk W0 w.heap.size 29 [.slice ps.ad ps.nd ps.cd,.slice ps.rs.a0 ps.rs.n0 ps.rs.c0,.slice ps.rs.a1 ps.rs.n1 ps.rs.c1,.slice ps.rs.a2 ps.rs.n2 ps.rs.c2]):=Lib.hid (by rw[hW0];exact blk_new w _ _)
 have hB0:Below w.heap.size w W0:=by rw[hW0];exact(Below.refl _ w).alloc (Nat.le_refl _) _
 have HQ:=Lib.hid (fun (W:World) (hb:Below W0.heap.size W0 W)=>(by
  have hx:=HX0.out.keep hb
  exact⟨hx.cell (i:=0) rfl,hx.cell (i:=1) rfl,hx.cell (i:=2) rfl,hx.cell (i:=3) rfl,hx.lt⟩:W.cell? ⟨w.heap.size,0,none⟩=some (.slice ps.ad ps.nd ps.cd)∧W.cell? ⟨w.heap.size,1,none⟩=some (.slice ps.rs.a0 ps.rs.n0 ps.rs.c0)∧W.cell? ⟨w.heap.size,2,none⟩=some (.slice ps.rs.a1 ps.rs.n1 ps.rs.c1)∧W.cell? ⟨w.heap.size,3,none⟩=some (.slice ps.rs.a2 ps.rs.n2 ps.rs.c2)∧w.heap.size<W.heap.size))
 have HB0:=Lib.hid hB0
 have HS0:=Lib.hid (HSM.out W0 hB0)
 obtain⟨q0,q1,q2,q3,q4⟩:=HQ.out W0 (Below.refl _ _)
 unfold PrbS.val at *
 clear R0 hnl hdl hT hB0 HSM
 generalize hsm:smF ds r 10 40=sm at *
 clear hsm
 go_enter Tryz.func8,Tryz.ntmps8
 go_upto_region 1 with fail
 rw[←hW0]
 clear hW0
 go_wp2_with fail
 refine HS0.out.mono ?_
 rintro e W1 ⟨rfl,hb1⟩
 have HF1:=Lib.hid hb1
 have HB1:=Lib.hid (HB0.out.trans (hb1.mono HB0.out.size))
 clear hb1 q0 q1 q2 q3 q4 HS0
 cases sm with
 | false=>
  go_wp2_with fail
  refine(HKN.out _ HB1.out).mono ?_
  rintro e W9 ⟨rfl,hb9⟩
  have HB9:=Lib.hid (Below.trans HB1.out (hb9.mono (Below.size HB1.out)))
  clear hb9
  go_wp2_with fail
  go_ret
  exact⟨rfl,HB9.out⟩
 | true=>
  obtain⟨hn10,hd60,hp40,hl40,hc40⟩:=HSP.out rfl
  have hd6:∀ d∈ds,d.len≤9223372036854775807:=fun d hd=>by have:=hd60 d hd;omega
  replace HCO:=Lib.hid (fun hv=>HCO.out hv hd6)
  replace HPE:=Lib.hid (fun hv=>HPE.out hv hd6)
  replace HCM:=Lib.hid (fun hv=>HCM.out hv hd6)
  replace HXF0:=Lib.hid (fun hv hl0 hf=>HXF0.out hv hl0 hf hd6)
  replace HXF1:=Lib.hid (fun hv hl0 hf=>HXF1.out hv hl0 hf hd6)
  replace HFE:=Lib.hid (HFE.out hd6)
  replace HOE:=Lib.hid (HOE.out hn10)
  have HN10:=Lib.hid hn10
  clear hn10 hd60 hp40 hl40 hc40 hd6 HSP
  by_cases j1:(20:Int)<(n:Int)
  ·go_wp2_with fail
   refine(HKN.out _ HB1.out).mono ?_
   rintro e W9 ⟨rfl,hb9⟩
   have HB9:=Lib.hid (Below.trans HB1.out (hb9.mono (Below.size HB1.out)))
   clear hb9
   go_wp2_with fail
   go_ret
   exact⟨rfl,HB9.out⟩
  ·have hn20:n≤20:=by omega
   have hnc20:nc≤20:=by omega
   obtain⟨q0,q1,q2,q3,q4⟩:=HQ.out W1 HF1.out
   generalize validP ds r=vv at *
   generalize vlGo none l=vl at *
   go_wp2_with fail
   refine(HVA.out W1 HB1.out).mono ?_
   rintro e W2 ⟨rfl,hb2⟩
   have HF2:=Lib.hid (HF1.out.trans (hb2.mono HF1.out.size))
   have HB2:=Lib.hid (HB1.out.trans (hb2.mono HB1.out.size))
   clear hb2 q0 q1 q2 q3 q4
   obtain⟨q0,q1,q2,q3,q4⟩:=HQ.out W2 HF2.out
   cases vv with
   | false=>
    clear q0 q1 q2 q3 q4
    go_wp2_with fail
    refine(HKN.out _ HB2.out).mono ?_
    rintro e W9 ⟨rfl,hb9⟩
    have HB9:=Lib.hid (Below.trans HB2.out (hb9.mono (Below.size HB2.out)))
    clear hb9
    go_wp2_with fail
    go_ret
    exact⟨rfl,HB9.out⟩
   | true=>
    replace HCO:=Lib.hid (HCO.out rfl)
    replace HPE:=Lib.hid (HPE.out rfl)
    replace HCM:=Lib.hid (HCM.out rfl)
    replace HRS:=Lib.hid (HRS.out rfl)
    replace HPT:=Lib.hid (HPT.out rfl)
    replace HME:=Lib.hid (HME.out rfl)
    replace HEF:=Lib.hid (HEF.out rfl)
    replace HXF0:=Lib.hid (fun hl0 hf=>HXF0.out rfl hl0 hf hn20)
    replace HXF1:=Lib.hid (fun hl0 hf=>HXF1.out rfl hl0 hf hn20)
    go_wp2_with fail
    refine(HVI.out W2 HB2.out).mono ?_
    rintro e W3 ⟨rfl,hb3⟩
    have HF3:=Lib.hid (HF2.out.trans (hb3.mono HF2.out.size))
    have HB3:=Lib.hid (HB2.out.trans (hb3.mono HB2.out.size))
    clear hb3 q0 q1 q2 q3 q4
    obtain⟨q0,q1,q2,q3,q4⟩:=HQ.out W3 HF3.out
    cases vl with
    | false=>
     clear q0 q1 q2 q3 q4
     go_wp2_with fail
     refine(HKN.out _ HB3.out).mono ?_
     rintro e W9 ⟨rfl,hb9⟩
     have HB9:=Lib.hid (Below.trans HB3.out (hb9.mono (Below.size HB3.out)))
     clear hb9
     go_wp2_with fail
     go_ret
     exact⟨rfl,HB9.out⟩
    | true=>
     obtain⟨hsum,hm2,hm3,hall,htot⟩:=HME.out rfl
     have HALL:=Eqn.mk hall
     have HTOT:=Eqn.mk htot
     replace HEF:=Lib.hid (HEF.out rfl)
     replace HXF0:=Lib.hid (HXF0.out rfl)
     replace HXF1:=Lib.hid (HXF1.out rfl)
     replace HOC:=Lib.hid (HOC.out hn20 hm2)
     replace HOE:=Lib.hid (HOE.out hm2)
     have HM20:=Lib.hid (And.intro hn20 hm2)
     have HSUM:=Lib.hid hsum
     have HNC:=Lib.hid hnc20
     clear HME hall htot hsum hncn
     go_wp2_with fail
     refine(HCO.out W3 HB3.out).mono ?_
     rintro e W4 ⟨A4,c4,rfl,hr4,hb4⟩
     have HR4:=Lib.hid hr4
     clear hr4 HCO
     have HF4:=Lib.hid (HF3.out.trans (hb4.mono HF3.out.size))
     have HB4:=Lib.hid (HB3.out.trans (hb4.mono HB3.out.size))
     clear hb4 q0 q1 q2 q3 q4
     obtain⟨q0,q1,q2,q3,q4⟩:=HQ.out W4 HF4.out
     go_wp2_with fail
     refine(HCM.out W4 HB4.out).mono ?_
     rintro e W5 ⟨A5,c5,cs,rfl,hcs,hP⟩
     have hb5:=hP.below
     replace HR4:=Lib.hid (HR4.out.keep hb5)
     have HP5:=Lib.hid hP
     have HCS:=Eqn.mk hcs
     clear hcs hP HCM
     have HF5:=Lib.hid (HF4.out.trans (hb5.mono HF4.out.size))
     have HB5:=Lib.hid (HB4.out.trans (hb5.mono HB4.out.size))
     clear hb5 q0 q1 q2 q3 q4
     obtain⟨q0,q1,q2,q3,q4⟩:=HQ.out W5 HF5.out
     go_wp2_with fail
     refine(HPE.out W5 HB5.out).mono ?_
     rintro e W6 ⟨A6,c6,rfl,_,hb6⟩
     replace HR4:=Lib.hid (HR4.out.keep hb6)
     have HP6:=Lib.hid (HP5.out.keep hb6)
     clear HPE HP5
     have HF6:=Lib.hid (HF5.out.trans (hb6.mono HF5.out.size))
     have HB6:=Lib.hid (HB5.out.trans (hb6.mono HB5.out.size))
     clear hb6 q0 q1 q2 q3 q4
     obtain⟨q0,q1,q2,q3,q4⟩:=HQ.out W6 HF6.out
     have e1:IntKind.i64.wrap ((m2:Int)+(m1:Int))=(ps.nd:Int):=by rw[IntWalk.i64_in _ (by have:=HSUM.out;have:=HN10.out;omega)];have:=HSUM.out;omega
     go_wp2_with fail
     clear e1 q0 q1 q2 q3 q4
     go_loopw [11,12,13] (fun fv mv kv wr=>∃(F:Bool) (M k:Nat),fv=.bool F∧mv=.int .i64 M∧kv=.int .i64 k∧k≤m3∧Eqn F ((P3.take k).all (ptF ds r l))∧Eqn M ((P3.take k).map List.length).sum∧Below W6.heap.size W6 wr) (fun _ _ kv _=>m3 - (intOf kv).toNat)
     case atStart=>exact⟨true,0,0,rfl,rfl,rfl,Nat.zero_le _,rfl,rfl,Below.refl _ _⟩
     case round=>
      obtain⟨F,M,k,rfl,rfl,rfl,hk,hF,hM,hbk⟩:=hrel
      have HBK:=Lib.hid hbk
      by_cases hkl:k<m3
      ·have j2:(k:Int)<(m3:Int):=by omega
       obtain⟨⟨⟨aA,an,ac⟩,p⟩,ha⟩:∃ x,cs[k]?=some x:=⟨_,List.getElem?_eq_getElem (by have h1:=HCS.out;have h2:=HPL.out;rw[←h1,List.length_map] at h2;omega)⟩
       obtain⟨g1,d1,f1,_,_,_⟩:=HP6.out.at 0 k rfl (show (cs.map fun x=>sv x.1)[k]?=some (.slice aA an ac) by rw[List.getElem?_map,ha];rfl)
       injection f1 with f1 _ f1c
       subst f1 f1c
       have HRW:=Lib.hid (fun (W:World) (hb:Below W6.heap.size W6 W)=>rowsH_at (HP6.out.keep hb))
       obtain⟨rfl,_,_⟩:=HRW.out _ (Below.refl _ _) k _ _ _ _ ha
       have hPp:P3[k]?=some p:=by rw[←HCS.out,List.getElem?_map,ha];rfl
       obtain⟨_,_,hp0,hp5⟩:=HPT.out k p hPp
       have HAT:=Lib.hid (fun (W:World) (hb:Below W6.heap.size W6 W)=>(HRW.out W hb k _ _ _ _ ha).2)
       have HRX:=Lib.hid (fun (W:World) (hb:Below W6.heap.size W6 W)=>HRS.out k p hPp aA ac W (HB6.out.trans (hb.mono HB6.out.size)) (HAT.out W hb).2)
       have HCC:=Lib.hid (fun (X:World) (hb:Below W6.heap.size W6 X)=>(by
        obtain⟨h0,h1,h2,h3,_⟩:=HQ.out X (HF6.out.trans (hb.mono HF6.out.size))
        exact⟨h0,h1,h2,h3,(HAT.out X hb).1⟩:X.cell? ⟨w.heap.size,0,none⟩=some (.slice ps.ad ps.nd ps.cd)∧X.cell? ⟨w.heap.size,1,none⟩=some (.slice ps.rs.a0 ps.rs.n0 ps.rs.c0)∧X.cell? ⟨w.heap.size,2,none⟩=some (.slice ps.rs.a1 ps.rs.n1 ps.rs.c1)∧X.cell? ⟨w.heap.size,3,none⟩=some (.slice ps.rs.a2 ps.rs.n2 ps.rs.c2)∧X.cell? ⟨g1,k,none⟩=some (.slice aA p.length ac)))
       have hMb:M≤512:=by
        have h1:=sum_take P3 k
        have h2:=HTOT.out
        have h3:=hM.out
        have h4:=HM20.out.2
        omega
       have HMN:Hid (Eqn (M+p.length) ((P3.take (k+1)).map List.length).sum):=Lib.hid (by rw[Eqn,take_sumH hPp,hM.out])
       obtain⟨pb,hpb⟩:∃ b,ptF ds r l p=b:=⟨_,rfl⟩
       have HFN:Hid (Eqn (F&&pb) ((P3.take (k+1)).all (ptF ds r l))):=Lib.hid (by rw[Eqn,take_allH hPp,hF.out,hpb])
       obtain⟨lf,hlf⟩:∃ x,(l.filter fun x=>hasL p x.1)=x:=⟨_,rfl⟩
       obtain⟨nf,hnf⟩:∃ m,lf.length=m:=⟨_,rfl⟩
       have hnfn:nf≤n:=by
        have h1:=only_len hlf
        have h2:l.length=n:=HL.out.1
        omega
       have HON:=Lib.hid (fun (W:World) (hb:Below W6.heap.size W6 W)=>only_yes A aA n c p.length ac W hlf hnf (by have:=HM20.out.1;omega) (by omega) (HL.out.keep (HB6.out.trans (hb.mono HB6.out.size))) (HAT.out W hb).2)
       rw[hlf,hpb] at HRX
       have HDR:Hid (Below W6.heap.size W6 wr.drew):=Lib.hid hbk.drew
       have HDA:Hid (Below W6.heap.size W6 (wr.alloc (.cells #[.slice none 0 0,.slice none 0 0,.slice none 0 0,.slice none 0 0] 29)).drew):=Lib.hid (hbk.alloc hbk.size _).drew
       have hg:=hbk.size
       have HGW:Hid (W6.heap.size≤wr.heap.size):=Lib.hid hg
       have HNF:=Lib.hid hnfn
       have HP05:=Lib.hid (And.intro hp0 hp5)
       have HMB:=Lib.hid hMb
       clear ha hPp hF hM hbk hlf hnf hpb hg hnfn hp0 hp5 hMb
       go_upto_region 12 with fail
       refine Lx.regionA (C:=fun X=>X.cell? ⟨w.heap.size,0,none⟩=some (.slice ps.ad ps.nd ps.cd)∧X.cell? ⟨w.heap.size,1,none⟩=some (.slice ps.rs.a0 ps.rs.n0 ps.rs.c0)∧X.cell? ⟨w.heap.size,2,none⟩=some (.slice ps.rs.a1 ps.rs.n1 ps.rs.c1)∧X.cell? ⟨w.heap.size,3,none⟩=some (.slice ps.rs.a2 ps.rs.n2 ps.rs.c2)∧X.cell? ⟨g1,k,none⟩=some (.slice aA p.length ac)) (hs:=[0,4]) (.op 0 (.op 1 (.op 2 (.op 3 (.op 4 (.alt (.op 5 (.op 6 (.op 7 (.op 8 (.op 9 (.op 10 (.op 11 .done))))))) (.op 9 (.op 5 (.op 6 (.op 7 (.op 8 (.op 10 (.op 11 .done))))))))))))) (by kernel_rfl) (by kernel_rfl) (HCC.out _ HDR.out) ?_
       dsimp only[Lx.numbT,List.getElem?_cons_zero,List.getElem?_cons_succ]
       repeat' (first|((first|refine Lx.qn (fun K hK=>?_) | (first|(refine Lx.qp (v:=?_) ?_ (fun K hK=>?_);rotate_left 1;intro w' hCw;try dsimp only at hCw) | (refine Lx.qr (v:=?_) ?_ (fun K hK=>?_);rotate_left 1));go_simp;first|done | with_reducible rfl);go_simp;refine hK _ ?_;clear hK K) | (refine Lx.qe (fun K hK=>?_);go_simp;(first|fail | skip);refine hK _ _ (by first|exact HCC.out _ hbs4 | exact HCC.out _ hbb2) ?_;clear hK K))
       refine Lx.lexO_alt ?_ ?_
       ·skip
        repeat' (first|((first|refine Lx.qn (fun K hK=>?_) | (first|(refine Lx.qp (v:=?_) ?_ (fun K hK=>?_);rotate_left 1;intro w' hCw;try dsimp only at hCw) | (refine Lx.qr (v:=?_) ?_ (fun K hK=>?_);rotate_left 1));go_simp;first|done | with_reducible rfl);go_simp;refine hK _ ?_;clear hK K) | (refine Lx.qe (fun K hK=>?_);go_simp;(first|(go_at_call 14;refine(HRX.out _ HDR.out).mono ?_;rintro e Wb ⟨sq,es,q,rfl,hat,hnq,hdq,hfq,hbb⟩;have hbb2:Below W6.heap.size W6 Wb:=HDR.out.trans (hbb.mono HDR.out.size);have hbs2:Below W6.heap.size W6 (Wb.alloc (.cells #[.slice none 0 0,.slice none 0 0,.slice none 0 0,.slice none 0 0] 29)):=hbb2.alloc hbb2.size _;have hbs4:Below W6.heap.size W6 (Wb.alloc (.cells #[.slice sq.ad sq.nd sq.cd,.slice sq.rs.a0 sq.rs.n0 sq.rs.c0,.slice sq.rs.a1 sq.rs.n1 sq.rs.c1,.slice sq.rs.a2 sq.rs.n2 sq.rs.c2] 29)):=hbb2.alloc hbb2.size _) | skip | skip);refine hK _ _ (by first|exact HCC.out _ hbs4 | exact HCC.out _ hbs2 | exact HCC.out _ hbb2) ?_;clear hK K))
        all_goals (refine Lx.lexO_done ?_)
        obtain⟨V,hV⟩:∃ V,V=Wb.alloc (.cells #[.slice sq.ad sq.nd sq.cd,.slice sq.rs.a0 sq.rs.n0 sq.rs.c0,.slice sq.rs.a1 sq.rs.n1 sq.rs.c1,.slice sq.rs.a2 sq.rs.n2 sq.rs.c2] 29):=⟨_,rfl⟩
        have hX:Blk V Wb.heap.size 29 [.slice sq.ad sq.nd sq.cd,.slice sq.rs.a0 sq.rs.n0 sq.rs.c0,.slice sq.rs.a1 sq.rs.n1 sq.rs.c1,.slice sq.rs.a2 sq.rs.n2 sq.rs.c2]:=by rw[hV];exact blk_new Wb _ _
        have hbV:Below Wb.heap.size Wb V:=by rw[hV];exact(Below.refl _ Wb).alloc (Nat.le_refl _) _
        have hPV:PrbAt V V.heap.size sq es q:=⟨hat.1.keep hbV,hat.2.keep hbV⟩
        have HBV:Hid (Below W6.heap.size W6 V):=Lib.hid (hbb2.trans (hbV.mono hbb2.size))
        clear hbs2 hbs4 hbb2 hbb hat hbV
        have HXQ:=Lib.hid (fun (X:World) (hb:Below V.heap.size V X)=>(by
         have hx:=hX.keep hb
         exact⟨hx.cell (i:=0) rfl,hx.cell (i:=1) rfl,hx.cell (i:=2) rfl,hx.cell (i:=3) rfl⟩:X.cell? ⟨Wb.heap.size,0,none⟩=some (.slice sq.ad sq.nd sq.cd)∧X.cell? ⟨Wb.heap.size,1,none⟩=some (.slice sq.rs.a0 sq.rs.n0 sq.rs.c0)∧X.cell? ⟨Wb.heap.size,2,none⟩=some (.slice sq.rs.a1 sq.rs.n1 sq.rs.c1)∧X.cell? ⟨Wb.heap.size,3,none⟩=some (.slice sq.rs.a2 sq.rs.n2 sq.rs.c2)))
        have HFQ:=Lib.hid (fun (B:Option Addr) (d:Nat) (X:World) (hb:Below V.heap.size V X) (hB:RowS 2 chC X X.heap.size B nf lf)=>(by
         have h:=rfine_any sq B nf d X es q lf (by have:=HNF.out;have:=HM20.out.1;omega) hnq hB ⟨hPV.1.keep hb,hPV.2.keep hb⟩ hdq
         rw[hfq] at h
         exact h:Calls Tryz.prog 29 #[.agg #[.slice sq.ad sq.nd sq.cd,.slice sq.rs.a0 sq.rs.n0 sq.rs.c0,.slice sq.rs.a1 sq.rs.n1 sq.rs.c1,.slice sq.rs.a2 sq.rs.n2 sq.rs.c2],.slice B nf d] X (RetPost (.bool pb) X.heap.size X)))
        have y1:=(HAT.out V HBV.out).1
        have HDV:Hid (Below V.heap.size V V.drew):=Lib.hid (Below.refl _ _).drew
        have HBD:Hid (Below W6.heap.size W6 V.drew):=Lib.hid HBV.out.drew
        clear hX hPV hnq hdq hfq
        go_upto_region 13 with fail
        rw[←hV]
        clear hV
        have e3:((p.length:Int) == 0)=false:=by have:=HP05.out.1;rw[beq_eq_false_iff_ne];omega
        have e4:¬(p.length:Int)=0:=by have:=HP05.out.1;omega
        have e7:p.length≠0:=by have:=HP05.out.1;omega
        have e5:IntKind.i64.wrap ((M:Int)+(p.length:Int))=((M+p.length:Nat):Int):=by rw[IntWalk.i64_in _ (by have:=HMB.out;have:=HP05.out.2;omega)];omega
        go_upto_region 16 with fail
        clear e3 e4 e5 e7
        cases F with
        | false=>
         refine Lx.region (C:=fun _=>True) (hs:=[2]) (by kernel_rfl) (by kernel_rfl) trivial ?_
         repeat' (first|((first|refine Lx.ln (fun K hK=>?_) | (first|(refine Lx.lp (v:=?_) ?_ (fun K hK=>?_);rotate_left 1;intro w' hCw;try dsimp only at hCw) | (refine Lx.lr (v:=?_) ?_ (fun K hK=>?_);rotate_left 1));go_simp;first|done | with_reducible rfl);go_simp;refine hK _ ?_;clear hK K) | (refine Lx.le (fun K hK=>?_);go_simp;(first|fail);refine hK _ _ (trivial) ?_;clear hK K))
         all_goals (refine Lx.lex_nil ?_)
         clear y1
         go_wp2_with fail
         go_roundw
         case rel=>exact⟨false,M+p.length,k+1,rfl,rfl,by go_num,hkl,HFN.out,HMN.out,HBD.out⟩
         case measure=>simp[intOf];omega
        | true=>
         refine Lx.region (C:=fun X=>X.cell? ⟨Wb.heap.size,0,none⟩=some (.slice sq.ad sq.nd sq.cd)∧X.cell? ⟨Wb.heap.size,1,none⟩=some (.slice sq.rs.a0 sq.rs.n0 sq.rs.c0)∧X.cell? ⟨Wb.heap.size,2,none⟩=some (.slice sq.rs.a1 sq.rs.n1 sq.rs.c1)∧X.cell? ⟨Wb.heap.size,3,none⟩=some (.slice sq.rs.a2 sq.rs.n2 sq.rs.c2)) (hs:=[2]) (by kernel_rfl) (by kernel_rfl) (HXQ.out _ HDV.out) ?_
         repeat' (first|((first|refine Lx.ln (fun K hK=>?_) | (first|(refine Lx.lp (v:=?_) ?_ (fun K hK=>?_);rotate_left 1;intro w' hCw;try dsimp only at hCw) | (refine Lx.lr (v:=?_) ?_ (fun K hK=>?_);rotate_left 1));go_simp;first|done | with_reducible rfl);go_simp;refine hK _ ?_;clear hK K) | (refine Lx.le (fun K hK=>?_);go_simp;(first|(go_at_call 30;refine(HON.out _ HBD.out).mono ?_;rintro e Wc ⟨Ao,co,rfl,hro,hbo⟩;have HRO:=Lib.hid hro;have HBC:=Lib.hid (HDV.out.trans (hbo.mono HDV.out.size));clear hro hbo) | (go_at_call 29;refine(HFQ.out Ao co Wc HBC.out HRO.out).mono ?_;rintro e Wd ⟨rfl,hbf⟩;have HBE:=Lib.hid (HBC.out.trans (hbf.mono HBC.out.size));clear hbf));refine hK _ _ (by first|exact HXQ.out _ HBE.out | exact HXQ.out _ HBC.out) ?_;clear hK K))
         all_goals (refine Lx.lex_nil ?_)
         clear y1
         go_wp2_with fail
         go_roundw
         case rel=>exact⟨pb,M+p.length,k+1,rfl,rfl,by go_num,hkl,HFN.out,HMN.out,HBV.out.trans (HBE.out.mono HBV.out.size)⟩
         case measure=>simp[intOf];omega
       ·skip
        repeat' (first|((first|refine Lx.qn (fun K hK=>?_) | (first|(refine Lx.qp (v:=?_) ?_ (fun K hK=>?_);rotate_left 1;intro w' hCw;try dsimp only at hCw) | (refine Lx.qr (v:=?_) ?_ (fun K hK=>?_);rotate_left 1));go_simp;first|done | with_reducible rfl);go_simp;refine hK _ ?_;clear hK K) | (refine Lx.qe (fun K hK=>?_);go_simp;(first|(go_at_call 14;refine(HRX.out _ HDA.out).mono ?_;rintro e Wb ⟨sq,es,q,rfl,hat,hnq,hdq,hfq,hbb⟩;have hbb2:Below W6.heap.size W6 Wb:=HDA.out.trans (hbb.mono HDA.out.size);have hblk:Blk Wb wr.heap.size 29 [.slice none 0 0,.slice none 0 0,.slice none 0 0,.slice none 0 0]:=Blk.keep (w:=(wr.alloc (.cells #[.slice none 0 0,.slice none 0 0,.slice none 0 0,.slice none 0 0] 29)).drew) (blk_new wr _ _) hbb;have HST4:=Lib.hid (prb_store hat hblk hbb2 HGW.out);have hbs4:=HST4.out.2.2;have f0:=hblk.cell (i:=0) rfl;have f1:=hblk.cell (i:=1) rfl;have f2:=hblk.cell (i:=2) rfl;have f3:=hblk.cell (i:=3) rfl;have f4:=hblk.lt;have f5:∀ o,Wb.frozen? ⟨wr.heap.size,o,none⟩=false:=hblk.frozen) | skip | skip);refine hK _ _ (by first|exact HCC.out _ hbs4 | exact HCC.out _ hbb2 | exact HCC.out _ HDA.out) ?_;clear hK K))
        all_goals (refine Lx.lexO_done ?_)
        obtain⟨V,hV⟩:∃ V,V=((((Wb.setCell ⟨wr.heap.size,0,none⟩ (.slice sq.ad sq.nd sq.cd)).setCell ⟨wr.heap.size,1,none⟩ (.slice sq.rs.a0 sq.rs.n0 sq.rs.c0)).setCell ⟨wr.heap.size,2,none⟩ (.slice sq.rs.a1 sq.rs.n1 sq.rs.c1)).setCell ⟨wr.heap.size,3,none⟩ (.slice sq.rs.a2 sq.rs.n2 sq.rs.c2)):=⟨_,rfl⟩
        have hst:=HST4.out
        rw[←hV] at hst
        have hX:Blk V wr.heap.size 29 [.slice sq.ad sq.nd sq.cd,.slice sq.rs.a0 sq.rs.n0 sq.rs.c0,.slice sq.rs.a1 sq.rs.n1 sq.rs.c1,.slice sq.rs.a2 sq.rs.n2 sq.rs.c2]:=hst.1
        have hsz:Wb.heap.size≤V.heap.size:=by rw[hV];simp
        have hPV:PrbAt V V.heap.size sq es q:=⟨hst.2.1.1.up hsz,hst.2.1.2.up hsz⟩
        have HBV:Hid (Below W6.heap.size W6 V):=Lib.hid hst.2.2
        clear hbs4 hbb2 hbb hat hblk HST4 hst hsz f0 f1 f2 f3 f4 f5
        have HXQ:=Lib.hid (fun (X:World) (hb:Below V.heap.size V X)=>(by
         have hx:=hX.keep hb
         exact⟨hx.cell (i:=0) rfl,hx.cell (i:=1) rfl,hx.cell (i:=2) rfl,hx.cell (i:=3) rfl⟩:X.cell? ⟨wr.heap.size,0,none⟩=some (.slice sq.ad sq.nd sq.cd)∧X.cell? ⟨wr.heap.size,1,none⟩=some (.slice sq.rs.a0 sq.rs.n0 sq.rs.c0)∧X.cell? ⟨wr.heap.size,2,none⟩=some (.slice sq.rs.a1 sq.rs.n1 sq.rs.c1)∧X.cell? ⟨wr.heap.size,3,none⟩=some (.slice sq.rs.a2 sq.rs.n2 sq.rs.c2)))
        have HFQ:=Lib.hid (fun (B:Option Addr) (d:Nat) (X:World) (hb:Below V.heap.size V X) (hB:RowS 2 chC X X.heap.size B nf lf)=>(by
         have h:=rfine_any sq B nf d X es q lf (by have:=HNF.out;have:=HM20.out.1;omega) hnq hB ⟨hPV.1.keep hb,hPV.2.keep hb⟩ hdq
         rw[hfq] at h
         exact h:Calls Tryz.prog 29 #[.agg #[.slice sq.ad sq.nd sq.cd,.slice sq.rs.a0 sq.rs.n0 sq.rs.c0,.slice sq.rs.a1 sq.rs.n1 sq.rs.c1,.slice sq.rs.a2 sq.rs.n2 sq.rs.c2],.slice B nf d] X (RetPost (.bool pb) X.heap.size X)))
        have y1:=(HAT.out V HBV.out).1
        have HDV:Hid (Below V.heap.size V V.drew):=Lib.hid (Below.refl _ _).drew
        have HBD:Hid (Below W6.heap.size W6 V.drew):=Lib.hid HBV.out.drew
        clear hX hPV hnq hdq hfq
        go_upto_region 13 with fail
        rw[←hV]
        clear hV
        have e3:((p.length:Int) == 0)=false:=by have:=HP05.out.1;rw[beq_eq_false_iff_ne];omega
        have e4:¬(p.length:Int)=0:=by have:=HP05.out.1;omega
        have e7:p.length≠0:=by have:=HP05.out.1;omega
        have e5:IntKind.i64.wrap ((M:Int)+(p.length:Int))=((M+p.length:Nat):Int):=by rw[IntWalk.i64_in _ (by have:=HMB.out;have:=HP05.out.2;omega)];omega
        go_upto_region 16 with fail
        clear e3 e4 e5 e7
        cases F with
        | false=>
         refine Lx.region (C:=fun _=>True) (hs:=[2]) (by kernel_rfl) (by kernel_rfl) trivial ?_
         repeat' (first|((first|refine Lx.ln (fun K hK=>?_) | (first|(refine Lx.lp (v:=?_) ?_ (fun K hK=>?_);rotate_left 1;intro w' hCw;try dsimp only at hCw) | (refine Lx.lr (v:=?_) ?_ (fun K hK=>?_);rotate_left 1));go_simp;first|done | with_reducible rfl);go_simp;refine hK _ ?_;clear hK K) | (refine Lx.le (fun K hK=>?_);go_simp;(first|fail);refine hK _ _ (trivial) ?_;clear hK K))
         all_goals (refine Lx.lex_nil ?_)
         clear y1
         go_wp2_with fail
         go_roundw
         case rel=>exact⟨false,M+p.length,k+1,rfl,rfl,by go_num,hkl,HFN.out,HMN.out,HBD.out⟩
         case measure=>simp[intOf];omega
        | true=>
         refine Lx.region (C:=fun X=>X.cell? ⟨wr.heap.size,0,none⟩=some (.slice sq.ad sq.nd sq.cd)∧X.cell? ⟨wr.heap.size,1,none⟩=some (.slice sq.rs.a0 sq.rs.n0 sq.rs.c0)∧X.cell? ⟨wr.heap.size,2,none⟩=some (.slice sq.rs.a1 sq.rs.n1 sq.rs.c1)∧X.cell? ⟨wr.heap.size,3,none⟩=some (.slice sq.rs.a2 sq.rs.n2 sq.rs.c2)) (hs:=[2]) (by kernel_rfl) (by kernel_rfl) (HXQ.out _ HDV.out) ?_
         repeat' (first|((first|refine Lx.ln (fun K hK=>?_) | (first|(refine Lx.lp (v:=?_) ?_ (fun K hK=>?_);rotate_left 1;intro w' hCw;try dsimp only at hCw) | (refine Lx.lr (v:=?_) ?_ (fun K hK=>?_);rotate_left 1));go_simp;first|done | with_reducible rfl);go_simp;refine hK _ ?_;clear hK K) | (refine Lx.le (fun K hK=>?_);go_simp;(first|(go_at_call 30;refine(HON.out _ HBD.out).mono ?_;rintro e Wc ⟨Ao,co,rfl,hro,hbo⟩;have HRO:=Lib.hid hro;have HBC:=Lib.hid (HDV.out.trans (hbo.mono HDV.out.size));clear hro hbo) | (go_at_call 29;refine(HFQ.out Ao co Wc HBC.out HRO.out).mono ?_;rintro e Wd ⟨rfl,hbf⟩;have HBE:=Lib.hid (HBC.out.trans (hbf.mono HBC.out.size));clear hbf));refine hK _ _ (by first|exact HXQ.out _ HBE.out | exact HXQ.out _ HBC.out) ?_;clear hK K))
         all_goals (refine Lx.lex_nil ?_)
         clear y1
         go_wp2_with fail
         go_roundw
         case rel=>exact⟨pb,M+p.length,k+1,rfl,rfl,by go_num,hkl,HFN.out,HMN.out,HBV.out.trans (HBE.out.mono HBV.out.size)⟩
         case measure=>simp[intOf];omega
      ·obtain rfl:k=m3:=by omega
       have j2:¬((k:Nat):Int)<(k:Int):=by omega
       have hT:P3.take k=P3:=List.take_of_length_le (by rw[HPL.out];exact Nat.le_refl _)
       obtain rfl:M=m2:=by have h1:=hM.out;have h2:=HTOT.out;rw[hT] at h1;omega
       have HFT:Hid (Eqn (fitC ds r lc) F):=Lib.hid (by have h1:=hF.out;rw[hT] at h1;rw[Eqn,h1,←HALL.out])
       have HB7:=Lib.hid (HB6.out.trans (hbk.mono HB6.out.size))
       have HF7:=Lib.hid (HF6.out.trans (hbk.mono HF6.out.size))
       replace HR4:=Lib.hid (HR4.out.keep hbk)
       have e2:((M:Int) != (M:Int))=false:=by simp
       clear hF hM hT hbk HBK
       go_wp2_with fail
       refine(HOC.out A4 c4 wr HB7.out HR4.out).mono ?_
       rintro e W8 ⟨A8,c8,rfl,hr8,hb8⟩
       have HR8:=Lib.hid hr8
       replace HR4:=Lib.hid (HR4.out.keep hb8)
       have HF8:=Lib.hid (HF7.out.trans (hb8.mono HF7.out.size))
       have HB8:=Lib.hid (HB7.out.trans (hb8.mono HB7.out.size))
       clear hr8 hb8 e2
       obtain⟨q0,q1,q2,q3,q4⟩:=HQ.out W8 HF8.out
       cases F with
       | false=>
        go_wp2_with fail
        refine(HXF0.out HFT.out A8 c8 W8 HB8.out HR8.out).mono ?_
        rintro e W9 ⟨A9,c9,rfl,_,hb9⟩
        have HB9:=Lib.hid (HB8.out.trans (hb9.mono HB8.out.size))
        clear hb9 q0 q1 q2 q3 q4
        go_wp2_with fail
        refine(HKN.out _ HB9.out).mono ?_
        rintro e W10 ⟨rfl,hb10⟩
        have HB10:=Lib.hid (Below.trans HB9.out (hb10.mono (Below.size HB9.out)))
        clear hb10
        go_wp2_with fail
        go_ret
        exact⟨rfl,HB10.out⟩
       | true=>
        obtain⟨hfe,hoe⟩:=HEF.out HFT.out
        replace HOE:=Lib.hid (HOE.out hoe)
        replace HFE:=Lib.hid (fun B d W hb hB=>HFE.out B d W hb hB hfe)
        clear hfe hoe
        go_wp2_with fail
        refine(HXF1.out HFT.out A8 c8 W8 HB8.out HR8.out).mono ?_
        rintro e W9 ⟨A9,c9,rfl,hr9,hb9⟩
        have HR9:=Lib.hid hr9
        replace HR4:=Lib.hid (HR4.out.keep hb9)
        replace HR8:=Lib.hid (HR8.out.keep hb9)
        clear hr9
        have HF9:=Lib.hid (HF8.out.trans (hb9.mono HF8.out.size))
        have HB9:=Lib.hid (HB8.out.trans (hb9.mono HB8.out.size))
        clear hb9 q0 q1 q2 q3 q4
        obtain⟨q0,q1,q2,q3,q4⟩:=HQ.out W9 HF9.out
        go_wp2_with fail
        refine(HFE.out A9 c9 W9 HB9.out HR9.out).mono ?_
        rintro e W10 ⟨rfl,hb10⟩
        replace HR4:=Lib.hid (HR4.out.keep hb10)
        replace HR8:=Lib.hid (HR8.out.keep hb10)
        replace HR9:=Lib.hid (HR9.out.keep hb10)
        have HF10:=Lib.hid (HF9.out.trans (hb10.mono HF9.out.size))
        have HB10:=Lib.hid (HB9.out.trans (hb10.mono HB9.out.size))
        clear hb10 q0 q1 q2 q3 q4
        obtain⟨q0,q1,q2,q3,q4⟩:=HQ.out W10 HF10.out
        clear q0 q1 q2 q3 q4
        go_wp2_with fail
        refine(HOE.out A9 A4 c9 c4 W10 HR9.out HR4.out).mono ?_
        rintro e W11 ⟨A11,c11,rfl,hr11,hb11⟩
        have HR11:=Lib.hid hr11
        replace HR8:=Lib.hid (HR8.out.keep hb11)
        have HB11:=Lib.hid (HB10.out.trans (hb11.mono HB10.out.size))
        clear hr11 hb11
        go_wp2_with fail
        refine(HSL.out A11 A8 c11 c8 W11 HNC.out HR11.out HR8.out).mono ?_
        rintro e W12 ⟨rfl,hb12⟩
        have HB12:=Lib.hid (HB11.out.trans (hb12.mono HB11.out.size))
        clear hb12
        go_wp2_with fail
        refine(HKN.out _ HB12.out).mono ?_
        rintro e W13 ⟨rfl,hb13⟩
        have HB13:=Lib.hid (Below.trans HB12.out (hb13.mono (Below.size HB12.out)))
        clear hb13
        go_wp2_with fail
        go_ret
        exact⟨rfl,HB13.out⟩
theorem reduceHolds_lifted (os:Os) (started:os.Started) (H:Type) (enc:TypeId×Value→H):
  ReturnsInHanded {} Tryz.checked os 8 .any (fun w args=>(Rows.reduceHoldsSpec.pre enc Tryz.prog Tryz.f8 [] false w args∧laidMetH Tryz.prog laid07 w)∧sizedMet enc Tryz.prog Tryz.f8 (OpenSpec.ofChange Rows.reduceHoldsSpec) false w args) (Rows.reduceHoldsSpec.post enc Tryz.prog Tryz.f8 false true false false):=by
 refine handed_laid (C:=Tryz.checked) (laid:=laid07) own started (by kernel_rfl) Tryz.func8
  (ChangeSpec.witness_shaped (enc:=enc) (C:=Tryz.checked) (os:=os) (X:=fun w _=>laidMetH Tryz.prog laid07 w) false (World.laidAll Tryz.prog os laid07) #[.agg #[.slice none 0 0,.slice none 0 0,.slice none 0 0,.slice none 0 0],.slice none 0 0] 8 (World.laidAll_os _ _ _) (World.shaped_of_ZipB (by kernel_rfl) (by kernel_rfl)) (by kernel_rfl) (by kernel_rfl) (by kernel_rfl) (laidHold os _)) ?_
 intro W base args ds gs before hval0 hW hL hsh
 have hTab:=tab_of hL hsh
 have hval:∀(j:Nat) t v,Tryz.f8.params[j]?=some t→args[j]?=some v→Value.okWide Tryz.prog W .any base t v:=hval0
 have hW':=hW
 obtain⟨p,q,hA0,hV,rfl,hfz,hnd⟩:=hW
 have hA:DataW.TrodAll enc Tryz.prog W 0 (fun _=>true) true Tryz.f8.params.toList args.toList ds p:=hA0
 rw[Tryz.params8] at hA hval
 obtain⟨v0,vs0,d0,ds0,p0,q0,hargs,rfl,rfl,h0,r0⟩:=trodAll_cons hA
 obtain⟨v1,vs1,d1,ds1,p1,q1,rfl,rfl,rfl,h1,r1⟩:=trodAll_cons r0
 obtain⟨rfl,rfl,rfl⟩:=trodAll_nil r1
 obtain rfl:args=#[v0,v1]:=by cases args;simp_all
 obtain⟨rfl,rfl⟩:=trodVars_none hV
 have k0:=h0
 have lt0:∀ x∈p0,x.block<W.heap.size:=by obtain⟨m,hm⟩:=k0;exact DataW.trod_lt m _ _ _ hm
 have k1:=h1
 have lt1:∀ x∈p1,x.block<W.heap.size:=by obtain⟨m,hm⟩:=k1;exact DataW.trod_lt m _ _ _ hm
 obtain⟨s0,ds0,x0,rfl,R0⟩:=arg_prb (hval 0 29 _ rfl rfl) h0
 obtain⟨A1,n1,c1,xs1,rfl,R1⟩:=arg_chos (hval 1 53 _ rfl rfl) h1
 clear hA0 hval0
 refine(reduceHolds_walk W hTab s0 ds0 x0 R0 A1 n1 c1 xs1 R1).mono fun e W' ⟨he,bel⟩=>?_
 subst he
 exact⟨_,rfl,_,_,_,[],_,[],hW',trodAll_mk1 (shut_bool Tryz.underlying4 _),(trodAll_cons_mk (Below.trod laidOut (by kernel_rfl) (of_decide_eq_true (by kernel_rfl)) k0 bel lt0) (trodAll_cons_mk (Below.trod laidOut (by kernel_rfl) (of_decide_eq_true (by kernel_rfl)) k1 bel lt1) trodAll_mk0)),rfl,bel.frame _,fun h=>by cases h⟩
theorem reduceHolds_over:Rows.reduceHoldsRow.holds Tryz.pinned (OpenSpec.ofChange Rows.reduceHoldsSpec):=
 OpenClaim.holds_of_wide 8 Tryz.f8 rfl rfl rfl rfl rfl rfl rfl ⟨rfl,rfl,rfl,rfl,rfl⟩ rfl rfl rfl rfl rfl (by kernel_rfl) Tryz.func8 (by kernel_rfl)
  (of_decide_eq_true (by kernel_rfl)) (by unfold Func.isWrapper;first|(rw[if_pos (by decide +kernel)];kernel_rfl) | (rw[if_neg (by decide +kernel)];exact⟨rfl,rfl⟩))
  (fun os started H enc _=>reduceHolds_lifted os started H enc)
theorem reduceHoldsCard_holds:Rows.ReduceHoldsCardSaid:=
 Claim7.holds_tied_plain_at .later [] [.data] true (true, "60866ed61efe1440238383c15dd6059d6e8c591d87e8f8b121f25048c3dbf775") false
  reduceHolds_over (fun _ h=>by cases h) (by kernel_rfl) (fun _ h=>by cases h) reduceHolds_row_tie rfl ⟨rfl,rfl⟩ (by kernel_rfl) rfl
  (fun f fn hf hfn=>by
   obtain rfl : f = 8 := Option.some.inj ((show Tryz.prog.funcNamed "bandplan/bandplanlaw19.ReduceHolds" = some 8 by kernel_rfl).symm.trans hf) |>.symm
   obtain rfl:fn=Tryz.f8:=(Option.some.inj (Tryz.func8.symm.trans hfn)).symm
   exact⟨by kernel_rfl,fun j t ht=>by
    rw[Tryz.params8] at ht
    rcases j with _ | j
    ·obtain rfl:t=29:=by simpa using ht.symm
     exact(show Tryz.prog.wantsStandIn 29=false by kernel_rfl)
    rcases j with _ | j
    ·obtain rfl:t=53:=by simpa using ht.symm
     exact(show Tryz.prog.wantsStandIn 53=false by kernel_rfl)
    ·simp at ht⟩)
  (by kernel_rfl)
#print axioms reduceHoldsCard_holds
end Go.Proofs.YtjakdikhdndlgaaGreatDoor
