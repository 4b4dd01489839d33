/- Lemmas of the proof, part 14. Conditions: none. -/
import Derived.Test.YtjakdikhdndlgaaGreatDoorBas13
set_option maxRecDepth 100000
set_option maxHeartbeats 4000000
namespace Go.Proofs.YtjakdikhdndlgaaGreatDoor
open Go.RowKit
theorem chs_of {D:Dms} (hD:(D.map Prod.fst).Nodup) {d:Int×List Int} (hd:d∈D):chsOf D d.1=d.2:=by
 unfold chsOf
 induction D with
 | nil=>cases hd
 | cons e q ih=>
  rw[List.map_cons,List.nodup_cons] at hD
  rw[List.find?_cons]
  rcases List.mem_cons.1 hd with rfl | hd
  ·rw[decide_eq_true rfl];rfl
  ·rw[decide_eq_false (fun h:e.1=d.1=>hD.1 (by rw[h];exact List.mem_map_of_mem hd))]
   exact ih hD.2 hd
theorem chs_mem {D:Dms} {s c:Int} (h:c∈chsOf D s):∃ d∈D,d.1=s∧c∈d.2:=by
 unfold chsOf at h
 cases hf:D.find? (fun d=>decide (d.1=s)) with
 | none=>rw[hf] at h;cases h
 | some d=>
  rw[hf] at h
  exact⟨d,List.mem_of_find?_eq_some hf,by simpa using List.find?_some hf,h⟩
theorem say_st (ds:List Dom):(ds.map Dom.say).map Prod.fst=ds.map Dom.st:=by rw[List.map_map];rfl
theorem inc_nodup {l:List Int} (h:l.Pairwise (·<·)):l.Nodup:=h.imp (fun {a b} hab=>by omega)
theorem core_sub (D:Dms) (r:Rul):∀ s∈(peelF D r).2,s∈D.map Prod.fst:=fun s hs=>by
 obtain⟨⟨p,hp⟩,_⟩:=peelG_spec D r D.length [] (D.map Prod.fst)
 exact(List.mem_filter.1 ((show (peelF D r).2=_ from hp) ▸ hs)).1
theorem core_list (D:Dms) (r:Rul):(peelF D r).2=(D.map Prod.fst).filter (fun s=>decide (s∈(peelF D r).2)):=by
 obtain⟨⟨p,hp⟩,_⟩:=peelG_spec D r D.length [] (D.map Prod.fst)
 have hp:(peelF D r).2=(D.map Prod.fst).filter p:=hp
 conv=>lhs;rw[hp]
 apply List.filter_congr
 intro s hs
 rw[hp]
 simp only[List.mem_filter,hs,true_and]
 cases p s<;>simp
theorem chs_ne {ds:List Dom} {r:Rul} (hv:VPr ds r) (s:Int):∀ c∈chsOf (ds.map Dom.say) s,c≠0:=by
 intro c hc
 obtain⟨d,hd,_,hm⟩:=chs_mem hc
 obtain⟨e,he,rfl⟩:=List.mem_map.1 hd
 have:=(hv.dom e he).1 c hm
 omega
theorem res_st {ds:List Dom} {C:List Int} (hC:∀ y∈C,0≤y∧y<512):(resD (stS C) ds).map Dom.st=(ds.map Dom.st).filter (fun s=>decide (s∈C)):=by
 unfold resD
 rw[List.filter_map]
 congr 1
 apply List.filter_congr
 intro d _
 rw[hasS_mem hC];rfl
theorem res_core {ds:List Dom} {r:Rul} (hv:VPr ds r):(resD (stS (peelF (ds.map Dom.say) r).2) ds).map Dom.st=(peelF (ds.map Dom.say) r).2:=by
 rw[res_st (fun y hy=>hv.sts.1 y (by rw[←say_st];exact core_sub _ _ y hy)),←say_st,←core_list]
theorem fine_ch2 {ds:List Dom} {r:Rul} {l:List (Int×Int)} (h:fineF ds r l=true) (hi:(ds.map Dom.st).Pairwise (·<·)):∀ x∈l,x.2∈chsOf (ds.map Dom.say) x.1:=by
 intro x hx
 have hs:=fine_st h hi
 obtain⟨k,hk,e⟩:=List.getElem_of_mem hx
 have hk2:k<ds.length:=by have:=congrArg List.length hs;rw[List.length_map,List.length_map] at this;omega
 have hch:=fine_ch h hi k ds[k] x (List.getElem?_eq_getElem hk2) (by rw[List.getElem?_eq_getElem hk,e])
 have hst:x.1=ds[k].st:=by
  have:=congrArg (fun l=>l[k]?) hs
  simp only[List.getElem?_map,List.getElem?_eq_getElem hk,List.getElem?_eq_getElem hk2,e,Option.map_some,Option.some.injEq] at this
  exact this
 rw[hst,show ds[k].st=(Dom.say ds[k]).1 from rfl,chs_of (by rw[say_st];exact inc_nodup hi) (List.mem_map.2 ⟨_,List.getElem_mem hk2,rfl⟩)]
 exact hch
theorem chs_res {ds:List Dom} {C:List Int} (hC:∀ y∈C,0≤y∧y<512) {s:Int} (hs:s∈C):chsOf ((resD (stS C) ds).map Dom.say) s=chsOf (ds.map Dom.say) s:=by
 unfold chsOf resD
 induction ds with
 | nil=>rfl
 | cons d q ih=>
  rw[List.filter_cons,List.map_cons,List.find?_cons]
  by_cases h:(Dom.say d).1=s
  ·have h2:hasS (stS C) d.st=true:=by rw[hasS_mem hC,decide_eq_true_eq];exact(show d.st=s from h) ▸ hs
   rw[if_pos h2,List.map_cons,List.find?_cons,decide_eq_true h]
  ·rw[decide_eq_false h]
   split
   ·rw[List.map_cons,List.find?_cons,decide_eq_false h];exact ih
   ·exact ih
theorem fine_start {ds:List Dom} {r:Rul} (hv:VPr ds r) {l:List (Int×Int)} (h:fineF (resD (stS (peelF (ds.map Dom.say) r).2) ds) (resR (stS (peelF (ds.map Dom.say) r).2) r) l=true):
  l.map Prod.fst=(peelF (ds.map Dom.say) r).2∧∀ x∈l,x.2∈chsOf (ds.map Dom.say) x.1:=by
 have hC:∀ y∈(peelF (ds.map Dom.say) r).2,0≤y∧y<512:=fun y hy=>hv.sts.1 y (by rw[←say_st];exact core_sub _ _ y hy)
 have hi:((resD (stS (peelF (ds.map Dom.say) r).2) ds).map Dom.st).Pairwise (·<·):=hv.up.sublist (List.filter_sublist.map _)
 have hs:=fine_st h hi
 rw[res_core hv] at hs
 refine⟨hs,fun x hx=>?_⟩
 have:=fine_ch2 h hi x hx
 rwa [chs_res hC (by rw[←hs];exact List.mem_map_of_mem hx)] at this
theorem findD_ex (x:Int):∀(l:List Dom) (k:Nat),x∈l.map Dom.st→∃(i:Nat) (d:Dom),l[i]?=some d∧findD x k l=(k:Int)+(i:Int)∧d.st=x∧chsOf (l.map Dom.say) x=d.chs
 | [],_,h=>by cases h
 | d::q,k,h=>by
  by_cases e:d.st=x
  ·refine⟨0,d,rfl,by rw[findD,if_pos e];simp,e,?_⟩
   unfold chsOf
   rw[List.map_cons,List.find?_cons_of_pos (by unfold Dom.say;simpa using e)];rfl
  ·have hq:x∈q.map Dom.st:=by
    rw[List.map_cons,List.mem_cons] at h
    rcases h with h | h
    ·exact absurd h.symm e
    ·exact h
   obtain⟨i,d2,h1,h2,h3,h4⟩:=findD_ex x q (k+1) hq
   refine⟨i+1,d2,h1,by rw[findD,if_neg e,h2];omega,h3,?_⟩
   unfold chsOf at h4 ⊢
   rw[List.map_cons,List.find?_cons_of_neg (by unfold Dom.say;simpa using e)];exact h4
theorem countP_snoc {α:Type} {p:α→Bool} {l:List α} {k:Nat} {x:α} (h:l[k]?=some x):(l.take (k+1)).countP p=(l.take k).countP p+if p x then 1 else 0:=by
 rw[List.take_add_one,h,Option.toList_some,List.countP_append,List.countP_singleton]
theorem max_snoc {α:Type} {f:α→Nat} {l:List α} {k:Nat} {x:α} (h:l[k]?=some x):(l.take (k+1)).foldl (fun m y=>max m (f y)) 0=max ((l.take k).foldl (fun m y=>max m (f y)) 0) (f x):=by
 rw[List.take_add_one,h,Option.toList_some,List.foldl_append];rfl
theorem refblocks_any (ps:PrbS) (s t:Int) (w:World) (ds:List Dom) (r:Rul) (hn:ps.nd≤100000) (hpl:r.pairs.length≤100000) (hll:r.loads.length≤100000) (hcl:r.caps.length≤100000) (hch:∀ d∈ds,d.chs.length≤1000) (hs:s∈ds.map Dom.st) (ht:t∈ds.map Dom.st) (h:PrbAt w w.heap.size ps ds r):
  Calls Tryz.prog 22 #[ps.val,.int .i64 s,.int .i64 t] w (RetPost (.int .i64 (blN (ds.map Dom.say) r s t:Nat)) w.heap.size w):=by
 have HBK:=Lib.hid (fun (c d:Int) (W:World) (hb:Below w.heap.size w W)=>rblocked_any ps s c t d W ds r hpl hll hcl ⟨h.1.keep hb,h.2.keep hb⟩)
 obtain⟨i,di,hi1,hi2,hi3,hi4⟩:=findD_ex s ds 0 hs
 obtain⟨j,dj,hj1,hj2,hj3,hj4⟩:=findD_ex t ds 0 ht
 have hi2:findD s 0 ds=(i:Int):=by rw[hi2];simp
 have hj2:findD t 0 ds=(j:Int):=by rw[hj2];simp
 have HFS:=Lib.hid (fun (W:World) (hb:Below w.heap.size w W)=>rfind_any ps s W ds (by omega) (h.1.keep hb))
 have HFT:=Lib.hid (fun (W:World) (hb:Below w.heap.size w W)=>rfind_any ps t W ds (by omega) (h.1.keep hb))
 rw[hi2] at HFS
 rw[hj2] at HFT
 have hdl:ds.length=ps.nd:=h.1.1.1
 have k0:(i:Int)<(ps.nd:Int):=by have:=(List.getElem?_eq_some_iff.1 hi1).1;omega
 have k1:(j:Int)<(ps.nd:Int):=by have:=(List.getElem?_eq_some_iff.1 hj1).1;omega
 have HRI:=Lib.hid (h.1.2 di (List.mem_of_getElem? hi1))
 have HRJ:=Lib.hid (h.1.2 dj (List.mem_of_getElem? hj1))
 have hil:di.len≤1000:=by have:=HRI.out.1;have:=hch di (List.mem_of_getElem? hi1);omega
 have hjl:dj.len≤1000:=by have:=HRJ.out.1;have:=hch dj (List.mem_of_getElem? hj1);omega
 have HLI:=Eqn.mk HRI.out.1
 have HLJ:=Eqn.mk HRJ.out.1
 have HBN:Hid (blN (ds.map Dom.say) r s t=dj.chs.foldl (fun m d=>max m (di.chs.countP fun c=>blkd r s c t d)) 0):=Lib.hid (by unfold blN cntB;rw[hi4,hj4])
 obtain⟨R,hR⟩:∃ R,R=blN (ds.map Dom.say) r s t:=⟨_,rfl⟩
 rw[←hR] at HBN ⊢
 obtain⟨bD,oD,hAD,hbD,hcD⟩:=h.1.1.2 (by omega)
 have m1:w.cell? ⟨bD,oD+i * 2+1,none⟩=some (.slice di.adr di.len di.cap):=hcD i di hi1 1 (by decide)
 have m2:w.cell? ⟨bD,oD+j * 2+1,none⟩=some (.slice dj.adr dj.len dj.cap):=hcD j dj hj1 1 (by decide)
 obtain⟨Ad,nd,cd,⟨A0,n0,c0,A1,n1,c1,A2,n2,c2⟩⟩:=ps
 obtain rfl:Ad=some ⟨bD,oD,none⟩:=hAD
 unfold PrbS.val at *
 dsimp only at HBK HFS HFT k0 k1 hn hbD hdl ⊢
 obtain⟨ist,iA,il,ic,iC⟩:=di
 obtain⟨jst,jA,jl,jc,jC⟩:=dj
 dsimp only at HRI HRJ hil hjl HLI HLJ HBN m1 m2
 clear h hs ht hi1 hi2 hi3 hi4 hj1 hj2 hj3 hj4 hR hcD hdl hch hpl hll hcl
 obtain⟨W0,hW0⟩:∃ W0,W0=w.alloc (.cells #[.slice (some ⟨bD,oD,none⟩) nd cd,.slice A0 n0 c0,.slice A1 n1 c1,.slice A2 n2 c2] 29):=⟨_,rfl⟩
 have hB0:Below w.heap.size w W0:=by rw[hW0];exact(Below.refl _ w).alloc (Nat.le_refl _) _
 have HX0:Hid (Blk W0 w.heap.size 29 [.slice (some ⟨bD,oD,none⟩) nd cd,.slice A0 n0 c0,.slice A1 n1 c1,.slice A2 n2 c2]):=Lib.hid (by rw[hW0];exact blk_new w _ _)
 have HB0:=Lib.hid hB0
 have HBD:=Lib.hid (hB0.trans ((Below.refl W0.heap.size W0).drew.mono hB0.size))
 have HM:=Lib.hid (fun (W:World) (hb:Below w.heap.size w W)=>And.intro ((hb.cell (p:=⟨bD,oD+i * 2+1,none⟩) hbD).trans m1) ((hb.cell (p:=⟨bD,oD+j * 2+1,none⟩) hbD).trans m2))
 have HQ:=Lib.hid (fun (W:World) (hb:Below W0.heap.size W0 W)=>(by
  have hx:=HX0.out.keep hb
  exact⟨hx.cell (i:=0) rfl,hx.cell (i:=1) rfl,hx.cell (i:=2) rfl,hx.cell (i:=3) rfl,hx.lt⟩:W.cell? ⟨w.heap.size,0,none⟩=some (.slice (some ⟨bD,oD,none⟩) nd cd)∧W.cell? ⟨w.heap.size,1,none⟩=some (.slice A0 n0 c0)∧W.cell? ⟨w.heap.size,2,none⟩=some (.slice A1 n1 c1)∧W.cell? ⟨w.heap.size,3,none⟩=some (.slice A2 n2 c2)∧w.heap.size<W.heap.size))
 obtain⟨m1',m2'⟩:=HM.out W0 hB0
 obtain⟨q0,q1,q2,q3,q4⟩:=HQ.out W0 (Below.refl _ _)
 clear hB0 m1 m2
 go_enter Tryz.func22,Tryz.ntmps22
 go_upto_region 2 with fail
 rw[←hW0]
 clear hW0
 refine Lx.region (C:=fun Z=>Z.cell? ⟨w.heap.size,0,none⟩=some (.slice (some ⟨bD,oD,none⟩) nd cd)∧Z.cell? ⟨w.heap.size,1,none⟩=some (.slice A0 n0 c0)∧Z.cell? ⟨w.heap.size,2,none⟩=some (.slice A1 n1 c1)∧Z.cell? ⟨w.heap.size,3,none⟩=some (.slice A2 n2 c2)∧Z.cell? ⟨bD,oD+i * 2+1,none⟩=some (.slice iA il ic)∧Z.cell? ⟨bD,oD+j * 2+1,none⟩=some (.slice jA jl jc)) (hs:=[1,2,7,9,10,15]) (by kernel_rfl) (by kernel_rfl) ⟨q0,q1,q2,q3,m1',m2'⟩ ?_
 repeat' (first|((first|refine Lx.ln (fun K hK=>?_) | (first|(refine Lx.lp (v:=?_) ?_ (fun K hK=>?_);rotate_left 1;intro w' hCw;try dsimp only at hCw) | (refine Lx.lr (v:=?_) ?_ (fun K hK=>?_);rotate_left 1));go_simp;first|done | with_reducible rfl);go_simp;refine hK _ ?_;clear hK K) | (refine Lx.le (fun K hK=>?_);go_simp;(first|(go_at_call_of 21 (Value.int .i64 s);refine(HFS.out _ HBD.out).mono ?_;rintro e w1 ⟨rfl,hb1⟩;have HE1:=Lib.hid (HBD.out.trans (hb1.mono HBD.out.size));have HF1:=Lib.hid ((Below.refl W0.heap.size W0).drew.trans hb1);obtain⟨x1,x2⟩:=HM.out _ HE1.out;obtain⟨y0,y1,y2,y3,y4⟩:=HQ.out _ HF1.out;clear hb1) | (go_at_call_of 21 (Value.int .i64 t);refine(HFT.out _ HE1.out).mono ?_;rintro e w2 ⟨rfl,hb2⟩;have HF2:=Lib.hid (HF1.out.trans (hb2.mono HF1.out.size));have HE2:=Lib.hid (HE1.out.trans (hb2.mono HE1.out.size));obtain⟨u1,u2⟩:=HM.out _ HE2.out;obtain⟨v0,v1,v2,v3,v4⟩:=HQ.out _ HF2.out;clear hb2) | skip);refine hK _ _ (by first|exact⟨q0,q1,q2,q3,m1',m2'⟩ | exact⟨y0,y1,y2,y3,x1,x2⟩ | exact⟨v0,v1,v2,v3,u1,u2⟩) ?_;clear hK K) | (refine Lx.lex_cases rfl rfl rfl (fun hgd K hK=>?_) (fun hgd K hK=>?_)<;>(try simp only[decide_eq_true_eq,decide_eq_false_iff_not] at hgd)<;>(first|(exfalso;omega) | (go_simp;refine hK _ ?_;clear hK K))))
 all_goals (refine Lx.lex_nil ?_)
 clear x1 x2 y0 y1 y2 y3 y4 u1 u2 v0 v1 v2 v3 v4 q0 q1 q2 q3 q4 m1' m2' HE1 HF1 HFS HFT
 go_wp2_with fail
 go_loopw [7,10] (fun mv iv wr=>∃(k M:Nat),k≤jl∧iv=.int .i64 k∧mv=.int .i64 (M:Nat)∧Eqn M ((jC.take k).foldl (fun m d=>max m (iC.countP fun c=>blkd r s c t d)) 0)∧Below W0.heap.size W0 wr) (fun _ iv _=>jl - (intOf iv).toNat)
 case atStart=>exact⟨0,0,Nat.zero_le _,rfl,rfl,rfl,HF2.out⟩
 case round=>
  clear HE2 HF2
  obtain⟨k,M,hk,rfl,rfl,HM0,hb⟩:=hrel
  have HBW:=Lib.hid hb
  by_cases hkl:k<jl
  ·have j0:(k:Int)<(jl:Int):=by omega
   obtain⟨d,hd⟩:∃ d,jC[k]?=some d:=⟨_,List.getElem?_eq_getElem (by have:=HLJ.out;omega)⟩
   have HMS:Hid (((jC.take (k+1)).foldl (fun m d=>max m (iC.countP fun c=>blkd r s c t d)) 0)=max M (iC.countP fun c=>blkd r s c t d)):=Lib.hid (by rw[max_snoc (f:=fun d=>iC.countP fun c=>blkd r s c t d) hd,HM0.out])
   have HDC:=Lib.hid hd
   have HBK1:=Lib.hid (fun c W hb=>HBK.out c d W hb)
   clear hb hd
   go_wp2_with fail
   obtain⟨wo,rfl⟩:∃ wo:World,wo=wr:=⟨_,rfl⟩
   go_loopw [11,12] (fun nv iv wr=>∃(a N:Nat),a≤il∧iv=.int .i64 a∧nv=.int .i64 (N:Nat)∧Eqn N ((iC.take a).countP fun c=>blkd r s c t d)∧Below W0.heap.size W0 wr) (fun _ iv _=>il - (intOf iv).toNat)
   case atStart=>exact⟨0,0,Nat.zero_le _,rfl,rfl,rfl,HBW.out⟩
   case round=>
    obtain⟨a,N,ha,rfl,rfl,HN0,hb⟩:=hrel
    have HBV:=Lib.hid hb
    by_cases hal:a<il
    ·have j1:(a:Int)<(il:Int):=by omega
     obtain⟨c,hc⟩:∃ c,iC[a]?=some c:=⟨_,List.getElem?_eq_getElem (by have:=HLI.out;omega)⟩
     have hNl:N≤1000:=by have h1:=HN0.out;have h2:(iC.take a).countP (fun c=>blkd r s c t d)≤(iC.take a).length:=List.countP_le_length;rw[List.length_take] at h2;omega
     have hW:=HB0.out.trans (hb.mono HB0.out.size)
     obtain⟨b5,o5,rfl,hb5,hc5⟩:=(HRI.out.keep hW).2 (by omega)
     obtain⟨b6,o6,rfl,hb6,hc6⟩:=(HRJ.out.keep hW).2 (by omega)
     have e5:wr.cell? ⟨b5,o5+a,none⟩=some (.int .i64 c):=hc5 a c hc
     have e6:wr.cell? ⟨b6,o6+k,none⟩=some (.int .i64 d):=hc6 k d HDC.out
     obtain⟨q0,q1,q2,q3,q4⟩:=HQ.out wr hb
     have HCB:=HBK1.out c wr.drew (HB0.out.trans (hb.drew.mono HB0.out.size))
     have HNS:=Lib.hid (countP_snoc (p:=fun c=>blkd r s c t d) hc)
     generalize blkd r s c t d=bb at *
     clear hb hc hW hc5 hc6
     cases bb with
     | true=>
      have HCB:=Lib.hid HCB
      have HN1:Hid ((iC.take (a+1)).countP (fun c=>blkd r s c t d)=N+1):=Lib.hid (by rw[HNS.out,HN0.out];rfl)
      clear HN0 HNS
      go_wp2_with fail
      refine Lx.region (C:=fun _=>True) (hs:=[]) (by kernel_rfl) (by kernel_rfl) trivial ?_
      repeat' (first|((first|refine Lx.ln (fun K hK=>?_) | (first|(refine Lx.lp (v:=?_) ?_ (fun K hK=>?_);rotate_left 1;intro w' hCw;try dsimp only at hCw) | (refine Lx.lr (v:=?_) ?_ (fun K hK=>?_);rotate_left 1));go_simp;first|done | with_reducible rfl);go_simp;refine hK _ ?_;clear hK K) | (refine Lx.le (fun K hK=>?_);go_simp;(first|(go_at_call 52;refine HCB.out.mono ?_;rintro e w4 ⟨rfl,hb4⟩;have HB4:=Lib.hid (HBV.out.drew.trans (hb4.mono HBV.out.drew.size));clear hb4) | skip);refine hK _ _ (trivial) ?_;clear hK K) | (refine Lx.lex_cases rfl rfl rfl (fun hgd K hK=>?_) (fun hgd K hK=>?_)<;>(try simp only[decide_eq_true_eq,decide_eq_false_iff_not] at hgd)<;>(first|(exfalso;omega) | (go_simp;refine hK _ ?_;clear hK K))))
      all_goals (refine Lx.lex_nil ?_)
      clear e5 e6 q0 q1 q2 q3 q4
      go_wp2_with fail
      go_roundw
      case rel=>exact⟨a+1,N+1,hal,by go_num,by go_num,HN1.out.symm,HB4.out⟩
      case measure=>simp[intOf];omega
     | false=>
      have HCB:=Lib.hid HCB
      have HN1:Hid ((iC.take (a+1)).countP (fun c=>blkd r s c t d)=N):=Lib.hid (by rw[HNS.out,HN0.out];rfl)
      clear HN0 HNS
      go_wp2_with fail
      refine Lx.region (C:=fun _=>True) (hs:=[]) (by kernel_rfl) (by kernel_rfl) trivial ?_
      repeat' (first|((first|refine Lx.ln (fun K hK=>?_) | (first|(refine Lx.lp (v:=?_) ?_ (fun K hK=>?_);rotate_left 1;intro w' hCw;try dsimp only at hCw) | (refine Lx.lr (v:=?_) ?_ (fun K hK=>?_);rotate_left 1));go_simp;first|done | with_reducible rfl);go_simp;refine hK _ ?_;clear hK K) | (refine Lx.le (fun K hK=>?_);go_simp;(first|(go_at_call 52;refine HCB.out.mono ?_;rintro e w4 ⟨rfl,hb4⟩;have HB4:=Lib.hid (HBV.out.drew.trans (hb4.mono HBV.out.drew.size));clear hb4) | skip);refine hK _ _ (trivial) ?_;clear hK K) | (refine Lx.lex_cases rfl rfl rfl (fun hgd K hK=>?_) (fun hgd K hK=>?_)<;>(try simp only[decide_eq_true_eq,decide_eq_false_iff_not] at hgd)<;>(first|(exfalso;omega) | (go_simp;refine hK _ ?_;clear hK K))))
      all_goals (refine Lx.lex_nil ?_)
      clear e5 e6 q0 q1 q2 q3 q4
      go_wp2_with fail
      go_roundw
      case rel=>exact⟨a+1,N,hal,by go_num,rfl,HN1.out.symm,HB4.out⟩
      case measure=>simp[intOf];omega
    ·obtain rfl:a=il:=by omega
     have j1:¬((a:Nat):Int)<(a:Int):=by omega
     have HNE:Hid (N=iC.countP fun c=>blkd r s c t d):=Lib.hid (by rw[HN0.out,List.take_of_length_le (by rw[HLI.out];exact Nat.le_refl _)])
     clear hb HN0
     go_wp2_with fail
     go_roundw
     case rel=>
      refine⟨k+1,max M N,hkl,by go_num,?_,?_,HBV.out⟩
      ·congr 1
       split<;>omega
      ·rw[Eqn,HMS.out,HNE.out]
     case measure=>simp[intOf];omega
  ·obtain rfl:k=jl:=by omega
   have j0:¬((k:Nat):Int)<(k:Int):=by omega
   have HRE:Hid (R=M):=Lib.hid (by rw[HBN.out,HM0.out,List.take_of_length_le (by rw[HLJ.out];exact Nat.le_refl _)])
   clear hb HM0
   go_wp2_with fail
   go_ret
   exact⟨ret_int (by rw[HRE.out]),HB0.out.trans (HBW.out.mono HB0.out.size)⟩
section
variable {α : Type} [DecidableEq α]
def cmGo (cls:α→List α):List α→List (List α)→List α→List (List α)
 | [],out,_=>out
 | s::q,out,seen=>if s∈seen then cmGo cls q out seen else cmGo cls q (out++[cls s]) (seen++cls s)
def isMin (cls:α→List α) (s:α):Bool:=decide ((cls s).head?=some s)
structure ClsI (set:List α) (cls:α→List α):Prop where
 nd:set.Nodup
 self:∀ s∈set,s∈cls s
 same:∀ s∈set,∀ t∈cls s,cls t=cls s
 sub:∀ s∈set,(cls s).Sublist set
omit [DecidableEq α] in
theorem ClsI.before {set:List α} {cls:α→List α} (h:ClsI set cls) {P q:List α} {s:α} (hset:set=P++s::q) {t:α} (ht:(cls s).head?=some t) (hts:t≠s):t∈P:=by
 have hs:s∈set:=by rw[hset];simp
 obtain⟨u,hu⟩:∃ u,cls s=t::u:=by
  cases hc:cls s with
  | nil=>rw[hc] at ht;cases ht
  | cons a u=>rw[hc] at ht;simp only[List.head?_cons,Option.some.injEq] at ht;subst ht;exact⟨u,rfl⟩
 have hsub:=h.sub s hs
 have hsm:=h.self s hs
 rw[hu] at hsub hsm
 have hsu:s∈u:=by
  rcases List.mem_cons.1 hsm with e | e
  ·exact absurd e.symm hts
  ·exact e
 -- t stands before s in set
 have h2:[t,s].Sublist (P++s::q):=by
  rw[←hset]
  refine List.Sublist.trans ?_ hsub
  exact List.Sublist.cons_cons _ (List.singleton_sublist.2 hsu)
 have hnd:=h.nd
 rw[hset] at hnd
 rw[List.nodup_append] at hnd
 obtain⟨_,n2,n3⟩:=hnd
 rw[List.nodup_cons] at n2
 rcases List.sublist_append_iff.1 h2 with ⟨a,b,hab,ha,hb⟩
 cases a with
 | nil=>
  rw[List.nil_append] at hab
  subst hab
  cases hb with
  | cons _ hb2=>exact absurd (hb2.subset (by simp)) n2.1
  | cons_cons _ hb2=>exact absurd rfl hts
 | cons x a=>
  rw[List.cons_append] at hab
  injection hab with e _
  rw[e]
  exact ha.subset (by simp)
theorem cmGo_eq {set:List α} {cls:α→List α} (h:ClsI set cls):∀(q P:List α) (out:List (List α)) (seen:List α),set=P++q→out=(P.filter (isMin cls)).map cls→(∀ x,x∈seen↔∃ p∈out,x∈p)→cmGo cls q out seen=(set.filter (isMin cls)).map cls:=by
 intro q
 induction q with
 | nil=>intro P out seen h1 h2 _;rw[cmGo,h2,h1,List.append_nil]
 | cons s q ih=>
  intro P out seen h1 h2 h3
  have hs:s∈set:=by rw[h1];simp
  have hseen:s∈seen↔isMin cls s=false:=by
   rw[h3,h2]
   unfold isMin
   rw[decide_eq_false_iff_not]
   constructor
   ·rintro⟨p,hp,hsp⟩ hh
    obtain⟨t,ht,rfl⟩:=List.mem_map.1 hp
    obtain⟨ht1,ht2⟩:=List.mem_filter.1 ht
    have htset:t∈set:=by rw[h1];exact List.mem_append_left _ ht1
    have e:=h.same t htset s hsp
    rw[e] at hh
    have ht2:=of_decide_eq_true ht2
    rw[ht2] at hh
    simp only[Option.some.injEq] at hh
    have hnd:=h.nd
    rw[h1,List.nodup_append] at hnd
    exact hnd.2.2 t ht1 s (by simp) hh
   ·intro hh
    obtain⟨t,ht⟩:∃ t,(cls s).head?=some t:=by
     cases hc:cls s with
     | nil=>have:=h.self s hs;rw[hc] at this;cases this
     | cons a u=>exact⟨a,rfl⟩
    have hts:t≠s:=fun e=>hh (by rw[ht,e])
    have htP:=h.before h1 ht hts
    have htc:t∈cls s:=List.mem_of_head? ht
    have e:=h.same s hs t htc
    refine⟨cls t,List.mem_map.2 ⟨t,List.mem_filter.2 ⟨htP,decide_eq_true (by rw[e,ht])⟩,rfl⟩,by rw[e];exact h.self s hs⟩
  rw[cmGo]
  by_cases hm:s∈seen
  ·rw[if_pos hm]
   refine ih (P++[s]) out seen (by rw[h1];simp) ?_ h3
   rw[h2,List.filter_append,List.filter_cons,hseen.1 hm];simp
  ·rw[if_neg hm]
   have hmin:isMin cls s=true:=by
    cases hb:isMin cls s with
    | true=>rfl
    | false=>exact absurd (hseen.2 hb) hm
   refine ih (P++[s]) _ _ (by rw[h1];simp) ?_ ?_
   ·rw[h2,List.filter_append,List.filter_cons,hmin];simp
   ·intro x
    rw[List.mem_append,h3]
    constructor
    ·rintro(⟨p,hp,hx⟩ | hx)
     ·exact⟨p,by simp[hp],hx⟩
     ·exact⟨cls s,by simp,hx⟩
    ·rintro⟨p,hp,hx⟩
     rcases List.mem_append.1 hp with hp | hp
     ·exact .inl ⟨p,hp,hx⟩
     ·rw[List.mem_singleton] at hp;subst hp;exact .inr hx
theorem cm_eq {set:List α} {cls:α→List α} (h:ClsI set cls):cmGo cls set [] []=(set.filter (isMin cls)).map cls:=cmGo_eq h set [] [] [] rfl rfl (fun x=>by simp)
end
inductive Rc (r:Rul) (set:List Int) (s:Int):Int→Prop
 | refl:Rc r set s s
 | step {v t:Int}:Rc r set s v→linkF r v t=true→t∈set→Rc r set s t
theorem Rc.trans {r:Rul} {set:List Int} {s t u:Int} (h1:Rc r set s t) (h2:Rc r set t u):Rc r set s u:=by
 induction h2 with
 | refl=>exact h1
 | step _ h3 h4 ih=>exact .step ih h3 h4
theorem Rc.symm {r:Rul} {set:List Int} {s t:Int} (hs:s∈set) (h:Rc r set s t):Rc r set t s:=by
 induction h with
 | refl=>exact .refl
 | step hv h3 h4 ih=>
  rename_i v t
  have hvm:v∈set:=by cases hv with | refl=>exact hs | step _ _ h=>exact h
  exact Rc.trans (.step .refl (by rw[link_comm];exact h3) hvm) ih
theorem Rc.mem {r:Rul} {set:List Int} {s t:Int} (hs:s∈set) (h:Rc r set s t):t∈set:=by
 cases h with
 | refl=>exact hs
 | step _ _ h=>exact h
def addF (r:Rul) (v:Int) (a:List Int) (t:Int):List Int:=if linkF r v t=true∧hasL a t=false then a++[t] else a
def clG (r:Rul) (set:List Int):Nat→Nat→List Int→List Int
 | 0,_,all=>all
 | f+1,k,all=>match all[k]? with
  | none=>all
  | some v=>clG r set f (k+1) (set.foldl (addF r v) all)
def clF (r:Rul) (set:List Int) (s:Int):List Int:=clG r set (set.length+1) 0 [s]
def clsF (r:Rul) (set:List Int) (s:Int):List Int:=set.filter (hasL (clF r set s))
def compF (r:Rul) (set:List Int):List (List Int):=cmGo (clsF r set) set [] []
theorem add_fold (r:Rul) (v:Int):∀(l:List Int) (a:List Int),a.Nodup→∃ q,l.foldl (addF r v) a=a++q∧(a++q).Nodup∧(∀ t∈q,t∈l∧linkF r v t=true)∧(∀ t∈l,linkF r v t=true→t∈a++q):=by
 intro l
 induction l with
 | nil=>intro a ha;exact⟨[],by simp,by simpa using ha,fun _ h=>(by cases h),fun _ h=>(by cases h)⟩
 | cons t l ih=>
  intro a ha
  rw[List.foldl_cons]
  by_cases h:linkF r v t=true∧hasL a t=false
  ·have e:addF r v a t=a++[t]:=by unfold addF;rw[if_pos h]
   rw[hasL_mem,decide_eq_false_iff_not] at h
   obtain⟨q,h1,h2,h3,h4⟩:=ih (a++[t]) (by rw[List.nodup_append];exact⟨ha,by simp,fun x hx y hy=>by rw[List.mem_singleton] at hy;subst hy;rintro rfl;exact h.2 hx⟩)
   rw[e]
   refine⟨t::q,by rw[h1];simp,by simpa using h2,fun u hu=>?_,fun u hu hl=>?_⟩
   ·rcases List.mem_cons.1 hu with rfl | hu
    ·exact⟨by simp,h.1⟩
    ·exact⟨by simp[(h3 u hu).1],(h3 u hu).2⟩
   ·rcases List.mem_cons.1 hu with rfl | hu
    ·simp
    ·have:=h4 u hu hl;simpa using this
  ·have e:addF r v a t=a:=by unfold addF;rw[if_neg h]
   obtain⟨q,h1,h2,h3,h4⟩:=ih a ha
   rw[e]
   refine⟨q,h1,h2,fun u hu=>⟨by simp[(h3 u hu).1],(h3 u hu).2⟩,fun u hu hl=>?_⟩
   rcases List.mem_cons.1 hu with rfl | hu
   ·have:u∈a:=by
     rw[hasL_mem] at h
     by_cases hm:u∈a
     ·exact hm
     ·exact absurd ⟨hl,decide_eq_false hm⟩ h
    simp[this]
   ·exact h4 u hu hl
theorem nodup_len {a b:List Int} (ha:a.Nodup) (h:∀ x∈a,x∈b):a.length≤b.length:=by
 have:=sum_sub_mem (fun _:Int=>1) ha h
 have e:∀ l:List Int,(l.map fun _=>1).sum=l.length:=by
  intro l
  induction l with
  | nil=>rfl
  | cons x q ih=>rw[List.map_cons,List.sum_cons,ih,List.length_cons];omega
 rw[e,e] at this
 exact this
theorem clG_spec {r:Rul} {set:List Int} {s:Int}:∀(f k:Nat) (all:List Int),set.length<f+k→all.Nodup→s∈all→(∀ t∈all,t∈set∧Rc r set s t)→(∀ j v,all[j]?=some v→j<k→∀ t∈set,linkF r v t=true→t∈all) →
  ∀ t,t∈clG r set f k all↔Rc r set s t:=by
 intro f
 induction f with
 | zero=>
  intro k all hk hn hs hm hc t
  have hlen:=nodup_len hn (fun x hx=>(hm x hx).1)
  rw[clG]
  refine⟨fun h=>(hm t h).2,fun h=>?_⟩
  induction h with
  | refl=>exact hs
  | step _ h3 h4 ih=>
   obtain⟨j,hj,e⟩:=List.getElem_of_mem ih
   exact hc j _ (by rw[List.getElem?_eq_getElem hj,e]) (by omega) _ h4 h3
 | succ f ih=>
  intro k all hk hn hs hm hc t
  rw[clG]
  cases hv:all[k]? with
  | none=>
   dsimp only
   refine⟨fun h=>(hm t h).2,fun h=>?_⟩
   have hlen:all.length≤k:=by rw[List.getElem?_eq_none_iff] at hv;exact hv
   induction h with
   | refl=>exact hs
   | step _ h3 h4 ih2=>
    obtain⟨j,hj,e⟩:=List.getElem_of_mem ih2
    exact hc j _ (by rw[List.getElem?_eq_getElem hj,e]) (by omega) _ h4 h3
  | some v=>
   dsimp only
   obtain⟨q,h1,h2,h3,h4⟩:=add_fold r v set all hn
   rw[h1]
   have hvm:=List.mem_of_getElem? hv
   refine ih (k+1) (all++q) (by omega) h2 (by simp[hs]) (fun t ht=>?_) (fun j u hj hjk t ht hl=>?_) t
   ·rcases List.mem_append.1 ht with ht | ht
    ·exact hm t ht
    ·exact⟨(h3 t ht).1,.step (hm v hvm).2 (h3 t ht).2 (h3 t ht).1⟩
   ·by_cases hjk2:j<k
    ·have hjl:j<all.length:=Nat.lt_trans hjk2 (List.getElem?_eq_some_iff.1 hv).1
     rw[List.getElem?_append_left hjl] at hj
     exact List.mem_append_left _ (hc j u hj hjk2 t ht hl)
    ·obtain rfl:j=k:=by omega
     rw[List.getElem?_append_left (List.getElem?_eq_some_iff.1 hv).1,hv] at hj
     cases hj
     exact h4 t ht hl
theorem cl_spec {r:Rul} {set:List Int} {s:Int} (hs:s∈set) (t:Int):t∈clF r set s↔Rc r set s t:=by
 refine clG_spec _ _ _ (by omega) (by simp) (by simp) (fun t ht=>?_) (fun j v _ hj=>by omega) t
 rw[List.mem_singleton] at ht;subst ht;exact⟨hs,.refl⟩
theorem cls_mem {r:Rul} {set:List Int} {s:Int} (hs:s∈set) (t:Int):t∈clsF r set s↔Rc r set s t:=by
 unfold clsF
 rw[List.mem_filter,hasL_mem,decide_eq_true_eq,cl_spec hs]
 exact⟨fun h=>h.2,fun h=>⟨h.mem hs,h⟩⟩
theorem cls_ok {r:Rul} {set:List Int} (hn:set.Nodup):ClsI set (clsF r set):=by
 refine⟨hn,fun s hs=>(cls_mem hs s).2 .refl,fun s hs t ht=>?_,fun s _=>List.filter_sublist⟩
 have h1:=(cls_mem hs t).1 ht
 have htm:=h1.mem hs
 unfold clsF
 apply List.filter_congr
 intro u hu
 rw[hasL_mem,hasL_mem,decide_eq_decide,cl_spec hs,cl_spec htm]
 exact⟨fun h=>h1.trans h,fun h=>(h1.symm hs).trans h⟩
theorem comp_eq {r:Rul} {set:List Int} (hn:set.Nodup):compF r set=(set.filter (isMin (clsF r set))).map (clsF r set):=cm_eq (cls_ok hn)
end Go.Proofs.YtjakdikhdndlgaaGreatDoor
namespace Go.Proofs.YtjakdikhdndlgaaGreatDoor
open Go.RowKit Pop
def bk1 (f:Bool) (d:Int) (x:R5):Nat:=if f=true then (if x.d≤d - x.c∧d - x.c≤x.e then 2 ^ (d - x.c).toNat else 0) else (if x.d≤d∧d≤x.e then 2 ^ (d+x.c).toNat else 0)
def bkF (f:Bool) (ps:List R5) (sh:Nat) (d:Int):Nat:=ps.foldl (fun a x=>a ||| bk1 f d x) (sh &&& 2 ^ d.toNat)
theorem bk_take {f:Bool} {ps:List R5} {sh:Nat} {d:Int} {k:Nat} {x:R5} (h:ps[k]?=some x):bkF f (ps.take (k+1)) sh d=bkF f (ps.take k) sh d ||| bk1 f d x:=by
 unfold bkF;rw[List.take_add_one,h,List.foldl_append];rfl
theorem lt64 {x:Nat} (h:∀ k,64≤k→x.testBit k=false):x<18446744073709551616:=Nat.lt_pow_two_of_testBit x (n:=64) h
theorem pow_lt64 {k:Nat} (h:k<64):2 ^ k<18446744073709551616:=by
 have:=Nat.pow_lt_pow_right (a:=2) (by decide) h
 simpa using this
theorem or_lt64 {a b:Nat} (ha:a<18446744073709551616) (hb:b<18446744073709551616):a ||| b<18446744073709551616:=Nat.or_lt_two_pow (n:=64) ha hb
theorem bk1_lt {f:Bool} {d:Int} {x:R5} (hx:(-1≤x.c∧x.c≤1)∧2≤x.d∧x.d≤x.e∧x.e≤51):bk1 f d x<18446744073709551616:=by
 unfold bk1
 split
 ·split
  ·exact pow_lt64 (by omega)
  ·decide
 ·split
  ·exact pow_lt64 (by omega)
  ·decide
theorem bkF_lt {f:Bool} {ps:List R5} {sh:Nat} {d:Int} (hs:sh<18446744073709551616) (hp:∀ x∈ps,(-1≤x.c∧x.c≤1)∧2≤x.d∧x.d≤x.e∧x.e≤51):bkF f ps sh d<18446744073709551616:=by
 have key:∀(l:List R5) (a:Nat),a<18446744073709551616→(∀ x∈l,(-1≤x.c∧x.c≤1)∧2≤x.d∧x.d≤x.e∧x.e≤51)→l.foldl (fun a x=>a ||| bk1 f d x) a<18446744073709551616:=by
  intro l
  induction l with
  | nil=>intro a ha _;exact ha
  | cons x q ih=>intro a ha h;exact ih _ (or_lt64 ha (bk1_lt (h x (by simp)))) (fun y hy=>h y (by simp[hy]))
 exact key ps _ (Nat.lt_of_le_of_lt Nat.and_le_left hs) hp
theorem bkF_tb {f:Bool} {sh:Nat} {d:Int} {k:Nat}:∀(ps:List R5) ,(bkF f ps sh d).testBit k=((decide (d.toNat=k)&&sh.testBit k)||ps.any fun x=>(bk1 f d x).testBit k):=by
 have key:∀(l:List R5) (a:Nat),(l.foldl (fun a x=>a ||| bk1 f d x) a).testBit k=(a.testBit k||l.any fun x=>(bk1 f d x).testBit k):=by
  intro l
  induction l with
  | nil=>intro a;simp
  | cons x q ih=>intro a;rw[List.foldl_cons,ih,Nat.testBit_or,List.any_cons,Bool.or_assoc]
 intro ps
 unfold bkF
 rw[key,Nat.testBit_and,Nat.testBit_two_pow,Bool.and_comm]
theorem bk1_bp {f:Bool} {x:R5} (hx:(-1≤x.c∧x.c≤1)∧2≤x.d∧x.d≤x.e∧x.e≤51) {s t c d:Int} (hne:x.a≠x.b) (hf:if f=true then x.a=s∧x.b=t else x.a=t∧x.b=s) (hc:2≤c∧c≤51) (hd:2≤d∧d≤51):
  (bk1 f d x).testBit c.toNat=bpF x [(s,c),(t,d)]:=by
 have on1:onF [(s,c),(t,d)] s=c:=by rw[onF,if_pos rfl]
 cases f with
 | true=>
  rw[if_pos rfl] at hf
  obtain⟨rfl,rfl⟩:=hf
  have on2:onF [(x.a,c),(x.b,d)] x.b=d:=by rw[onF,if_neg hne,onF,if_pos rfl]
  unfold bpF bk1
  rw[on1,on2,if_pos rfl,decide_eq_false (show ¬c=0 by omega),decide_eq_false (show ¬d=0 by omega)]
  have hw:wrap64 (c+x.c)=c+x.c:=by unfold wrap64;omega
  rw[hw]
  by_cases h:x.d≤d - x.c∧d - x.c≤x.e
  ·rw[if_pos h,Nat.testBit_two_pow]
   by_cases hk:d=c+x.c
   ·rw[decide_eq_true (show (d - x.c).toNat=c.toNat by omega),decide_eq_true hk,decide_eq_true (show x.d≤c by omega),decide_eq_true (show c≤x.e by omega)];rfl
   ·rw[decide_eq_false (show ¬(d - x.c).toNat=c.toNat by omega),decide_eq_false hk];simp
  ·rw[if_neg h,Nat.zero_testBit]
   by_cases hk:d=c+x.c
   ·have h1:¬(x.d≤c∧c≤x.e):=by omega
    rw[decide_eq_true hk]
    by_cases h2:x.d≤c
    ·rw[decide_eq_true h2,decide_eq_false (show ¬c≤x.e by omega)];rfl
    ·rw[decide_eq_false h2];rfl
   ·rw[decide_eq_false hk];simp
 | false=>
  rw[if_neg (by decide)] at hf
  obtain⟨rfl,rfl⟩:=hf
  have hne':¬x.b=x.a:=fun e=>hne e.symm
  have on2:onF [(x.b,c),(x.a,d)] x.a=d:=by rw[onF,if_neg hne',onF,if_pos rfl]
  unfold bpF bk1
  rw[on1,on2,if_neg (by decide),decide_eq_false (show ¬c=0 by omega),decide_eq_false (show ¬d=0 by omega)]
  have hw:wrap64 (d+x.c)=d+x.c:=by unfold wrap64;omega
  rw[hw]
  by_cases h:x.d≤d∧d≤x.e
  ·rw[if_pos h,Nat.testBit_two_pow,decide_eq_true h.1,decide_eq_true h.2]
   by_cases hk:c=d+x.c
   ·rw[decide_eq_true hk,decide_eq_true (show (d+x.c).toNat=c.toNat by omega)];rfl
   ·rw[decide_eq_false hk,decide_eq_false (show ¬(d+x.c).toNat=c.toNat by omega)];rfl
  ·rw[if_neg h,Nat.zero_testBit]
   by_cases h2:x.d≤d
   ·rw[decide_eq_true h2,decide_eq_false (show ¬d≤x.e by omega)];rfl
   ·rw[decide_eq_false h2];rfl
structure LinkI (r:Rul) (s t:Int) (ps:List R5) (sh:Nat):Prop where
 pr:∀ x,x∈ps↔x∈r.pairs∧((x.a=s∧x.b=t)∨(x.a=t∧x.b=s))
 cm:∀ c:Int,2≤c→c≤51→sh.testBit c.toNat=r.loads.any (ldB r.caps s c t)
 lt:sh<18446744073709551616
theorem LinkI.symm {r:Rul} {s t:Int} {ps:List R5} {sh:Nat} (h:LinkI r s t ps sh):LinkI r t s ps sh:=
 ⟨fun x=>by rw[h.pr];exact and_congr_right fun _=>Or.comm,fun c h1 h2=>by
  rw[h.cm c h1 h2];congr 1;funext x;unfold ldB;rw[Bool.or_comm],h.lt⟩
theorem blk_bits {r:Rul} (hp:∀ x∈r.pairs,x.a<x.b∧(-1≤x.c∧x.c≤1)∧2≤x.d∧x.d≤x.e∧x.e≤51) {s t:Int} {ps:List R5} {sh:Nat} (h:LinkI r s t ps sh) (hst:s≠t) {c d:Int} (hc:2≤c∧c≤51) (hd:2≤d∧d≤51):
  (bkF (decide (s<t)) ps sh d).testBit c.toNat=blkd r s c t d:=by
 unfold blkd
 rw[if_neg hst,bkF_tb,h.cm c hc.1 hc.2,Bool.or_comm]
 congr 1
 ·rw[Bool.eq_iff_iff,List.any_eq_true,List.any_eq_true]
  constructor
  ·rintro⟨x,hx,hb⟩
   obtain⟨h1,h2⟩:=(h.pr x).1 hx
   have hxx:=hp x h1
   refine⟨x,h1,?_⟩
   rw[←bk1_bp (f:=decide (s<t)) hxx.2 (by omega) ?_ hc hd]
   ·exact hb
   ·rcases h2 with h2 | h2
    ·rw[if_pos (decide_eq_true (by omega))];exact h2
    ·rw[if_neg (by simp;omega)];exact h2
  ·rintro⟨x,hx,hb⟩
   have hxx:=hp x hx
   have h2:=bp_two (by omega) hb
   refine⟨x,(h.pr x).2 ⟨hx,h2⟩,?_⟩
   rw[bk1_bp hxx.2 (s:=s) (t:=t) (by omega) ?_ hc hd]
   ·exact hb
   ·rcases h2 with h2 | h2
    ·rw[if_pos (decide_eq_true (by omega))];exact h2
    ·rw[if_neg (by simp;omega)];exact h2
 ·congr 1
  rw[decide_eq_decide];omega
theorem chs_bit {l:List Int} (hl:∀ c∈l,2≤c∧c≤51) (k:Nat):(stS l).testBit k=decide ((k:Int)∈l):=by
 unfold stS
 rw[stS_bit,Nat.zero_testBit,Bool.false_or,Bool.eq_iff_iff,List.any_eq_true,decide_eq_true_eq]
 constructor
 ·rintro⟨c,hc,e⟩
  have:=hl c hc
  have e:c.toNat=k:=by simpa using e
  have:(k:Int)=c:=by omega
  rw[this];exact hc
 ·intro h
  exact⟨_,h,by simp⟩
theorem chs_lt64 {l:List Int} (hl:∀ c∈l,2≤c∧c≤51):stS l<18446744073709551616:=by
 refine lt64 (fun k hk=>?_)
 rw[chs_bit hl,decide_eq_false]
 intro h
 have:=hl _ h
 omega
theorem chs_as {l:List Int} (hl:∀ c∈l,2≤c∧c≤51) (hu:l.Pairwise (·<·)):l=((List.range 64).filter fun k:Nat=>decide ((k:Int)∈l)).map fun k:Nat=>(k:Int):=by
 refine inc_ext hu ?_ (fun x=>?_)
 ·rw[List.pairwise_map]
  exact(List.pairwise_lt_range.filter _).imp (fun {a b} h=>by omega)
 ·rw[List.mem_map]
  constructor
  ·intro h
   have:=hl x h
   refine⟨x.toNat,List.mem_filter.2 ⟨List.mem_range.2 (by omega),?_⟩,by omega⟩
   rw[decide_eq_true_eq,Int.toNat_of_nonneg (by omega)];exact h
  ·rintro⟨k,hk,rfl⟩
   exact of_decide_eq_true (List.mem_filter.1 hk).2
theorem pop_and {l:List Int} (hl:∀ c∈l,2≤c∧c≤51) (hu:l.Pairwise (·<·)) (y:Nat):pop (y &&& stS l)=l.countP fun c=>y.testBit c.toNat:=by
 conv=>rhs;rw[chs_as hl hu]
 rw[List.countP_map,List.countP_filter]
 unfold pop
 apply List.countP_congr
 intro k _
 rw[Nat.testBit_and,chs_bit hl]
 simp only[Function.comp_apply,Int.toNat_natCast]
theorem clear_low {x k:Nat} (hk:x.testBit k=true) (hlow:∀ j,j<k→x.testBit j=false) (i:Nat):(x &&& (x - 1)).testBit i=(decide (i≠k)&&x.testBit i):=by
 -- x=2 ^ k * (2 * q+1)
 have hm:x % 2 ^ k=0:=by
  apply Nat.eq_of_testBit_eq
  intro j
  rw[Nat.zero_testBit,Nat.testBit_mod_two_pow]
  by_cases hj:j<k
  ·rw[hlow j hj,Bool.and_false]
  ·rw[decide_eq_false hj,Bool.false_and]
 have ho:x / 2 ^ k % 2=1:=by
  rw[Nat.testBit_eq_decide_div_mod_eq,decide_eq_true_eq] at hk;exact hk
 have hx:x=2 ^ k * (2 * (x / 2 ^ k / 2))+2 ^ k:=by
  have h1:=Nat.div_add_mod x (2 ^ k)
  have h2:=Nat.div_add_mod (x / 2 ^ k) 2
  rw[hm,Nat.add_zero] at h1
  rw[ho] at h2
  conv=>lhs;rw[←h1,←h2]
  rw[Nat.mul_add,Nat.mul_one]
 generalize x / 2 ^ k / 2=q at hx
 have hp:0<2 ^ k:=Nat.two_pow_pos k
 have hx1:x - 1=2 ^ k * (2 * q)+(2 ^ k - 1):=by omega
 rw[Nat.testBit_and]
 have t1:x.testBit i=if i<k then false else (2 * q+1).testBit (i - k):=by
  have:x=2 ^ k * (2 * q+1)+0:=by rw[Nat.mul_add,Nat.mul_one,Nat.add_zero];exact hx
  rw[this,Nat.testBit_two_pow_mul_add _ hp,Nat.zero_testBit]
 have t2:(x - 1).testBit i=if i<k then true else (2 * q).testBit (i - k):=by
  rw[hx1,Nat.testBit_two_pow_mul_add _ (by omega),Nat.testBit_two_pow_sub_one]
  by_cases hi:i<k
  ·rw[if_pos hi,if_pos hi,decide_eq_true hi]
  ·rw[if_neg hi,if_neg hi]
 rw[t1,t2]
 by_cases hi:i<k
 ·rw[if_pos hi,if_pos hi];simp
 ·rw[if_neg hi,if_neg hi]
  by_cases hik:i=k
  ·subst hik
   rw[Nat.sub_self,decide_eq_false (by simp)]
   simp[Nat.testBit_zero]
  ·obtain⟨j,hj⟩:∃ j,i - k=j+1:=⟨i - k - 1,by omega⟩
   rw[hj,decide_eq_true hik,Bool.true_and,Nat.testBit_succ,Nat.testBit_succ]
   have e1:(2 * q+1) / 2=q:=by omega
   have e2:2 * q / 2=q:=by omega
   rw[e1,e2,Bool.and_self]
theorem chs_step {c:Int} {l:List Int} (hl:∀ x∈c::l,2≤x∧x≤51) (hu:(c::l).Pairwise (·<·)):stS (c::l)≠0∧(stS (c::l)).testBit c.toNat=true∧(∀ j,j<c.toNat→(stS (c::l)).testBit j=false)∧stS (c::l) &&& (stS (c::l) - 1)=stS l:=by
 rw[List.pairwise_cons] at hu
 have hc:=hl c (by simp)
 have h1:(stS (c::l)).testBit c.toNat=true:=by rw[chs_bit hl,decide_eq_true_eq,Int.toNat_of_nonneg (by omega)];simp
 have h2:∀ j,j<c.toNat→(stS (c::l)).testBit j=false:=fun j hj=>by
  rw[chs_bit hl,decide_eq_false_iff_not]
  intro hm
  rcases List.mem_cons.1 hm with e | hm
  ·omega
  ·have:=hu.1 _ hm;omega
 refine⟨(fun e=>by rw[e,Nat.zero_testBit] at h1;cases h1),h1,h2,?_⟩
 apply Nat.eq_of_testBit_eq
 intro i
 rw[clear_low h1 h2,chs_bit hl,chs_bit (fun x hx=>hl x (by simp[hx])),Bool.eq_iff_iff,Bool.and_eq_true,decide_eq_true_eq,decide_eq_true_eq,decide_eq_true_eq,List.mem_cons]
 constructor
 ·rintro⟨h3,h4 | h4⟩
  ·exact absurd (by omega) h3
  ·exact h4
 ·intro h3
  refine⟨fun e=>?_,.inr h3⟩
  have:=hu.1 _ h3
  omega
theorem blk_prog {D:Dms} {r:Rul} (hp:∀ x∈r.pairs,x.a<x.b∧(-1≤x.c∧x.c≤1)∧2≤x.d∧x.d≤x.e∧x.e≤51) {s t:Int} {ps:List R5} {sh:Nat} (h:LinkI r s t ps sh) (hst:s≠t)
  (hs:(∀ c∈chsOf D s,2≤c∧c≤51)∧(chsOf D s).Pairwise (·<·)) (ht:∀ c∈chsOf D t,2≤c∧c≤51):
  (chsOf D t).foldl (fun m d=>max m (pop (bkF (decide (s<t)) ps sh d &&& stS (chsOf D s)))) 0=blN D r s t:=by
 refine max_fold_congr _ _ _ _ (fun d hd=>?_)
 rw[pop_and hs.1 hs.2]
 unfold cntB
 apply List.countP_congr
 intro c hc
 rw[blk_bits hp h hst (hs.1 c hc) (ht d hd)]
end Go.Proofs.YtjakdikhdndlgaaGreatDoor
namespace Go.Proofs.YtjakdikhdndlgaaGreatDoor
open Go.RowKit
def stA (D:Dms) (k:Nat):Int:=(D.map Prod.fst).getD k 0
theorem stA_at {D:Dms} {k:Nat} {d:Int×List Int} (h:D[k]?=some d):stA D k=d.1:=by unfold stA;rw[List.getD_eq_getElem?_getD,List.getElem?_map,h];rfl
def bN (D:Dms) (r:Rul) (i j:Nat):Nat:=blN D r (stA D i) (stA D j)
def rmF (D:Dms) (r:Rul) (S:List Nat) (k:Nat):Int:=((chsOf D (stA D k)).length:Int) - (((S.map fun j=>bN D r k j).sum:Nat):Int)
theorem rm_easy (D:Dms) (r:Rul) (S:List Nat) (k:Nat):easyF D r (S.map (stA D)) (stA D k)=decide (0<rmF D r S k):=by
 unfold easyF rmF
 rw[List.map_map,decide_eq_decide]
 have:(S.map (blN D r (stA D k) ∘ stA D))=S.map fun j=>bN D r k j:=rfl
 rw[this]
 omega
theorem sum_filter_ne (f:Nat→Nat) (i:Nat):∀ S:List Nat,S.Nodup→i∈S→(S.map f).sum=((S.filter fun j=>!decide (j=i)).map f).sum+f i
 | [],_,h=>by cases h
 | x::q,hn,h=>by
  rw[List.nodup_cons] at hn
  rw[List.filter_cons,List.map_cons,List.sum_cons]
  by_cases hx:x=i
  ·subst hx
   rw[if_neg (by simp)]
   have:q.filter (fun j=>!decide (j=x))=q:=List.filter_eq_self.2 (fun y hy=>by simp;rintro rfl;exact hn.1 hy)
   rw[this];omega
  ·have hi:i∈q:=by
    rcases List.mem_cons.1 h with e | h
    ·exact absurd e.symm hx
    ·exact h
   rw[if_pos (by simp[hx]),List.map_cons,List.sum_cons,sum_filter_ne f i q hn.2 hi];omega
theorem rm_remove {D:Dms} {r:Rul} {S:List Nat} {i:Nat} (hn:S.Nodup) (hi:i∈S) (k:Nat):rmF D r (S.filter fun j=>!decide (j=i)) k=rmF D r S k+(bN D r k i:Int):=by
 unfold rmF
 rw[sum_filter_ne _ i S hn hi];omega
def upF (B:Nat→Nat) (l:List Nat) (R:List Int):List Int:=l.foldl (fun R o=>R.set o (R.getD o 0+(B o:Int))) R
theorem up_take {B:Nat→Nat} {l:List Nat} {R:List Int} {k o:Nat} (h:l[k]?=some o):upF B (l.take (k+1)) R=(upF B (l.take k) R).set o ((upF B (l.take k) R).getD o 0+(B o:Int)):=by
 unfold upF;rw[List.take_add_one,h,List.foldl_append];rfl
theorem up_len (B:Nat→Nat):∀(l:List Nat) (R:List Int),(upF B l R).length=R.length:=by
 intro l
 induction l with
 | nil=>intro R;rfl
 | cons o q ih=>intro R;show (upF B q _).length=_;rw[ih,List.length_set]
theorem up_get (B:Nat→Nat):∀(l:List Nat) (R:List Int),l.Nodup→(∀ o∈l,o<R.length)→∀ k,(upF B l R).getD k 0=R.getD k 0+if k∈l then (B k:Int) else 0:=by
 intro l
 induction l with
 | nil=>intro R _ _ k;simp[upF]
 | cons o q ih=>
  intro R hn hl k
  rw[List.nodup_cons] at hn
  show (upF B q (R.set o (R.getD o 0+(B o:Int)))).getD k 0=_
  rw[ih _ hn.2 (fun x hx=>by rw[List.length_set];exact hl x (by simp[hx]))]
  by_cases hk:k=o
  ·subst hk
   rw[if_neg hn.1,if_pos (by simp),List.getD_eq_getElem?_getD,List.getElem?_set,if_pos rfl,if_pos (hl k (by simp))];simp
  ·rw[List.getD_eq_getElem?_getD,List.getElem?_set,if_neg (fun e=>hk e.symm),←List.getD_eq_getElem?_getD]
   by_cases hkq:k∈q
   ·rw[if_pos hkq,if_pos (by simp[hkq])]
   ·rw[if_neg hkq,if_neg (by simp[hk,hkq])]
theorem up_bd (B:Nat→Nat) (hB:∀ k,B k≤64):∀(l:List Nat) (R:List Int) (a:Int),(∀ x∈R,-a≤x∧x≤a)→0≤a→∀ x∈upF B l R,-(a+64 * (l.length:Int))≤x∧x≤a+64 * (l.length:Int):=by
 intro l
 induction l with
 | nil=>intro R a h ha x hx;have:=h x hx;simp;omega
 | cons o q ih=>
  intro R a h ha x hx
  have hR:R.getD o 0≤a∧-a≤R.getD o 0:=by
   rw[List.getD_eq_getElem?_getD]
   cases ho:R[o]? with
   | none=>simp;omega
   | some y=>have:=h y (List.mem_of_getElem? ho);simp;omega
  have hb:=hB o
  have:=ih (R.set o (R.getD o 0+(B o:Int))) (a+64) (fun y hy=>by
   rcases List.mem_or_eq_of_mem_set hy with hy | rfl
   ·have:=h y hy;omega
   ·omega) (by omega) x hx
  rw[List.length_cons];omega
theorem up_room {D:Dms} {r:Rul} {n:Nat} {S:List Nat} {i:Nat} (hn:S.Nodup) (hi:i∈S) {l:List Nat} (hl:l.Nodup) (hlt:∀ o∈l,o<n) (h0:∀ k,k<n→k∉l→bN D r k i=0):
  upF (fun o=>bN D r o i) l ((List.range n).map (rmF D r S))=(List.range n).map (rmF D r (S.filter fun j=>!decide (j=i))):=by
 apply List.ext_getElem?
 intro k
 by_cases hk:k<n
 ·have h1:=up_get (fun o=>bN D r o i) l ((List.range n).map (rmF D r S)) hl (fun o ho=>by rw[List.length_map,List.length_range];exact hlt o ho) k
  have hlen:k<(upF (fun o=>bN D r o i) l ((List.range n).map (rmF D r S))).length:=by rw[up_len,List.length_map,List.length_range];exact hk
  rw[List.getD_eq_getElem?_getD,List.getElem?_eq_getElem hlen,List.getD_eq_getElem?_getD,List.getElem?_map,List.getElem?_range hk] at h1
  rw[List.getElem?_eq_getElem hlen,List.getElem?_map,List.getElem?_range hk,Option.map_some,rm_remove hn hi]
  congr 1
  simp only[Option.getD_some,Option.map_some] at h1
  rw[h1]
  by_cases hkl:k∈l
  ·rw[if_pos hkl]
  ·rw[if_neg hkl,h0 k hk hkl];rfl
 ·rw[List.getElem?_eq_none (by rw[up_len,List.length_map,List.length_range];omega),List.getElem?_eq_none (by rw[List.length_map,List.length_range];omega)]
theorem room_start {D:Dms} {r:Rul} {n i:Nat} {l:List Nat} (hl:l.Nodup) (hlt:∀ o∈l,o<n) (h0:∀ k,k<n→k∉l→bN D r i k=0):rmF D r (List.range n) i=((chsOf D (stA D i)).length:Int) - (((l.map (bN D r i)).sum:Nat):Int):=by
 unfold rmF
 have:(((List.range n).map fun j=>bN D r i j).sum)=(l.map (bN D r i)).sum:=by
  refine Nat.le_antisymm ?_ (sum_sub_mem _ hl (fun x hx=>List.mem_range.2 (hlt x hx)))
  have key:∀(a:List Nat),a.Nodup→(∀ x∈a,x<n)→(a.map fun j=>bN D r i j).sum≤(l.map (bN D r i)).sum:=by
   intro a ha hax
   have e1:(a.map fun j=>bN D r i j).sum=((a.filter fun j=>decide (j∈l)).map fun j=>bN D r i j).sum:=by
    clear ha
    induction a with
    | nil=>rfl
    | cons x q ih=>
     rw[List.filter_cons,List.map_cons,List.sum_cons,ih (fun y hy=>hax y (by simp[hy]))]
     by_cases hx:x∈l
     ·rw[if_pos (decide_eq_true hx),List.map_cons,List.sum_cons]
     ·rw[if_neg (by simpa using hx),h0 x (hax x (by simp)) hx];omega
   rw[e1]
   exact sum_sub_mem _ (ha.filter _) (fun x hx=>of_decide_eq_true (List.mem_filter.1 hx).2)
  exact key _ List.nodup_range (fun x hx=>List.mem_range.1 hx)
 rw[this]
theorem rm_bd {D:Dms} {r:Rul} (hD:∀ s,(chsOf D s).length≤50) {S:List Nat} {n:Nat} (hS:S.length≤n) (hn:n≤512) (k:Nat):-30000≤rmF D r S k∧rmF D r S k≤30000:=by
 have h1:(S.map fun j=>bN D r k j).sum≤50 * S.length:=by
  clear hS
  induction S with
  | nil=>exact Nat.le_refl _
  | cons x q ih=>
   rw[List.map_cons,List.sum_cons,List.length_cons]
   have:bN D r k x≤50:=Nat.le_trans (blk_le _ _ _ _) (hD _)
   omega
 have:=hD (stA D k)
 unfold rmF
 omega
theorem low_find {l:List Int} (hl:∀ c∈l,2≤c∧c≤51) (hu:l.Pairwise (·<·)) {x:Nat} {p:Int→Bool} (hx:∀ k:Nat,x.testBit k=(decide ((k:Int)∈l)&&p (k:Int))) {c:Int} (hc:l.find? p=some c):
  x≠0∧x.testBit c.toNat=true∧∀ j,j<c.toNat→x.testBit j=false:=by
 have hcm:=List.mem_of_find?_eq_some hc
 have hc2:=hl c hcm
 have hpc:=List.find?_some hc
 have e:((c.toNat:Nat):Int)=c:=Int.toNat_of_nonneg (by omega)
 have h1:x.testBit c.toNat=true:=by rw[hx,e,hpc,decide_eq_true hcm];rfl
 refine⟨(fun e=>by rw[e,Nat.zero_testBit] at h1;cases h1),h1,fun j hj=>?_⟩
 rw[hx]
 by_cases hm:(j:Int)∈l
 ·have:p (j:Int)=false:=by
   obtain⟨us,vs,hsplit,has⟩:=(List.find?_eq_some_iff_append.1 hc).2
   rw[hsplit] at hm hu
   rcases List.mem_append.1 hm with hm | hm
   ·have:=has _ hm;simpa using this
   ·rw[List.pairwise_append] at hu
    rcases List.mem_cons.1 hm with e2 | hm
    ·omega
    ·have:=(List.pairwise_cons.1 hu.2.1).1 _ hm;omega
  rw[this,Bool.and_false]
 ·rw[decide_eq_false hm];rfl
structure Lk where
 i:Nat
 j:Nat
 g:Nat
 A:Option Addr
 c:Nat
 ps:List R5
 sh:Nat
structure Nb where
 o:Nat
 f:Bool
 g:Nat
def Nb.cell (x:Nb):Nat→Value
 | 0=>.int .i64 x.o
 | 1=>.bool x.f
 | _=>.pointer (some ⟨x.g,0,none⟩)
def Lk.nb (l:Lk) (k:Nat):Option Nb:=if l.i=k then some ⟨l.j,true,l.g⟩ else if l.j=k then some ⟨l.i,false,l.g⟩ else none
def nbs (LK:List Lk) (k:Nat):List Nb:=LK.filterMap fun l=>l.nb k
def LkAt (W:World) (l:Lk):Prop:=(W.cell? ⟨l.g,0,none⟩=some (.slice l.A l.ps.length l.c)∧W.cell? ⟨l.g,1,none⟩=some (.int .u64 l.sh)∧l.g<W.heap.size)∧RowS 5 R5.cell W W.heap.size l.A l.ps.length l.ps
theorem LkAt.keep {W X:World} {l:Lk} (h:LkAt W l) (hb:Below W.heap.size W X):LkAt X l:=
 ⟨⟨(hb.cell (p:=⟨l.g,0,none⟩) h.1.2.2).trans h.1.1,(hb.cell (p:=⟨l.g,1,none⟩) h.1.2.2).trans h.1.2.1,Nat.lt_of_lt_of_le h.1.2.2 hb.size⟩,h.2.keep hb⟩
structure LkOk (l:Lk):Prop where
 ps:∀ x∈l.ps,(-1≤x.c∧x.c≤1)∧2≤x.d∧x.d≤x.e∧x.e≤51
 sh:l.sh<18446744073709551616
 len:l.ps.length≤4096
structure NH where
 A:Option Addr
 n:Nat
 c:Nat
def NH.val (h:NH):Value:=.slice h.A h.n h.c
def u64V (x:Nat):Value:=.int .u64 (x:Int)
def idxF (D:Dms) (s:Nat):Nat:=match (D.map Prod.fst).findIdx? (fun x=>decide (x=(s:Int))) with
 | some i=>i+1
 | none=>0
structure TabR (W:World) (t:Nat) (D:Dms) (LK:List Lk):Prop where
 ex:∃(A0 A1 A2:Option Addr) (c0 c1 c2:Nat) (NV:List NH),NV.length=D.length ∧
  W.cell? ⟨t,0,none⟩=some (.slice A0 D.length c0)∧W.cell? ⟨t,1,none⟩=some (.slice A1 D.length c1)∧W.cell? ⟨t,2,none⟩=some (.slice A2 D.length c2) ∧
  Row1 intV W W.heap.size A0 D.length (D.map Prod.fst)∧Row1 u64V W W.heap.size A1 D.length (D.map fun d=>stS d.2)∧Row1 NH.val W W.heap.size A2 D.length NV ∧
  ∀ k h,NV[k]?=some h→RowS 3 Nb.cell W W.heap.size h.A h.n (nbs LK k)
 idx:∀ s:Nat,s<512→W.cell? ⟨t,3+s,none⟩=some (.int .i64 (idxF D s))
 lt:t<W.heap.size
 lk:∀ l∈LK,LkAt W l
theorem TabR.keep {W X:World} {t:Nat} {D:Dms} {LK:List Lk} (h:TabR W t D LK) (hb:Below W.heap.size W X):TabR X t D LK:=by
 obtain⟨⟨A0,A1,A2,c0,c1,c2,NV,h1,h2,h3,h4,h5,h6,h7,h8⟩,hi,ht,hl⟩:=h
 exact⟨⟨A0,A1,A2,c0,c1,c2,NV,h1,(hb.cell (p:=⟨t,0,none⟩) ht).trans h2,(hb.cell (p:=⟨t,1,none⟩) ht).trans h3,(hb.cell (p:=⟨t,2,none⟩) ht).trans h4,h5.keep hb,h6.keep hb,h7.keep hb,fun k x hx=>(h8 k x hx).keep hb⟩,
  fun s hs=>(hb.cell (p:=⟨t,3+s,none⟩) ht).trans (hi s hs),Nat.lt_of_lt_of_le ht hb.size,fun l hm=>(hl l hm).keep hb⟩
end Go.Proofs.YtjakdikhdndlgaaGreatDoor
