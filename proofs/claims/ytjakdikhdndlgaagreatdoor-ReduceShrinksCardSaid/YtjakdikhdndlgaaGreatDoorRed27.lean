/- The reference of layer 17: SameList. Printed by gensl19.py. -/
import Derived.Test.YtjakdikhdndlgaaGreatDoorRed21
import Derived.Test.YtjakdikhdndlgaaGreatDoorRed26
set_option maxRecDepth 100000
set_option maxHeartbeats 40000000
namespace Go.Proofs.YtjakdikhdndlgaaGreatDoor
open Go.RowKit
def peelR (ds:List Dom) (r:Rul):List Int×Int:=if validP ds r then ((peelF (ds.map Dom.say) r).1,0) else ([],2)
theorem rpeel_any (ps:PrbS) (w:World) (hT:Tab w) (ds:List Dom) (r:Rul) (hn:ps.nd≤9223372036854775807) (hd:∀ d∈ds,d.len≤9223372036854775807) (h:PrbAt w w.heap.size ps ds r):
  Calls Tryz.prog 16 #[ps.val] w (ListPost (peelR ds r) w):=by
 obtain⟨i0,hi,hz0,hz1,hz2⟩:=info_parts int_info
 have HPV:=Lib.hid (fun W (hb:Below w.heap.size w W)=>pvalid_any ps W ds r hn hd ⟨h.1.keep hb,h.2.keep hb⟩)
 obtain⟨D,hD⟩:∃ D,D=ds.map Dom.say:=⟨_,rfl⟩
 have HAR:Hid (validP ds r=true→∀ W,Below w.heap.size w W→Calls Tryz.prog 42 #[ps.val] W (ArPost D r W)):=Lib.hid (fun hv W hb=>by
  obtain⟨h1,h2,h3⟩:=prij hv
  rw[hD]
  exact arrange_any ps W ds r ⟨h.1.keep hb,h.2.keep hb⟩ h1 h2 h3)
 have HPE:Hid (validP ds r=true→∀ tb LK W,Below w.heap.size w W→TabR W tb D LK→LkAll D r LK→Calls Tryz.prog 43 #[.pointer (some ⟨tb,0,none⟩)] W (PeelPost D r W)):=Lib.hid (fun hv tb LK W hb ht hl=>by
  obtain⟨h1,h2,h3⟩:=prij hv
  rw[←hD] at h1
  exact peel_any tb D LK r W (hT.keep hb) ht hl h1)
 have HLEN:Hid (validP ds r=true→D.length≤512):=Lib.hid (fun hv=>by
  obtain⟨hp,_,_⟩:=prij hv
  rw[←hD] at hp
  exact hp.len)
 have HSF:Hid (∀ b,validP ds r=b→peelR ds r=if b then ((peelF D r).1,0) else ([],(2:Int))):=Lib.hid (fun b hb=>by unfold peelR;rw[hb,hD])
 generalize peelR ds r=R at *
 generalize validP ds r=v at *
 clear h hT hD
 obtain⟨Ad,nd,cd,⟨A0,n0,c0,A1,n1,c1,A2,n2,c2⟩⟩:=ps
 unfold PrbS.val at *
 dsimp only at *
 obtain⟨W0,hW0⟩:∃ W0,W0=w.alloc (.cells #[.slice Ad nd cd,.slice A0 n0 c0,.slice A1 n1 c1,.slice A2 n2 c2] 29):=⟨_,rfl⟩
 have hB0:Below w.heap.size w W0:=by rw[hW0];exact(Below.refl _ w).alloc (Nat.le_refl _) _
 have hX:Blk W0 w.heap.size 29 [.slice Ad nd cd,.slice A0 n0 c0,.slice A1 n1 c1,.slice A2 n2 c2]:=by rw[hW0];exact blk_new w _ _
 have q0:=hX.cell (i:=0) rfl
 have q1:=hX.cell (i:=1) rfl
 have q2:=hX.cell (i:=2) rfl
 have q3:=hX.cell (i:=3) rfl
 have q4:=hX.lt
 have HX:=Lib.hid hX
 have HB0:=Lib.hid hB0
 clear hX hB0
 go_enter Tryz.func16,Tryz.ntmps16
 go_upto_region 1 with fail
 rw[←hW0]
 clear hW0
 go_wp2_with fail
 refine(HPV.out _ HB0.out).mono ?_
 rintro e W1 ⟨rfl,hb1⟩
 have HB1:=Lib.hid (HB0.out.trans (hb1.mono HB0.out.size))
 have HX1:=Lib.hid (HX.out.keep hb1)
 clear hb1 q0 q1 q2 q3 q4
 cases v with
 | false=>
  obtain rfl:=HSF.out _ rfl
  go_wp2_with fail
  refine bodyPost_ret (v:=.tuple #[.slice none 0 0,.int .i64 2]) (by simp[results,Tryz.results16,go_sem]) rfl ⟨_,rfl,World.ownsRow_nil _ _ _ _,HB1.out⟩
 | true=>
  have hR:=HSF.out _ rfl
  rw[if_pos rfl] at hR
  have HR:=Eqn.mk hR
  have q0:=HX1.out.cell (i:=0) rfl
  have q1:=HX1.out.cell (i:=1) rfl
  have q2:=HX1.out.cell (i:=2) rfl
  have q3:=HX1.out.cell (i:=3) rfl
  have q4:=HX1.out.lt
  clear HPV hR
  go_wp2_with fail
  refine(HAR.out trivial _ HB1.out).mono ?_
  rintro e W2 ⟨tb,LK,rfl,hTB,hLK,hb2⟩
  have HB2:=Lib.hid (HB1.out.trans (hb2.mono HB1.out.size))
  have HTB:=Lib.hid hTB
  have HLK:=Lib.hid hLK
  have HPL:=Lib.hid (HPE.out trivial tb LK W2 HB2.out hTB hLK)
  clear hb2 hTB hLK HAR HPE q0 q1 q2 q3 q4
  have hdl:=HLEN.out trivial
  go_wp2_with fail
  refine HPL.out.mono ?_
  rintro e W3 ⟨O,hO,hol,hon,v,rfl,hown,hb3⟩
  obtain⟨A9,c9,rfl,hr9,_⟩:=own_form hown
  have hO9:O.length=(O.map fun o:Nat=>(o:Int)).length:=by rw[List.length_map]
  have HO:=Eqn.mk hO
  have HOL:=Lib.hid hol
  have HR9:=Lib.hid hr9
  have hlo:O.length≤512:=by
   have:=nat_len hon hol
   omega
  have HB3:=Lib.hid (HB2.out.trans (hb3.mono HB2.out.size))
  have HTB3:=Lib.hid (HTB.out.keep hb3)
  have HP0:=Lib.hid ((Hp.start W3).nil 3 1)
  clear hO hol hon hown hr9 hb3 HPL hO9
  go_wp2_with fail
  go_loopw [5,16] (fun av iv wr=>∃(k:Nat) (A:Option Addr) (c:Nat),k≤O.length∧iv=.int .i64 k∧av=.slice A k c∧Below W3.heap.size W3 wr∧Hp W3 W3 wr [.row (.slice A k c) 3 1 k (((O.take k).map (stA D)).map intV)] []) (fun av iv _=>O.length - (intOf iv).toNat)
  case atStart=>exact⟨0,none,0,Nat.zero_le _,rfl,rfl,Below.refl _ _,HP0.out⟩
  case round=>
   clear HP0
   obtain⟨k,A,c,hk,rfl,rfl,hbw,hP⟩:=hrel
   have HBW:=Lib.hid hbw
   have HP:=Lib.hid hP
   by_cases hkl:k<O.length
   ·have j0:(k:Int)<(O.length:Int):=by omega
    obtain⟨o,ho⟩:∃ o,O[k]?=some o:=⟨_,List.getElem?_eq_getElem hkl⟩
    have hod:=HOL.out o (List.mem_of_getElem? ho)
    have j1:(o:Int)<(D.length:Int):=by omega
    obtain⟨b9,o9,rfl,hb9,hc9⟩:=(HR9.out.below hbw).2 (by omega)
    have x0:wr.cell? ⟨b9,o9+k,none⟩=some (.int .i64 (o:Int)):=hc9 k o (by rw[List.getElem?_map,ho];rfl)
    obtain⟨⟨B0,B1,B2,d0,d1,d2,NV,hnv,p0,p1,p2,hr0,hr1,hr2,hr3⟩,_,ht,_⟩:=HTB3.out.keep hbw
    obtain⟨b1,o1,rfl,hb1,hc1⟩:=hr0.2 (by omega)
    have x1:wr.cell? ⟨b1,o1+o,none⟩=some (.int .i64 (stA D o)):=hc1 o (stA D o) (by
     unfold stA
     rw[List.getD_eq_getElem?_getD,List.getElem?_eq_getElem (by rw[List.length_map];exact hod)];rfl)
    have HTK:Hid ((O.take (k+1)).map (stA D)=(O.take k).map (stA D)++[stA D o]):=Lib.hid (by rw[List.take_add_one,ho,Option.toList_some,List.map_append];rfl)
    have HLB:Hid (wr.heap.size≤wr.heap.size):=Lib.hid (Nat.le_refl _)
    generalize stA D o=so at *
    clear HLB hc9 hc1 hr0 hr1 hr2 hr3 hnv p1 p2 hbw hP ho
    go_upto_region 9 with (at_builtin;refine wpList_append_own_at _ rfl _ _ 32 rfl W3.heap.size 3 i0 (.int .i64 0) 1 8 Tryz.underlying32 hi hz0 hz1 hz2 rfl (by decide) _ _ _ rfl ((HP.out.row 0 rfl).alloc _) ⟨wr.heap.size,0,none⟩ 1 1 [.int .i64 so] rfl rfl (cell_one_new _ _ _) (by simp[Value.oneCell']) (by unfold maxLen;omega) (by omega) (by have:=HP.out.below.size;simp;omega) ?_;intro v7 w7 hown' hgrow _ hat;have HP7:=Lib.hid ((HP.out.alloc0 _).grow 0 rfl hgrow hown' hat);have HG7:=Lib.hid hgrow;obtain⟨A7,cp7,rfl⟩:=HP7.out.form 0 rfl;clear hown' hgrow hat)
    have HP8:Hid (Hp W3 W3 w7 [.row (.slice A7 (k+1) cp7) 3 1 (k+1) (((O.take (k+1)).map (stA D)).map intV)] []):=Lib.hid (by
     have h:=HP7.out.base
     rw[HTK.out,List.map_append]
     exact h)
    have HBW8:=Lib.hid HP8.out.below
    clear HP7 HG7 HP
    go_wp2_with fail
    go_roundw
    case rel=>exact⟨k+1,A7,cp7,hkl,by go_num,rfl,HBW8.out,HP8.out⟩
    case measure=>simp[intOf];omega
   ·obtain rfl:k=O.length:=by omega
    have j0:¬((O.length:Nat):Int)<(O.length:Int):=by omega
    have HRO:Hid (wr.ownsRow w.heap.size 3 1 (.slice A O.length c) (peelF D r).1.length ((peelF D r).1.map intV)):=Lib.hid (by
     have h:=hP.row 0 rfl
     rw[List.take_of_length_le (Nat.le_refl _),HO.out] at h
     have e:O.length=(peelF D r).1.length:=by rw[←HO.out,List.length_map]
     rw[←e]
     exact own_low h HB3.out.size)
    have HB9:=Lib.hid (HB3.out.trans (hP.below.mono HB3.out.size))
    have hR:=HR.out
    clear hbw hP HP
    go_wp2_with fail
    subst hR
    refine bodyPost_ret (v:=.tuple #[.slice A O.length c,.int .i64 0]) (by simp[results,Tryz.results16,go_sem]) rfl ⟨_,rfl,HRO.out,HB9.out⟩
def coreR (ds:List Dom) (r:Rul):List Int×Int:=if validP ds r then ((peelF (ds.map Dom.say) r).2,0) else ([],2)
theorem peel_in {D:Dms} {r:Rul} {s:Int} (h:s∈(peelF D r).1):s∈D.map Prod.fst:=by
 rcases(peelG_mem D r D.length [] (D.map Prod.fst) s).1 (.inl h) with h | h
 ·cases h
 ·exact h
theorem core_bits {D:Dms} {r:Rul} (hr:∀ y∈D.map Prod.fst,0≤y∧y<512):mi (stS (D.map Prod.fst)) (stS (peelF D r).1)=stS (peelF D r).2:=by
 apply Nat.eq_of_testBit_eq
 intro k
 rw[mi_tb,st_bit,st_bit,st_bit,Bool.eq_iff_iff,Bool.and_eq_true,Bool.not_eq_true',List.any_eq_true,List.any_eq_false,List.any_eq_true]
 simp only[beq_iff_eq]
 constructor
 ·rintro⟨⟨s,hs,hk⟩,hn⟩
  rcases(peelG_mem D r D.length [] (D.map Prod.fst) s).2 (.inr hs) with h | h
  ·exact absurd hk (hn s h)
  ·exact⟨s,h,hk⟩
 ·rintro⟨s,hs,hk⟩
  have hsD:=core_sub D r s hs
  refine⟨⟨s,hsD,hk⟩,fun t ht hk2=>?_⟩
  have h1:=hr _ hsD
  have h2:=hr _ (peel_in ht)
  have:t=s:=by omega
  subst this
  exact peelG_disj D r D.length [] (D.map Prod.fst) (fun _ h=>(by cases h)) t ht hs
theorem lp_form {L:List Int} {k:Int} {w:World} {e:Ending} {w':World} (h:ListPost (L,k) w e w'):∃ A c,e=.returned (.tuple #[.slice A L.length c,.int .i64 k])∧Row1 intV w' w'.heap.size A L.length L∧L.length≤maxLen∧Below w.heap.size w w':=by
 obtain⟨v,rfl,ho,hb⟩:=h
 obtain⟨A,c,rfl,hr,_⟩:=own_form ho
 refine⟨A,c,rfl,hr,?_,hb⟩
 rcases ho.2 with ⟨_,h0⟩ | ⟨g,cap,cur,_,_,_,hc1,hc2,_⟩
 ·have h0:L.length=0:=h0
  rw[h0];exact Nat.zero_le _
 ·exact Nat.le_trans hc1 hc2
theorem rcore_any (ps:PrbS) (w:World) (hT:Tab w) (ds:List Dom) (r:Rul) (hn:ps.nd≤9223372036854775807) (hd:∀ d∈ds,d.len≤9223372036854775807) (h:PrbAt w w.heap.size ps ds r):
  Calls Tryz.prog 12 #[ps.val] w (ListPost (coreR ds r) w):=by
 obtain⟨L1,e1,hR1⟩:∃ L1 e1,statF ds r=(L1,e1):=⟨_,_,rfl⟩
 obtain⟨L2,e2,hR2⟩:∃ L2 e2,peelR ds r=(L2,e2):=⟨_,_,rfl⟩
 have HST:=Lib.hid (fun W (hb:Below w.heap.size w W)=>(stations_any ps W (hT.keep hb) ds r hn hd ⟨h.1.keep hb,h.2.keep hb⟩).mono (fun e w' hh=>lp_form (L:=L1) (k:=e1) (by rw[hR1] at hh;exact hh)))
 have HPE:=Lib.hid (fun W (hb:Below w.heap.size w W)=>(rpeel_any ps W (hT.keep hb) ds r hn hd ⟨h.1.keep hb,h.2.keep hb⟩).mono (fun e w' hh=>lp_form (L:=L2) (k:=e2) (by rw[hR2] at hh;exact hh)))
 have HTW:=Lib.hid hT
 obtain⟨D,hD⟩:∃ D,D=ds.map Dom.say:=⟨_,rfl⟩
 have HS1:Hid (∀ b,validP ds r=b→if b then L1=D.map Prod.fst∧e1=0 else L1=[]∧e1=2):=Lib.hid (fun b hb=>by
  unfold statF at hR1
  rw[hb,←say_fst,←hD] at hR1
  cases b<;>simp at hR1<;>simp[hR1])
 have HS2:Hid (∀ b,validP ds r=b→if b then L2=(peelF D r).1∧e2=0 else L2=[]∧e2=2):=Lib.hid (fun b hb=>by
  unfold peelR at hR2
  rw[hb,←hD] at hR2
  cases b<;>simp at hR2<;>simp[hR2])
 have HS3:Hid (∀ b,validP ds r=b→coreR ds r=if b then ((peelF D r).2,0) else ([],(2:Int))):=Lib.hid (fun b hb=>by unfold coreR;rw[hb,hD])
 have HVV:Hid (validP ds r=true→(∀ y∈D.map Prod.fst,0≤y∧y<512)∧(D.map Prod.fst).Pairwise (·<·)∧D.length≤512):=Lib.hid (fun hv=>by
  obtain⟨h1,h2,h3⟩:=prij hv
  rw[←hD] at h1 h2 h3
  exact⟨h2.st,h3,h1.len⟩)
 clear hR1 hR2
 generalize coreR ds r=R at *
 generalize validP ds r=v at *
 clear h hT hD
 obtain⟨Ad,nd,cd,⟨A0,n0,c0,A1,n1,c1,A2,n2,c2⟩⟩:=ps
 unfold PrbS.val at *
 dsimp only at *
 obtain⟨W0,hW0⟩:∃ W0,W0=w.alloc (.cells #[.slice Ad nd cd,.slice A0 n0 c0,.slice A1 n1 c1,.slice A2 n2 c2] 29):=⟨_,rfl⟩
 have hB0:Below w.heap.size w W0:=by rw[hW0];exact(Below.refl _ w).alloc (Nat.le_refl _) _
 have hX:Blk W0 w.heap.size 29 [.slice Ad nd cd,.slice A0 n0 c0,.slice A1 n1 c1,.slice A2 n2 c2]:=by rw[hW0];exact blk_new w _ _
 have q0:=hX.cell (i:=0) rfl
 have q1:=hX.cell (i:=1) rfl
 have q2:=hX.cell (i:=2) rfl
 have q3:=hX.cell (i:=3) rfl
 have q4:=hX.lt
 have HX:=Lib.hid hX
 have HB0:=Lib.hid hB0
 clear hX hB0
 go_enter Tryz.func12,Tryz.ntmps12
 go_upto_region 1 with fail
 rw[←hW0]
 clear hW0
 go_wp2_with fail
 refine(HST.out _ HB0.out).mono ?_
 rintro e W1 ⟨Aa,ca,rfl,hra,_,hb1⟩
 have HB1:=Lib.hid (HB0.out.trans (hb1.mono HB0.out.size))
 have HX1:=Lib.hid (HX.out.keep hb1)
 have HRA:=Lib.hid hra
 clear hb1 q0 q1 q2 q3 q4 hra
 cases v with
 | false=>
  obtain⟨rfl,rfl⟩:=HS1.out false rfl
  have hR:R=([],2):=HS3.out false rfl
  subst hR
  go_wp2_with fail
  refine bodyPost_ret (v:=.tuple #[.slice none 0 0,.int .i64 2]) (by simp[results,Tryz.results12,go_sem]) rfl ⟨_,rfl,World.ownsRow_nil _ _ _ _,HB1.out⟩
 | true=>
  obtain⟨rfl,rfl⟩:=HS1.out true rfl
  obtain⟨rfl,rfl⟩:=HS2.out true rfl
  have hR:R=((peelF D r).2,0):=HS3.out true rfl
  subst hR
  obtain⟨hv1,hv2,hv3⟩:=HVV.out rfl
  have q0:=HX1.out.cell (i:=0) rfl
  have q1:=HX1.out.cell (i:=1) rfl
  have q2:=HX1.out.cell (i:=2) rfl
  have q3:=HX1.out.cell (i:=3) rfl
  have q4:=HX1.out.lt
  clear HS1 HS2 HS3 HVV HST
  go_wp2_with fail
  refine(HPE.out _ HB1.out).mono ?_
  rintro e W2 ⟨Ap,cp,rfl,hrp,hpm,hb2⟩
  have HB2:=Lib.hid (HB1.out.trans (hb2.mono HB1.out.size))
  have HRA2:=Lib.hid (HRA.out.keep hb2)
  have hpl:(peelF D r).1.length≤9223372036854775807:=by unfold maxLen at hpm;omega
  have HPI:Hid (∀ y∈(peelF D r).1,0≤y∧y<512):=Lib.hid (fun y hy=>hv1 y (peel_in hy))
  have HO1:Hid (∀ W,Below W2.heap.size W2 W→Calls Tryz.prog 37 #[.slice Aa D.length ca] W (RetPost (.tuple #[sV (stS (D.map Prod.fst)),.int .i64 0]) W.heap.size W)):=Lib.hid (fun W hb=>by have:=of_any Aa (D.map Prod.fst).length ca W _ (by rw[List.length_map];omega) (HRA2.out.keep hb);rw[ofF_in hv1,List.length_map] at this;exact this)
  have HRP:=Lib.hid hrp
  have HO2:Hid (∀ W,Below W2.heap.size W2 W→Calls Tryz.prog 37 #[.slice Ap (peelF D r).1.length cp] W (RetPost (.tuple #[sV (stS (peelF D r).1),.int .i64 0]) W.heap.size W)):=Lib.hid (fun W hb=>by have:=of_any Ap (peelF D r).1.length cp W _ hpl (HRP.out.keep hb);rw[ofF_in HPI.out] at this;exact this)
  have HMI:Hid (∀ W,Calls Tryz.prog 38 #[sV (stS (D.map Prod.fst)),sV (stS (peelF D r).1)] W (RetPost (sV (stS (peelF D r).2)) W.heap.size W)):=Lib.hid (fun W=>by have:=minus_any (stS (D.map Prod.fst)) (stS (peelF D r).1) W;rw[core_bits hv1] at this;exact this)
  have HLI:Hid (∀ W,Below w.heap.size w W→Calls Tryz.prog 39 #[sV (stS (peelF D r).2)] W (NewInts (peelF D r).2 W)):=Lib.hid (fun W hb=>by
   have hC:∀ y∈(peelF D r).2,0≤y∧y<512:=fun y hy=>hv1 y (core_sub D r y hy)
   have:=list_any (stS (peelF D r).2) W (stS_fit hC) (HTW.out.keep hb)
   rw[st_list hC (by rw[core_list];exact hv2.filter _)] at this
   exact this)
  clear hb2 q0 q1 q2 q3 q4 hpm hrp hv1 hv2 hv3 hpl HPE HRA
  generalize stS (D.map Prod.fst)=S at *
  generalize stS (peelF D r).1=T at *
  generalize stS (peelF D r).2=U at *
  unfold sV at HO1 HO2 HMI HLI
  generalize (peelF D r).1.length=np at *
  go_wp2_with fail
  refine(HO1.out _ (Below.refl _ _)).mono ?_
  rintro e W3 ⟨rfl,hb3⟩
  obtain⟨V3,hV3⟩:∃ V,V=W3.alloc (.cells (sL S).toArray 79):=⟨_,rfl⟩
  have HX3:Hid (Blk V3 W3.heap.size 79 (sL S)):=Lib.hid (by rw[hV3];exact blk_new _ _ _)
  have HB3:Hid (Below W2.heap.size W2 V3):=Lib.hid (by rw[hV3];exact hb3.alloc hb3.size _)
  clear hb3
  unfold sL at hV3
  go_upto_region 8 with fail
  rw[←hV3]
  clear hV3
  generalize W3.heap.size=p7 at *
  go_wp2_with fail
  refine(HO2.out _ HB3.out).mono ?_
  rintro e W4 ⟨rfl,hb4⟩
  obtain⟨V4,hV4⟩:∃ V,V=W4.alloc (.cells (sL T).toArray 79):=⟨_,rfl⟩
  have HX4:Hid (Blk V4 W4.heap.size 79 (sL T)):=Lib.hid (by rw[hV4];exact blk_new _ _ _)
  have HX5:Hid (Blk V4 p7 79 (sL S)):=Lib.hid (by rw[hV4];exact(HX3.out.keep hb4).alloc _)
  have HB4:Hid (Below w.heap.size w V4):=Lib.hid (by
   rw[hV4]
   have h1:=HB3.out.trans (hb4.mono HB3.out.size)
   exact HB2.out.trans ((h1.alloc h1.size _).mono HB2.out.size))
  clear hb4 HX3 HB3
  unfold sL at hV4
  go_upto_region 9 with fail
  rw[←hV4]
  clear hV4
  generalize W4.heap.size=p9 at *
  have a0:=HX5.out.cell (i:=0) rfl
  have a1:=HX5.out.cell (i:=1) rfl
  have a2:=HX5.out.cell (i:=2) rfl
  have a3:=HX5.out.cell (i:=3) rfl
  have a4:=HX5.out.cell (i:=4) rfl
  have a5:=HX5.out.cell (i:=5) rfl
  have a6:=HX5.out.cell (i:=6) rfl
  have a7:=HX5.out.cell (i:=7) rfl
  have a8:=HX5.out.lt
  have b0:=HX4.out.cell (i:=0) rfl
  have b1:=HX4.out.cell (i:=1) rfl
  have b2:=HX4.out.cell (i:=2) rfl
  have b3:=HX4.out.cell (i:=3) rfl
  have b4:=HX4.out.cell (i:=4) rfl
  have b5:=HX4.out.cell (i:=5) rfl
  have b6:=HX4.out.cell (i:=6) rfl
  have b7:=HX4.out.cell (i:=7) rfl
  have b8:=HX4.out.lt
  go_wp2_with fail
  refine(HMI.out _).mono ?_
  rintro e W5 ⟨rfl,hb5⟩
  have HB5:=Lib.hid (HB4.out.trans (hb5.mono HB4.out.size))
  clear hb5 a0 a1 a2 a3 a4 a5 a6 a7 a8 b0 b1 b2 b3 b4 b5 b6 b7 b8
  go_wp2_with fail
  refine(HLI.out _ HB5.out).mono ?_
  rintro e W6 ⟨vl,rfl,howl,hb6⟩
  have HWL:=Lib.hid (own_low howl HB5.out.size)
  have HB6:=Lib.hid (HB5.out.trans (hb6.mono HB5.out.size))
  obtain⟨Al,cl,rfl,_,_⟩:=own_form howl
  clear howl hb6
  go_wp2_with fail
  refine bodyPost_ret (v:=.tuple #[.slice Al (peelF D r).2.length cl,.int .i64 0]) (by simp[results,Tryz.results12,go_sem]) rfl ⟨_,rfl,HWL.out,HB6.out⟩
end Go.Proofs.YtjakdikhdndlgaaGreatDoor
namespace Go.Proofs.YtjakdikhdndlgaaGreatDoor
open Go.RowKit Go.Shelf
theorem Hp.kp2 {gb rb:Nat} {w u W X:World} {L:List Ent} (h:Hp w u W L []) (hk:Kp2 gb rb W X) (h1:w.heap.size≤gb) (h2:w.heap.size≤rb) (hn:∀ e∈L,∀ g,e.dst=some g→g≠gb∧g≠rb):Hp w w X L []:=
 have hb:Below w.heap.size w X:=h.below.trans (hk.1 _ h1 h2 h.below.size)
 ⟨hb,⟨hb.size,fun k _ hk' _=>(hb.block k (Array.getElem?_eq_some_iff.1 hk').1).trans hk'⟩,fun e he=>Ent.same (h.all e he) (fun g hg=>hk.2.2 g (Ent.lt (h.all e he) hg) (hn e he g hg).1 (hn e he g hg).2),h.low,h.apart,fun _ hd=>(by cases hd),List.Pairwise.nil⟩
theorem Hp.joinN {w u W V X:World} {L L':List Ent} {ds:List Nat} (h:Hp w u W L ds) (hb:Below W.heap.size W X) (h':Hp W V X L' []):Hp w u X (L++L') ds:=by
 have hk:=h.keep hb
 refine⟨hk.below,hk.since,?_,?_,?_,hk.marks,hk.nodup⟩
 ·intro e he
  rcases List.mem_append.1 he with h1 | h1
  ·exact hk.all e h1
  ·exact Ent.mono (h'.all e h1) h.below.size
 ·intro e he g hg
  rcases List.mem_append.1 he with h1 | h1
  ·exact hk.low e h1 g hg
  ·exact Nat.le_trans h.below.size (h'.low e h1 g hg)
 ·refine List.pairwise_append.2 ⟨hk.apart,h'.apart,fun a ha b hb' g hga hgb=>?_⟩
  have:=Ent.lt (h.all a ha) hga
  have:=h'.low b hb' g hgb
  omega
theorem gcS_in {S:List Nat} (hI:InG S):∀ k,k≤S.length→∀ p∈(gcS S k).2,∀ x∈p,0≤x∧x<(S.length:Int):=by
 intro k
 induction k with
 | zero=>intro _ p hp;cases hp
 | succ k ih=>
  intro hk p hp x hx
  rw[gcS_succ] at hp
  split at hp
  ·exact ih (by omega) p hp x hx
  ·rcases List.mem_append.1 hp with hp | hp
   ·exact ih (by omega) p hp x hx
   ·rw[List.mem_singleton] at hp
    subst hp
    unfold memI at hx
    obtain⟨b,hb,rfl⟩:=List.mem_map.1 hx
    have:=mem_tb hb
    rw[reachM_tb] at this
    have:=rch_lt hI (by omega) this.2
    omega
abbrev Cs:=List ((Option Addr×Nat×Nat)×List Int)
theorem exI_at {L:List Ent} {X:Cs} {j b:Nat} {x:(Option Addr×Nat×Nat)×List Int} (hb:L.length=b) (h:X[j]?=some x):(L++exI X)[b+j]?=some (.row (sv x.1) 3 1 x.2.length (x.2.map intV)):=by
 subst hb
 rw[List.getElem?_append_right (by omega),Nat.add_sub_cancel_left]
 unfold exI
 rw[List.getElem?_map,h];rfl
theorem exI_set {L:List Ent} {X:Cs} {j b:Nat} (hb:L.length=b) (a:Option Addr×Nat×Nat) (Y:List Int):(L++exI X).set (b+j) (.row (sv a) 3 1 Y.length (Y.map intV))=L++exI (X.set j (a,Y)):=by
 subst hb
 rw[List.set_append_right _ _ (by omega),Nat.add_sub_cancel_left]
 unfold exI
 rw[List.map_set]
def nmK (f:Int→Int) (X:Cs) (j:Nat):Cs:=(X.take j).map (fun x=>(x.1,x.2.map f))++X.drop j
def nmI (f:Int→Int) (P:List Int) (a:Nat):List Int:=(P.take a).map f++P.drop a
theorem nmI_len (f:Int→Int) (P:List Int) (a:Nat):(nmI f P a).length=P.length:=by unfold nmI;simp;omega
theorem nmI_at {f:Int→Int} {P:List Int} {a:Nat} {x:Int} (h:P[a]?=some x):(nmI f P a)[a]?=some x:=by
 have hl:=(List.getElem?_eq_some_iff.1 h).1
 unfold nmI
 rw[List.getElem?_append_right (by simp;omega)]
 simp only[List.length_map,List.length_take]
 rw[List.getElem?_drop,show a+(a - min a P.length)=a by omega,h]
theorem nmI_set {f:Int→Int} {P:List Int} {a:Nat} {x:Int} (h:P[a]?=some x):(nmI f P a).set a (f x)=nmI f P (a+1):=by
 obtain⟨hl,hx⟩:=List.getElem?_eq_some_iff.1 h
 unfold nmI
 rw[List.set_append_right _ _ (by simp;omega)]
 simp only[List.length_map,List.length_take]
 rw[show a - min a P.length=0 by omega,List.drop_eq_getElem_cons hl,hx,List.set_cons_zero,List.take_add_one,h,Option.toList_some,List.map_append,List.append_assoc];rfl
theorem nmK_len (f:Int→Int) (X:Cs) (j:Nat):(nmK f X j).length=X.length:=by unfold nmK;simp;omega
theorem nmK_at {f:Int→Int} {X:Cs} {j:Nat} {x:(Option Addr×Nat×Nat)×List Int} (h:X[j]?=some x):(nmK f X j)[j]?=some x:=by
 have hl:=(List.getElem?_eq_some_iff.1 h).1
 unfold nmK
 rw[List.getElem?_append_right (by simp;omega)]
 simp only[List.length_map,List.length_take]
 rw[List.getElem?_drop,show j+(j - min j X.length)=j by omega,h]
theorem nmK_set {f:Int→Int} {X:Cs} {j:Nat} {x:(Option Addr×Nat×Nat)×List Int} (h:X[j]?=some x):(nmK f X j).set j (x.1,x.2.map f)=nmK f X (j+1):=by
 obtain⟨hl,hx⟩:=List.getElem?_eq_some_iff.1 h
 unfold nmK
 rw[List.set_append_right _ _ (by simp;omega)]
 simp only[List.length_map,List.length_take]
 rw[show j - min j X.length=0 by omega,List.drop_eq_getElem_cons hl,hx,List.set_cons_zero,List.take_add_one,h,Option.toList_some,List.map_append,List.append_assoc];rfl
theorem nmK_sv (f:Int→Int) (X:Cs) (j:Nat):(nmK f X j).map (fun x=>sv x.1)=X.map fun x=>sv x.1:=by
 unfold nmK
 conv=>rhs;rw[←List.take_append_drop j X]
 rw[List.map_append,List.map_append,List.map_map];rfl
theorem nmK_full (f:Int→Int) (X:Cs):(nmK f X X.length).map Prod.snd=(X.map Prod.snd).map (List.map f):=by
 unfold nmK
 rw[List.take_length,List.drop_length,List.append_nil,List.map_map,List.map_map];rfl
theorem set_self {α:Type} {l:List α} {j:Nat} {x:α} (h:l[j]?=some x):l.set j x=l:=by
 apply List.ext_getElem?
 intro k
 rw[List.getElem?_set]
 split
 ·rename_i e
  subst e
  rw[if_pos (List.getElem?_eq_some_iff.1 h).1,h]
 ·rfl
def KcB (n:Nat) (Ac:Option Addr) (cc:Nat) (C:List Int) (p4:Nat) (A7:Option Addr) (c7:Nat) (cs:Cs):List Ent:=
 [.row (.slice Ac n cc) 3 1 n (C.map intV),.blk p4 32 [.slice Ac n cc],.row (.slice A7 cs.length c7) 32 1 cs.length (cs.map fun x=>sv x.1)]
def cmpR (ds:List Dom) (r:Rul):List (List Int)×Int:=if validP ds r then (compF r (peelF (ds.map Dom.say) r).2,0) else ([],2)
def CmpPost (o:List (List Int)×Int) (w:World) (e:Ending) (w':World):Prop:=∃(A:Option Addr) (c:Nat) (cs:Cs),e=.returned (.tuple #[.slice A cs.length c,.int .i64 o.2])∧cs.map Prod.snd=o.1∧Hp w w w' (.row (.slice A cs.length c) 32 1 cs.length (cs.map fun x=>sv x.1)::exI cs) []
theorem rcomps_any (ps:PrbS) (w:World) (hT:Tab w) (ds:List Dom) (r:Rul) (hn:ps.nd≤9223372036854775807) (hd:∀ d∈ds,d.len≤9223372036854775807) (h:PrbAt w w.heap.size ps ds r):
  Calls Tryz.prog 18 #[ps.val] w (CmpPost (cmpR ds r) w):=by
 obtain⟨L1,e1,hR1⟩:∃ L1 e1,coreR ds r=(L1,e1):=⟨_,_,rfl⟩
 have HCO:=Lib.hid (fun W (hb:Below w.heap.size w W)=>(rcore_any ps W (hT.keep hb) ds r hn hd ⟨h.1.keep hb,h.2.keep hb⟩).mono (fun e w' hh=>(by
  rw[hR1] at hh
  obtain⟨v,rfl,ho,hb⟩:=hh
  exact⟨v,rfl,ho,hb⟩:∃ v,e=.returned (.tuple #[v,.int .i64 e1])∧w'.ownsRow W.heap.size 3 1 v L1.length (L1.map intV)∧Below W.heap.size W w')))
 have HTW:=Lib.hid hT
 have HS1:Hid (∀ b,validP ds r=b→if b then L1=(peelF (ds.map Dom.say) r).2∧e1=0 else L1=[]∧e1=2):=Lib.hid (fun b hb=>by
  unfold coreR at hR1
  rw[hb] at hR1
  cases b<;>simp at hR1<;>simp[hR1])
 have HS3:Hid (∀ b,validP ds r=b→cmpR ds r=if b then (compF r (peelF (ds.map Dom.say) r).2,0) else ([],(2:Int))):=Lib.hid (fun b hb=>by unfold cmpR;rw[hb])
 obtain⟨C,hC⟩:∃ C,C=(peelF (ds.map Dom.say) r).2:=⟨_,rfl⟩
 have HVV:Hid (validP ds r=true→C.Pairwise (·<·)∧C.length≤512∧(∀ x∈r.pairs,x.a≠x.b)∧(∀ x∈r.loads,x.a≠x.b)∧r.pairs.length≤4096∧r.loads.length≤1024):=Lib.hid (fun hv=>by
  obtain⟨h1,h2,h3⟩:=prij hv
  refine⟨?_,?_,fun x hx=>?_,fun x hx=>(h2.lds x hx).2.1,h2.pl,h2.ll⟩
  ·rw[hC,core_list];exact h3.filter _
  ·have hle:=h1.len
   have h4:C.length≤(ds.map Dom.say).length:=by rw[hC,core_list];exact Nat.le_trans (List.length_filter_le _ _) (by rw[List.length_map];exact Nat.le_refl _)
   omega
  ·have:=(h1.prs x hx).1;omega)
 rw[←hC] at HS1 HS3
 obtain⟨Ad,nd,cd,⟨A0,n0,c0,A1,n1,c1,A2,n2,c2⟩⟩:=ps
 have HL0:=Eqn.mk h.2.1.1
 have HL1:=Eqn.mk h.2.2.1.1
 have HC0:=Lib.hid h.2.1
 have HC1:=Lib.hid h.2.2.1
 unfold PrbS.val at *
 dsimp only at HC0 HC1 HL0 HL1 HCO ⊢
 generalize cmpR ds r=R at *
 generalize validP ds r=v at *
 clear h hT hR1 hC hn hd
 obtain⟨W0,hW0⟩:∃ W0,W0=w.alloc (.cells #[.slice Ad nd cd,.slice A0 n0 c0,.slice A1 n1 c1,.slice A2 n2 c2] 29):=⟨_,rfl⟩
 have hP0:=(Hp.start w).alloc [.slice Ad nd cd,.slice A0 n0 c0,.slice A1 n1 c1,.slice A2 n2 c2] 29
 rw[show ([.slice Ad nd cd,.slice A0 n0 c0,.slice A1 n1 c1,.slice A2 n2 c2]:List Value).toArray=#[.slice Ad nd cd,.slice A0 n0 c0,.slice A1 n1 c1,.slice A2 n2 c2] from rfl,←hW0] at hP0
 have HP0:=Lib.hid hP0
 have q0:=hP0.c 0 0 rfl rfl
 have q1:=hP0.c 0 1 rfl rfl
 have q2:=hP0.c 0 2 rfl rfl
 have q3:=hP0.c 0 3 rfl rfl
 have q4:=hP0.lt 0 rfl
 clear hP0
 go_enter Tryz.func18,Tryz.ntmps18
 go_upto_region 1 with fail
 rw[←hW0]
 clear hW0
 go_wp2_with fail
 refine(HCO.out _ HP0.out.below).mono ?_
 rintro e W1 ⟨v1,rfl,hown,hb1⟩
 have hP1:=HP0.out.pushRow hb1 hown
 obtain⟨Ac,cc,rfl⟩:=hP1.form 1 rfl
 have hP2:=hP1.alloc [.slice Ac L1.length cc] 32
 obtain⟨V1,hV1⟩:∃ V,V=W1.alloc (.cells #[.slice Ac L1.length cc] 32):=⟨_,rfl⟩
 rw[show ([.slice Ac L1.length cc]:List Value).toArray=#[.slice Ac L1.length cc] from rfl,←hV1] at hP2
 have HP2:=Lib.hid hP2
 have x4:=hP2.c 2 0 rfl rfl
 have l4:=hP2.lt 2 rfl
 clear hown hb1 hP1 hP2 HP0 HCO q0 q1 q2 q3 q4
 go_upto_region 2 with fail
 rw[←hV1]
 clear hV1
 generalize W1.heap.size=p4 at *
 cases v with
 | false=>
  obtain⟨rfl,rfl⟩:=HS1.out false rfl
  have hR:R=([],2):=HS3.out false rfl
  subst hR
  go_wp2_with fail
  refine bodyPost_ret (v:=.tuple #[.slice none 0 0,.int .i64 2]) (by simp[results,Tryz.results18,go_sem]) rfl ⟨none,0,[],rfl,rfl,?_⟩
  exact((HP2.out.nil 32 1).sub (List.Sublist.trans (List.sublist_append_right _ _) (List.Sublist.refl _)))
 | true=>
  obtain⟨rfl,rfl⟩:=HS1.out true rfl
  obtain⟨hv1,hv2,hv3,hv4,hv5,hv6⟩:=HVV.out rfl
  have hR:R=(compF r L1,0):=HS3.out true rfl
  have HRE:=Eqn.mk hR
  have HCP:=Lib.hid hv1
  have HNE:=Lib.hid (And.intro hv3 hv4)
  obtain⟨n,hn⟩:∃ n,n=L1.length:=⟨_,rfl⟩
  have HNL:=Lib.hid hn
  rw[←hn] at HP2 x4 hv2 ⊢
  have HNW:=Lib.hid (fun W=>(gnew_any (n:Int) W).mono (fun e w' hh=>(by unfold GNew at hh;rw[if_pos ⟨by omega,by omega⟩,Int.toNat_natCast] at hh;exact hh:∃ gb rb,e=.returned (.tuple #[.pointer (some ⟨gb,0,none⟩),.int .i64 0])∧GAt w' gb rb n [] (List.replicate n 0) 0∧W.heap.size≤gb∧W.heap.size≤rb∧Below W.heap.size W w')))
  have hn0:n0≤4096:=by have:=HL0.out;omega
  have hn1:n1≤1024:=by have:=HL1.out;omega
  clear hR hn HS1 HS3 HVV hv1 hv3 hv4 hv5 hv6
  go_wp2_with fail
  refine(HNW.out _).mono ?_
  rintro e W3 ⟨gb,rb,rfl,hG,hgb,hrb,hb3⟩
  have hP3:=HP2.out.keep hb3
  have hP4:=hP3.alloc [.pointer (some ⟨gb,0,none⟩)] 92
  obtain⟨V3,hV3⟩:∃ V,V=W3.alloc (.cells #[.pointer (some ⟨gb,0,none⟩)] 92):=⟨_,rfl⟩
  rw[show ([.pointer (some ⟨gb,0,none⟩)]:List Value).toArray=#[.pointer (some ⟨gb,0,none⟩)] from rfl,←hV3] at hP4
  have HP4:=Lib.hid hP4
  have HG4:Hid (GAt V3 gb rb n [] (List.replicate n 0) 0):=Lib.hid (hG.keep (by rw[hV3];exact(Below.refl _ W3).alloc (Nat.le_refl _) _))
  have HNO:Hid (w.heap.size≤gb∧w.heap.size≤rb∧∀ e∈((([.blk w.heap.size 29 [.slice Ad nd cd,.slice A0 n0 c0,.slice A1 n1 c1,.slice A2 n2 c2]]++[.row (.slice Ac n cc) 3 1 n (L1.map intV)])++[.blk p4 32 [.slice Ac n cc]])++[.blk W3.heap.size 92 [.pointer (some ⟨gb,0,none⟩)]]:List Ent),∀ g,e.dst=some g→g≠gb∧g≠rb):=Lib.hid (by
   have hs1:=HP2.out.below.size
   refine⟨by omega,by omega,fun e he g hg=>?_⟩
   rcases List.mem_append.1 he with he | he
   ·have:=Ent.lt (HP2.out.all e he) hg
    omega
   ·rw[List.mem_singleton] at he
    subst he
    cases hg
    have h1:=hG.1.lt
    have h2:=hG.2.1.lt
    omega)
  have q1:=hP4.c 0 1 rfl rfl
  have q4:=hP4.lt 0 rfl
  have x6:=hP4.c 3 0 rfl rfl
  have l6:=hP4.lt 3 rfl
  clear hG hgb hrb hb3 hP3 hP4 x4 l4 HNW HP2
  go_upto_region 5 with fail
  rw[←hV3]
  clear hV3
  generalize W3.heap.size=p6 at *
  go_wp2_with fail
  clear q1 q4 x6 l6
  go_loopw [39] (fun iv wr=>∃(k:Nat) (S:List Nat) (arcs:Int),k≤n0∧iv=.int .i64 k∧JI L1 ((r.pairs.take k).map fun x=>(x.a,x.b)) S∧GAt wr gb rb n [] S arcs∧(0≤arcs∧arcs≤(k:Int))∧Hp w w wr ((([.blk w.heap.size 29 [.slice Ad nd cd,.slice A0 n0 c0,.slice A1 n1 c1,.slice A2 n2 c2]]++[.row (.slice Ac n cc) 3 1 n (L1.map intV)])++[.blk p4 32 [.slice Ac n cc]])++[.blk p6 92 [.pointer (some ⟨gb,0,none⟩)]]) []) (fun iv _=>n0 - (intOf iv).toNat)
  case atStart=>exact⟨0,List.replicate n 0,0,Nat.zero_le _,rfl,by rw[HNL.out];exact JI.start L1,HG4.out,⟨Int.le_refl _,Int.le_refl _⟩,HP4.out⟩
  case round=>
   clear HP4 HG4
   obtain⟨k,S,arcs,hk,rfl,hJ,hG,har,hP⟩:=hrel
   have HP:=Lib.hid hP
   have HG:=Lib.hid hG
   have HJ:=Lib.hid hJ
   by_cases hkl:k<n0
   ·have j0:(k:Int)<(n0:Int):=by omega
    obtain⟨x,hx⟩:∃ x,r.pairs[k]?=some x:=⟨_,List.getElem?_eq_getElem (by have:=HL0.out;omega)⟩
    obtain⟨b3,o3,rfl,hb3,hcell⟩:=(HC0.out.keep hP.below).2 (by omega)
    have y0:wr.cell? ⟨b3,o3+k * 5,none⟩=some (.int .i64 x.a):=hcell k x hx 0 (by decide)
    have y1:wr.cell? ⟨b3,o3+k * 5+1,none⟩=some (.int .i64 x.b):=hcell k x hx 1 (by decide)
    have y2:wr.cell? ⟨b3,o3+k * 5+2,none⟩=some (.int .i64 x.c):=hcell k x hx 2 (by decide)
    have y3:wr.cell? ⟨b3,o3+k * 5+3,none⟩=some (.int .i64 x.d):=hcell k x hx 3 (by decide)
    have y4:wr.cell? ⟨b3,o3+k * 5+4,none⟩=some (.int .i64 x.e):=hcell k x hx 4 (by decide)
    have HTK:Hid ((r.pairs.take (k+1)).map (fun x=>(x.a,x.b))=(r.pairs.take k).map (fun x=>(x.a,x.b))++[(x.a,x.b)]):=Lib.hid (by rw[List.take_add_one,hx,Option.toList_some,List.map_append];rfl)
    have HAB:=Lib.hid (HNE.out.1 x (List.mem_of_getElem? hx))
    obtain⟨xa,xb,xc,xd,xe⟩:=x
    dsimp only at y0 y1 y2 y3 y4 HTK HAB
    have hPV:=hP.alloc [.int .i64 xa,.int .i64 xb,.int .i64 xc,.int .i64 xd,.int .i64 xe] 67
    obtain⟨V5,hV5⟩:∃ V,V=wr.alloc (.cells #[.int .i64 xa,.int .i64 xb,.int .i64 xc,.int .i64 xd,.int .i64 xe] 67):=⟨_,rfl⟩
    rw[show ([.int .i64 xa,.int .i64 xb,.int .i64 xc,.int .i64 xd,.int .i64 xe]:List Value).toArray=#[.int .i64 xa,.int .i64 xb,.int .i64 xc,.int .i64 xd,.int .i64 xe] from rfl,←hV5] at hPV
    have hGV:GAt V5 gb rb n [] S arcs:=hG.keep (by rw[hV5];exact(Below.refl _ wr).alloc (Nat.le_refl _) _)
    have z0:=hPV.c 4 0 rfl rfl
    have z1:=hPV.c 4 1 rfl rfl
    have z4:=hPV.lt 4 rfl
    have hrow:Row1 intV V5 V5.heap.size Ac n L1:=by
     obtain⟨A',c',e',hr⟩:=row1_of_own (hPV.row 1 rfl)
     injection e' with e1 e2 e3
     subst e1 e3
     exact hr
    have HJN:=Lib.hid (join_any p4 p6 Ac n cc L1 xa xb V5 (hPV.c 2 0 rfl rfl) (hPV.lt 2 rfl) (hPV.c 3 0 rfl rfl) (hPV.lt 3 rfl) hrow hv2 HCP.out hGV (by have:=HJ.out.len;have:=HNL.out;omega) HAB.out ⟨har.1,by omega⟩)
    have HPV:=Lib.hid hPV
    clear hP hG hJ hx hcell hPV hGV hrow
    go_upto_region 11 with fail
    rw[←hV5]
    clear hV5 y0 y1 y2 y3 y4
    generalize wr.heap.size=p9 at *
    go_wp2_with fail
    refine HJN.out.mono ?_
    rintro e W6 ⟨arcs',rfl,har',hG6,hK6⟩
    have HP6:=Lib.hid ((HPV.out.sub (List.sublist_append_left _ _)).kp2 hK6 HNO.out.1 HNO.out.2.1 HNO.out.2.2)
    have HG6:=Lib.hid hG6
    have HJ6:=Lib.hid (HJ.out.join HCP.out xa xb)
    have HAR:Hid (0≤arcs'∧arcs'≤((k+1:Nat):Int)):=Lib.hid ⟨by omega,by omega⟩
    clear har' hG6 hK6 HJN z0 z1 z4 har HG HP HJ HPV
    go_wp2_with fail
    go_roundw
    case rel=>exact⟨k+1,joinF L1 S xa xb,arcs',hkl,by go_num,by rw[HTK.out];exact HJ6.out,HG6.out,HAR.out,HP6.out⟩
    case measure=>simp[intOf];omega
   ·obtain rfl:k=n0:=by omega
    have j0:¬((k:Nat):Int)<(k:Int):=by omega
    rw[List.take_of_length_le (by rw[HL0.out];exact Nat.le_refl _)] at hJ
    have HJP:=Lib.hid hJ
    have HAP:=Lib.hid har
    obtain⟨wo,rfl⟩:∃ wo:World,wo=wr:=⟨_,rfl⟩
    have q2:=hP.c 0 2 rfl rfl
    have q4:=hP.lt 0 rfl
    clear hP hG hJ HJ har
    go_wp2_with fail
    clear q2 q4
    go_loopw [54] (fun iv wr=>∃(m:Nat) (S:List Nat) (arcs:Int),m≤n1∧iv=.int .i64 m∧JI L1 ((r.pairs.map fun x=>(x.a,x.b))++(r.loads.take m).map fun x=>(x.a,x.b)) S∧GAt wr gb rb n [] S arcs∧(0≤arcs∧arcs≤4096+(m:Int))∧Hp w w wr ((([.blk w.heap.size 29 [.slice Ad nd cd,.slice A0 k c0,.slice A1 n1 c1,.slice A2 n2 c2]]++[.row (.slice Ac n cc) 3 1 n (L1.map intV)])++[.blk p4 32 [.slice Ac n cc]])++[.blk p6 92 [.pointer (some ⟨gb,0,none⟩)]]) []) (fun iv _=>n1 - (intOf iv).toNat)
    case atStart=>exact⟨0,S,arcs,Nat.zero_le _,rfl,by rw[List.take_zero,List.map_nil,List.append_nil];exact HJP.out,HG.out,⟨HAP.out.1,by have:=HAP.out.2;omega⟩,HP.out⟩
    case round=>
     clear HP HG HJP HAP
     obtain⟨m,S,arcs,hm,rfl,hJ,hG,har,hP⟩:=hrel
     have HP:=Lib.hid hP
     have HG:=Lib.hid hG
     have HJ:=Lib.hid hJ
     by_cases hml:m<n1
     ·have j1:(m:Int)<(n1:Int):=by omega
      obtain⟨x,hx⟩:∃ x,r.loads[m]?=some x:=⟨_,List.getElem?_eq_getElem (by have:=HL1.out;omega)⟩
      obtain⟨b3,o3,rfl,hb3,hcell⟩:=(HC1.out.keep hP.below).2 (by omega)
      have y0:wr.cell? ⟨b3,o3+m * 5,none⟩=some (.int .i64 x.a):=hcell m x hx 0 (by decide)
      have y1:wr.cell? ⟨b3,o3+m * 5+1,none⟩=some (.int .i64 x.b):=hcell m x hx 1 (by decide)
      have y2:wr.cell? ⟨b3,o3+m * 5+2,none⟩=some (.int .i64 x.c):=hcell m x hx 2 (by decide)
      have y3:wr.cell? ⟨b3,o3+m * 5+3,none⟩=some (.int .i64 x.d):=hcell m x hx 3 (by decide)
      have y4:wr.cell? ⟨b3,o3+m * 5+4,none⟩=some (.int .i64 x.e):=hcell m x hx 4 (by decide)
      have HTK:Hid ((r.pairs.map fun x=>(x.a,x.b))++(r.loads.take (m+1)).map (fun x=>(x.a,x.b))=((r.pairs.map fun x=>(x.a,x.b))++(r.loads.take m).map (fun x=>(x.a,x.b)))++[(x.a,x.b)]):=Lib.hid (by rw[List.take_add_one,hx,Option.toList_some,List.map_append,List.append_assoc];rfl)
      have HAB:=Lib.hid (HNE.out.2 x (List.mem_of_getElem? hx))
      obtain⟨xa,xb,xc,xd,xe⟩:=x
      dsimp only at y0 y1 y2 y3 y4 HTK HAB
      have hPV:=hP.alloc [.int .i64 xa,.int .i64 xb,.int .i64 xc,.int .i64 xd,.int .i64 xe] 69
      obtain⟨V5,hV5⟩:∃ V,V=wr.alloc (.cells #[.int .i64 xa,.int .i64 xb,.int .i64 xc,.int .i64 xd,.int .i64 xe] 69):=⟨_,rfl⟩
      rw[show ([.int .i64 xa,.int .i64 xb,.int .i64 xc,.int .i64 xd,.int .i64 xe]:List Value).toArray=#[.int .i64 xa,.int .i64 xb,.int .i64 xc,.int .i64 xd,.int .i64 xe] from rfl,←hV5] at hPV
      have hGV:GAt V5 gb rb n [] S arcs:=hG.keep (by rw[hV5];exact(Below.refl _ wr).alloc (Nat.le_refl _) _)
      have z0:=hPV.c 4 0 rfl rfl
      have z1:=hPV.c 4 1 rfl rfl
      have z4:=hPV.lt 4 rfl
      have hrow:Row1 intV V5 V5.heap.size Ac n L1:=by
       obtain⟨A',c',e',hr⟩:=row1_of_own (hPV.row 1 rfl)
       injection e' with e1 e2 e3
       subst e1 e3
       exact hr
      have HJN:=Lib.hid (join_any p4 p6 Ac n cc L1 xa xb V5 (hPV.c 2 0 rfl rfl) (hPV.lt 2 rfl) (hPV.c 3 0 rfl rfl) (hPV.lt 3 rfl) hrow hv2 HCP.out hGV (by have:=HJ.out.len;have:=HNL.out;omega) HAB.out ⟨har.1,by omega⟩)
      have HPV:=Lib.hid hPV
      clear hP hG hJ hx hcell hPV hGV hrow
      go_upto_region 16 with fail
      rw[←hV5]
      clear hV5 y0 y1 y2 y3 y4
      generalize wr.heap.size=p9 at *
      go_wp2_with fail
      refine HJN.out.mono ?_
      rintro e W6 ⟨arcs',rfl,har',hG6,hK6⟩
      have HP6:=Lib.hid ((HPV.out.sub (List.sublist_append_left _ _)).kp2 hK6 HNO.out.1 HNO.out.2.1 HNO.out.2.2)
      have HG6:=Lib.hid hG6
      have HJ6:=Lib.hid (HJ.out.join HCP.out xa xb)
      have HAR:Hid (0≤arcs'∧arcs'≤4096+((m+1:Nat):Int)):=Lib.hid ⟨by omega,by omega⟩
      clear har' hG6 hK6 HJN z0 z1 z4 har HG HP HJ HPV
      go_wp2_with fail
      go_roundw
      case rel=>exact⟨m+1,joinF L1 S xa xb,arcs',hml,by go_num,by rw[HTK.out];exact HJ6.out,HG6.out,HAR.out,HP6.out⟩
      case measure=>simp[intOf];omega
     ·obtain rfl:m=n1:=by omega
      have j1:¬((m:Nat):Int)<(m:Int):=by omega
      rw[List.take_of_length_le (by rw[HL1.out];exact Nat.le_refl _)] at hJ
      have HRW:=Lib.hid (JI.rows hJ)
      have HGC:=Lib.hid (gcompsU_any wr (HTW.out.keep hP.below) hG hJ.ing)
      have HSL:Hid (S.length=n):=Lib.hid (by rw[hJ.len,←HNL.out])
      have x6:=hP.c 3 0 rfl rfl
      have l6:=hP.lt 3 rfl
      clear hP hG hJ HJ har
      go_wp2_with fail
      refine HGC.out.mono ?_
      rintro e W7 ⟨A7,c7,cs,rfl,hcs,hP7⟩
      have HP7:Hid (Hp w w W7 (KcB n Ac cc L1 p4 A7 c7 cs++exI cs) []):=Lib.hid ((HP.out.joinN hP7.below hP7).sub (.cons _ (.cons_cons _ (.cons_cons _ (.cons _ (List.Sublist.refl _))))))
      obtain⟨f,hf⟩:∃ f:Int→Int,f=fun w=>L1.getD w.toNat 0:=⟨_,rfl⟩
      have HCM:Hid ((cs.map Prod.snd).map (List.map f)=compF r L1):=Lib.hid (by
       have:=comp_prog HCP.out HRW.out (by rw[HSL.out];exact hv2)
       rw[hcs,hf];exact this)
      have HIN:Hid (∀ x∈cs,∀ y∈x.2,0≤y∧y<(n:Int)):=Lib.hid (fun x hx y hy=>by
       have h1:=gcS_in HRW.out.ing S.length (Nat.le_refl _) x.2 (by rw[←hcs];exact List.mem_map.2 ⟨x,hx,rfl⟩) y hy
       rw[HSL.out] at h1;exact h1)
      have HFE:Hid (∀(u:Nat) (z:Int),L1[u]?=some z→f (u:Int)=z):=Lib.hid (fun u z hz=>by rw[hf];show L1.getD (u:Int).toNat 0=z;rw[Int.toNat_natCast,List.getD_eq_getElem?_getD,hz];rfl)
      have hcl:cs.length≤512:=by
       have h1:=congrArg List.length hcs
       rw[List.length_map] at h1
       have:=gcS_len S S.length
       have:=HSL.out
       omega
      clear hP7 hcs hf x6 l6 HGC HRW HSL HP HG HNO HC0 HC1 HL0 HL1 HNE
      obtain⟨wp,rfl⟩:∃ wp:World,wp=wr:=⟨_,rfl⟩
      go_wp2_with fail
      go_loopw [69] (fun iv wr=>∃ j:Nat,j≤cs.length∧iv=.int .i64 j∧Hp w w wr (KcB n Ac cc L1 p4 A7 c7 cs++exI (nmK f cs j)) []) (fun iv _=>cs.length - (intOf iv).toNat)
      case atStart=>exact⟨0,Nat.zero_le _,rfl,HP7.out⟩
      case round=>
       clear HP7
       obtain⟨j,hj,rfl,hP⟩:=hrel
       have HP:=Lib.hid hP
       by_cases hjl:j<cs.length
       ·have j2:(j:Int)<(cs.length:Int):=by omega
        obtain⟨x,hx⟩:∃ x,cs[j]?=some x:=⟨_,List.getElem?_eq_getElem hjl⟩
        have HXI:=Lib.hid (HIN.out x (List.mem_of_getElem? hx))
        obtain⟨g7,c7',e7,y7,_,l7⟩:=hP.at 2 j rfl (show (cs.map fun x=>sv x.1)[j]?=some (sv x.1) by rw[List.getElem?_map,hx];rfl)
        obtain⟨A',c',e'⟩:=hP.form (3+j) (exI_at rfl (nmK_at hx))
        obtain⟨⟨aA,aN,aC⟩,P⟩:=x
        have hx0:=hx
        unfold sv at y7 e'
        dsimp only at y7 e' HXI
        injection e7 with e7 _ e7c
        subst e7 e7c
        injection e' with e1 e2 e3
        subst e1 e2 e3
        have hPl:P.length≤9223372036854775807:=by
         rcases(hP.row (3+j) (exI_at rfl (nmK_at hx))).2 with ⟨_,h0⟩ | ⟨_,_,_,_,_,_,h1,h2,_⟩
         ·have h0:P.length=0:=h0
          omega
         ·have h1:P.length≤_:=h1
          unfold maxLen at h2
          omega
        have HX:=Lib.hid hx
        have HPS:Hid (Hp w w wr (KcB n Ac cc L1 p4 (some ⟨g7,0,none⟩) c7 cs++exI ((nmK f cs j).set j ((aA,P.length,aC),nmI f P 0))) []):=Lib.hid (by
         rw[show nmI f P 0=P from rfl,set_self (nmK_at hx)];exact HP.out)
        clear hx hx0 hP HP
        go_wp2_with fail
        clear y7 l7
        obtain⟨wq,rfl⟩:∃ wq:World,wq=wr:=⟨_,rfl⟩
        go_loopw [75] (fun iv wr=>∃ a:Nat,a≤P.length∧iv=.int .i64 a∧Hp w w wr (KcB n Ac cc L1 p4 (some ⟨g7,0,none⟩) c7 cs++exI ((nmK f cs j).set j ((aA,P.length,aC),nmI f P a))) []) (fun iv _=>P.length - (intOf iv).toNat)
        case atStart=>exact⟨0,Nat.zero_le _,rfl,HPS.out⟩
        case round=>
         clear HPS
         obtain⟨a,ha,rfl,hP⟩:=hrel
         have HP:=Lib.hid hP
         by_cases hal:a<P.length
         ·have j3:(a:Int)<(P.length:Int):=by omega
          obtain⟨v,hv⟩:∃ v,P[a]?=some v:=⟨_,List.getElem?_eq_getElem hal⟩
          obtain⟨hv0,hv1⟩:=HXI.out v (List.mem_of_getElem? hv)
          obtain⟨u,rfl⟩:∃ u:Nat,v=(u:Int):=⟨v.toNat,by omega⟩
          obtain⟨z,hz⟩:∃ z,L1[u]?=some z:=⟨_,List.getElem?_eq_getElem (by rw[←HNL.out];omega)⟩
          have hfu:=HFE.out u z hz
          have hjn:j<(nmK f cs j).length:=by rw[nmK_len];exact hjl
          have hxr:((nmK f cs j).set j ((aA,P.length,aC),nmI f P a))[j]?=some ((aA,P.length,aC),nmI f P a):=by rw[List.getElem?_set,if_pos rfl,if_pos hjn]
          have hent:=exI_at (L:=KcB n Ac cc L1 p4 (some ⟨g7,0,none⟩) c7 cs) rfl hxr
          rw[show (((aA,P.length,aC),nmI f P a):(Option Addr×Nat×Nat)×List Int).2.length=P.length from nmI_len f P a] at hent
          obtain⟨gP,cP,eP,yP,fP,lP⟩:=hP.at (3+j) a hent (show ((nmI f P a).map intV)[a]?=some (.int .i64 (u:Int)) by rw[List.getElem?_map,nmI_at hv];rfl)
          obtain⟨gC,cC,eC,yC,_,lC⟩:=hP.at 0 u rfl (show (L1.map intV)[u]?=some (.int .i64 z) by rw[List.getElem?_map,hz];rfl)
          unfold sv at eP hent
          dsimp only at eP hent
          injection eP with eP _ ePc
          subst eP ePc
          injection eC with eC _ eCc
          subst eC eCc
          have x4:=hP.c 1 0 rfl rfl
          have l4:=hP.lt 1 rfl
          have HPN:Hid (Hp w w (wr.setCell ⟨gP,a,none⟩ (.int .i64 z)) (KcB n (some ⟨gC,0,none⟩) cc L1 p4 (some ⟨g7,0,none⟩) c7 cs++exI ((nmK f cs j).set j ((some ⟨gP,0,none⟩,P.length,aC),nmI f P (a+1)))) []):=Lib.hid (by
           have h1:=HP.out.setRow (3+j) a (.int .i64 z) hent
           have e1:((nmI f P a).map intV).set a (.int .i64 z)=(nmI f P (a+1)).map intV:=by
            rw[←nmI_set hv,hfu,List.map_set];rfl
           have e2:=exI_set (L:=KcB n (some ⟨gC,0,none⟩) cc L1 p4 (some ⟨g7,0,none⟩) c7 cs) (X:=(nmK f cs j).set j ((some ⟨gP,0,none⟩,P.length,aC),nmI f P a)) (j:=j) rfl (some ⟨gP,0,none⟩,P.length,aC) (nmI f P (a+1))
           rw[List.set_set,nmI_len] at e2
           rw[←e2,←e1]
           exact h1)
          have j4:(u:Int)<(n:Int):=hv1
          clear hP hv hz hfu hxr hent hv0 hv1 HP
          go_wp2_with fail
          go_roundw
          case rel=>exact⟨a+1,hal,by go_num,HPN.out⟩
          case measure=>simp[intOf];omega
         ·obtain rfl:a=P.length:=by omega
          have j3:¬((P.length:Nat):Int)<(P.length:Int):=by omega
          have HPN:Hid (Hp w w wr (KcB n Ac cc L1 p4 (some ⟨g7,0,none⟩) c7 cs++exI (nmK f cs (j+1))) []):=Lib.hid (by
           rw[←nmK_set HX.out]
           have e:nmI f P P.length=P.map f:=by unfold nmI;rw[List.take_length,List.drop_length,List.append_nil]
           rw[←e];exact HP.out)
          clear hP HP
          go_wp2_with fail
          go_roundw
          case rel=>exact⟨j+1,hjl,by go_num,HPN.out⟩
          case measure=>simp[intOf];omega
       ·obtain rfl:j=cs.length:=by omega
        have j2:¬((cs.length:Nat):Int)<(cs.length:Int):=by omega
        have HPE:Hid (Hp w w wr (.row (.slice A7 cs.length c7) 32 1 cs.length (cs.map fun x=>sv x.1)::exI (nmK f cs cs.length)) []):=Lib.hid (HP.out.sub (.cons _ (.cons _ (List.Sublist.refl _))))
        clear hP HP
        go_wp2_with fail
        obtain rfl:=HRE.out
        refine bodyPost_ret (v:=.tuple #[.slice A7 cs.length c7,.int .i64 0]) (by simp[results,Tryz.results18,go_sem]) rfl ⟨A7,c7,nmK f cs cs.length,by rw[nmK_len],by rw[nmK_full,HCM.out],?_⟩
        rw[nmK_len,nmK_sv]
        exact HPE.out
theorem take_snoc {α:Type} {xs:List α} {k:Nat} {x:α} (hx:xs[k]?=some x):xs.take (k+1)=xs.take k++[x]:=by rw[List.take_add_one,hx];rfl
theorem eq_no {α:Type} {a b:List α} {k:Nat} {x y:α} (hx:a[k]?=some x) (hy:b[k]?=some y) (h:x≠y):a≠b:=fun e=>by subst e;rw[hx] at hy;exact h (Option.some.inj hy)
theorem take_eq {α:Type} {a b:List α} {k:Nat} {x y:α} (hx:a[k]?=some x) (hy:b[k]?=some y) (h:x=y) (ht:a.take k=b.take k):a.take (k+1)=b.take (k+1):=by rw[take_snoc hx,take_snoc hy,ht,h]
theorem take_all {α:Type} {a b:List α} {k:Nat} (ha:a.length=k) (hb:b.length=k) (ht:a.take k=b.take k):a=b:=by rwa [List.take_of_length_le (by omega),List.take_of_length_le (by omega)] at ht
theorem sameList_any (A B:Option Addr) (n c m d:Nat) (w:World) (D:Nat) (a b:List (Int×Int)) (hn:n≤9223372036854775807) (ha:RowS 2 chC w D A n a) (hb:RowS 2 chC w D B m b):
  Calls Tryz.prog 27 #[.slice A n c,.slice B m d] w fun e w'=>e=.returned (.bool (decide (a=b)))∧Below D w w':=by
 have Ha:=Lib.hid ha
 have Hb:=Lib.hid hb
 have Hla:=Eqn.mk ha.1
 have Hlb:=Eqn.mk hb.1
 clear ha hb
 by_cases hnm:n=m
 ·subst hnm
  go_enter Tryz.func27,Tryz.ntmps27
  go_wp2_with fail
  go_loopw [5] (fun i wr=>∃ k:Nat,k≤n∧i=.int .i64 k∧a.take k=b.take k∧Below D w wr) (fun i _=>n - (intOf i).toNat)
  case atStart=>exact⟨0,Nat.zero_le _,rfl,rfl,Below.refl _ _⟩
  case round=>
   obtain⟨k,hk,rfl,ht,hB⟩:=hrel
   have HB:=Lib.hid hB
   have HT:=Lib.hid ht
   clear ht
   by_cases hlt:k<n
   ·obtain⟨⟨xa,xb⟩,hx⟩:∃ x,a[k]?=some x:=⟨_,List.getElem?_eq_getElem (by rw[Hla.out];exact hlt)⟩
    obtain⟨⟨ya,yb⟩,hy⟩:∃ x,b[k]?=some x:=⟨_,List.getElem?_eq_getElem (by rw[Hlb.out];exact hlt)⟩
    obtain⟨b1,o1,rfl,hl1,hc1⟩:=(Ha.out.below hB).2 (by omega)
    obtain⟨b2,o2,rfl,hl2,hc2⟩:=(Hb.out.below hB).2 (by omega)
    have c1:wr.cell? ⟨b1,o1+k * 2,none⟩=some (.int .i64 xa):=hc1 k _ hx 0 (by decide)
    have c2:wr.cell? ⟨b1,o1+k * 2+1,none⟩=some (.int .i64 xb):=hc1 k _ hx 1 (by decide)
    have c3:wr.cell? ⟨b2,o2+k * 2,none⟩=some (.int .i64 ya):=hc2 k _ hy 0 (by decide)
    have c4:wr.cell? ⟨b2,o2+k * 2+1,none⟩=some (.int .i64 yb):=hc2 k _ hy 1 (by decide)
    have j0:(k:Int)<(n:Int):=by omega
    have HEQ:Hid ((xa,xb)=(ya,yb)→a.take (k+1)=b.take (k+1)):=Lib.hid (fun h=>take_eq hx hy h HT.out)
    have HNE:Hid ((xa,xb)≠(ya,yb)→decide (a=b)=false):=Lib.hid (fun h=>decide_eq_false (eq_no hx hy h))
    clear hc1 hc2 hx hy hB HT
    by_cases h1:xa=ya
    ·have d1:(xa == ya)=true:=by simpa using h1
     by_cases h2:xb=yb
     ·have d2:(xb == yb)=true:=by simpa using h2
      have HV:=Lib.hid (HEQ.out (by rw[h1,h2]))
      clear h1 h2
      go_wp2_with fail
      refine Lx.region (C:=fun _=>True) (hs:=[]) (by kernel_rfl) (by kernel_rfl) trivial ?_
      repeat' (first|((first|refine Lx.ln (fun K hK=>?_) | (first|(refine Lx.lp (v:=?_) ?_ (fun K hK=>?_);rotate_left 1;intro w' hCw;try dsimp only at hCw) | (refine Lx.lr (v:=?_) ?_ (fun K hK=>?_);rotate_left 1));go_simp;first|done | with_reducible rfl);go_simp;refine hK _ ?_;clear hK K) | (refine Lx.le (fun K hK=>?_);go_simp;(first|fail | skip);refine hK _ _ (trivial) ?_;clear hK K) | (refine Lx.lex_cases rfl rfl rfl (fun hgd K hK=>?_) (fun hgd K hK=>?_)<;>(try simp only[decide_eq_true_eq,decide_eq_false_iff_not] at hgd)<;>(first|(exfalso;omega) | (go_simp;refine hK _ ?_;clear hK K))))
      all_goals (refine Lx.lex_nil ?_)
      go_wp2_with fail
      go_roundw
      case rel=>exact⟨k+1,by omega,by go_num,HV.out,HB.out.drew⟩
      case measure=>simp[intOf];omega
     ·have d2:(xb == yb)=false:=by simpa using h2
      have HV:=Lib.hid (HNE.out (by rintro⟨⟩;exact h2 rfl))
      clear h1 h2
      go_wp2_with fail
      refine Lx.region (C:=fun _=>True) (hs:=[]) (by kernel_rfl) (by kernel_rfl) trivial ?_
      repeat' (first|((first|refine Lx.ln (fun K hK=>?_) | (first|(refine Lx.lp (v:=?_) ?_ (fun K hK=>?_);rotate_left 1;intro w' hCw;try dsimp only at hCw) | (refine Lx.lr (v:=?_) ?_ (fun K hK=>?_);rotate_left 1));go_simp;first|done | with_reducible rfl);go_simp;refine hK _ ?_;clear hK K) | (refine Lx.le (fun K hK=>?_);go_simp;(first|fail | skip);refine hK _ _ (trivial) ?_;clear hK K) | (refine Lx.lex_cases rfl rfl rfl (fun hgd K hK=>?_) (fun hgd K hK=>?_)<;>(try simp only[decide_eq_true_eq,decide_eq_false_iff_not] at hgd)<;>(first|(exfalso;omega) | (go_simp;refine hK _ ?_;clear hK K))))
      all_goals (refine Lx.lex_nil ?_)
      go_wp2_with fail
      go_ret
      exact⟨ret_bool HV.out.symm,HB.out.drew⟩
    ·have d1:(xa == ya)=false:=by simpa using h1
     have HV:=Lib.hid (HNE.out (by rintro⟨⟩;exact h1 rfl))
     clear h1
     go_wp2_with fail
     refine Lx.region (C:=fun _=>True) (hs:=[]) (by kernel_rfl) (by kernel_rfl) trivial ?_
     repeat' (first|((first|refine Lx.ln (fun K hK=>?_) | (first|(refine Lx.lp (v:=?_) ?_ (fun K hK=>?_);rotate_left 1;intro w' hCw;try dsimp only at hCw) | (refine Lx.lr (v:=?_) ?_ (fun K hK=>?_);rotate_left 1));go_simp;first|done | with_reducible rfl);go_simp;refine hK _ ?_;clear hK K) | (refine Lx.le (fun K hK=>?_);go_simp;(first|fail | skip);refine hK _ _ (trivial) ?_;clear hK K) | (refine Lx.lex_cases rfl rfl rfl (fun hgd K hK=>?_) (fun hgd K hK=>?_)<;>(try simp only[decide_eq_true_eq,decide_eq_false_iff_not] at hgd)<;>(first|(exfalso;omega) | (go_simp;refine hK _ ?_;clear hK K))))
     all_goals (refine Lx.lex_nil ?_)
     go_wp2_with fail
     go_ret
     exact⟨ret_bool HV.out.symm,HB.out.drew⟩
   ·obtain rfl:k=n:=by omega
    have HV:=Lib.hid (decide_eq_true (take_all Hla.out Hlb.out HT.out))
    clear HT hB
    go_wp2_with fail
    go_ret
    exact⟨ret_bool HV.out.symm,HB.out⟩
 ·have HV:Hid (decide (a=b)=false):=Lib.hid (decide_eq_false (fun e=>by have:=congrArg List.length e;rw[Hla.out,Hlb.out] at this;exact hnm this))
  have hne:((n:Int) != (m:Int))=true:=by simp;omega
  go_enter Tryz.func27,Tryz.ntmps27
  go_wp2_with fail
  go_ret
  exact⟨ret_bool HV.out.symm,Below.refl _ _⟩
end Go.Proofs.YtjakdikhdndlgaaGreatDoor
