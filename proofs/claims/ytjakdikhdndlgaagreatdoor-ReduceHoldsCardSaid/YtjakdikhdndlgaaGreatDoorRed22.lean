/- The contract of Blocks of reduce. -/
import Derived.Test.YtjakdikhdndlgaaGreatDoorRed21
set_option maxRecDepth 100000
set_option maxHeartbeats 2000000
namespace Go.Proofs.YtjakdikhdndlgaaGreatDoor
open Go.RowKit
def bR2 (D:Dms) (r:Rul):Option Nat→Option Nat→Nat×Int
 | none,_=>(0,9)
 | some _,none=>(0,9)
 | some i,some j=>(bN D r i j,0)
def blkR (ds:List Dom) (r:Rul) (s t:Int):Nat×Int:=
 if validP ds r then bR2 (ds.map Dom.say) r (ixF (ds.map Dom.say) s) (ixF (ds.map Dom.say) t) else (0,2)
theorem rblocks_any (s t:Int) (ps:PrbS) (w:World) (hT:Tab w) (ds:List Dom) (r:Rul) (hn:ps.nd≤9223372036854775807) (hd:∀ d∈ds,d.len≤9223372036854775807) (h:PrbAt w w.heap.size ps ds r):
  Calls Tryz.prog 20 #[ps.val,.int .i64 s,.int .i64 t] w (RetPost (.tuple #[.int .i64 ((blkR ds r s t).1:Nat),.int .i64 (blkR ds r s t).2]) w.heap.size w):=by
 have HPV:=Lib.hid (fun W (hb:Below w.heap.size w W)=>pvalid_any ps W ds r hn hd ⟨h.1.keep hb,h.2.keep hb⟩)
 obtain⟨D,hD⟩:∃ D,D=ds.map Dom.say:=⟨_,rfl⟩
 have HAR:Hid (validP ds r=true→∀ W,Below w.heap.size w W→Calls Tryz.prog 42 #[ps.val] W (ArPost D r W)):=Lib.hid (fun hv W hb=>by
  obtain⟨h1,h2,h3⟩:=prij hv
  rw[hD]
  exact arrange_any ps W ds r ⟨h.1.keep hb,h.2.keep hb⟩ h1 h2 h3)
 have HAT:Hid (validP ds r=true→∀ x tb LK W,TabR W tb D LK→Calls Tryz.prog 50 #[.pointer (some ⟨tb,0,none⟩),.int .i64 x] W fun e w'=>e=.returned (atR (ixF D x))∧W=w'):=Lib.hid (fun hv x tb LK W ht=>by
  obtain⟨h1,h2,h3⟩:=prij hv
  rw[←hD] at h1 h2
  exact at_any x tb D LK W ht h2.st h1.len)
 have HBL:Hid (validP ds r=true→∀(i:Nat) x tb LK W,Below w.heap.size w W→TabR W tb D LK→LkAll D r LK→i<D.length→x∈nbs LK i→Calls Tryz.prog 51 #[.pointer (some ⟨tb,0,none⟩),.int .i64 i,.agg #[.int .i64 x.o,.bool x.f,.pointer (some ⟨x.g,0,none⟩)]] W (RetPost (.int .i64 (bN D r i x.o:Nat)) W.heap.size W)):=Lib.hid (fun hv i x tb LK W hb ht hl hi hx=>by
  obtain⟨hp,_,_⟩:=prij hv
  rw[←hD] at hp
  obtain⟨h1,h2,h3,l,h4,h5,h6⟩:=hl.nbr i x hi hx
  have he:=hl.blk hp hi hx h4
  have:=blocks_any i tb x l D LK W (hT.keep hb) ht (List.mem_of_find?_eq_some h4) (show l.g=x.g by simpa using List.find?_some h4).symm hi h1 h5 hp.ch
  rw[he] at this;exact this)
 have HZ:Hid (validP ds r=true→∀(i j:Nat) LK,LkAll D r LK→i<D.length→j<D.length→j∉(nbs LK i).map Nb.o→bN D r i j=0):=Lib.hid (fun hv i j LK hl hi hj hno=>by
  obtain⟨hp,_,_⟩:=prij hv
  rw[←hD] at hp
  exact(hl.zero hp hi hj hno).1)
 have HLEN:Hid (validP ds r=true→D.length≤512):=Lib.hid (fun hv=>by
  obtain⟨hp,_,_⟩:=prij hv
  rw[←hD] at hp
  exact hp.len)
 have HSF:Hid (∀ b,validP ds r=b→blkR ds r s t=if b then bR2 D r (ixF D s) (ixF D t) else (0,(2:Int))):=Lib.hid (fun b hb=>by unfold blkR;rw[hb,hD])
 generalize blkR ds r s t=R at *
 generalize validP ds r=v at *
 clear h hT hD
 obtain⟨Ad,nd,cd,⟨A0,n0,c0,A1,n1,c1,A2,n2,c2⟩⟩:=ps
 unfold PrbS.val at *
 dsimp only at *
 obtain⟨W0,hW0⟩:∃ W0,W0=w.alloc (.cells #[.slice Ad nd cd,.slice A0 n0 c0,.slice A1 n1 c1,.slice A2 n2 c2] 29):=⟨_,rfl⟩
 have hB0:Below w.heap.size w W0:=by rw[hW0];exact(Below.refl _ w).alloc (Nat.le_refl _) _
 have hX:Blk W0 w.heap.size 29 [.slice Ad nd cd,.slice A0 n0 c0,.slice A1 n1 c1,.slice A2 n2 c2]:=by rw[hW0];exact blk_new w _ _
 have q0:=hX.cell (i:=0) rfl
 have q1:=hX.cell (i:=1) rfl
 have q2:=hX.cell (i:=2) rfl
 have q3:=hX.cell (i:=3) rfl
 have q4:=hX.lt
 have HX:=Lib.hid hX
 have HB0:=Lib.hid hB0
 clear hX hB0
 go_enter Tryz.func20,Tryz.ntmps20
 go_upto_region 1 with fail
 rw[←hW0]
 clear hW0
 go_wp2_with fail
 refine(HPV.out _ HB0.out).mono ?_
 rintro e W1 ⟨rfl,hb1⟩
 have HB1:=Lib.hid (HB0.out.trans (hb1.mono HB0.out.size))
 have HX1:=Lib.hid (HX.out.keep hb1)
 clear hb1 q0 q1 q2 q3 q4
 cases v with
 | false=>
  obtain rfl:=HSF.out _ rfl
  go_wp2_with fail
  refine bodyPost_ret (v:=.tuple #[.int .i64 0,.int .i64 2]) (by simp[results,Tryz.results20,go_sem]) rfl ⟨rfl,HB1.out⟩
 | true=>
  have hR:=HSF.out _ rfl
  rw[if_pos rfl] at hR
  have HR:=Eqn.mk hR
  have q0:=HX1.out.cell (i:=0) rfl
  have q1:=HX1.out.cell (i:=1) rfl
  have q2:=HX1.out.cell (i:=2) rfl
  have q3:=HX1.out.cell (i:=3) rfl
  have q4:=HX1.out.lt
  clear HPV hR
  go_wp2_with fail
  refine(HAR.out trivial _ HB1.out).mono ?_
  rintro e W2 ⟨tb,LK,rfl,hTB,hLK,hb2⟩
  have HB2:=Lib.hid (HB1.out.trans (hb2.mono HB1.out.size))
  have HTB:=Lib.hid hTB
  have HLK:=Lib.hid hLK
  have HS:Hid (Calls Tryz.prog 50 #[.pointer (some ⟨tb,0,none⟩),.int .i64 s] W2 fun e w'=>e=.returned (atR (ixF D s))∧W2=w'):=Lib.hid (HAT.out trivial s tb LK W2 hTB)
  have HS2:Hid (Calls Tryz.prog 50 #[.pointer (some ⟨tb,0,none⟩),.int .i64 t] W2 fun e w'=>e=.returned (atR (ixF D t))∧W2=w'):=Lib.hid (HAT.out trivial t tb LK W2 hTB)
  clear hb2 hTB hLK HAT HAR q0 q1 q2 q3 q4
  obtain⟨oj,hoj⟩:∃ o,o=ixF D t:=⟨_,rfl⟩
  rw[←hoj] at HR HS2
  have HOJ:=Eqn.mk hoj
  clear hoj
  unfold atR at HS HS2
  cases hs:ixF D s with
  | none=>
   rw[hs] at HS HR
   dsimp only[Option.isSome] at HS
   have hR:R=(0,9):=HR.out
   clear hs HR
   cases oj with
   | none=>
    dsimp only[Option.isSome] at HS2
    go_wp2_with fail
    refine HS.out.mono ?_
    rintro e w' ⟨rfl,rfl⟩
    go_wp2_with fail
    refine HS2.out.mono ?_
    rintro e w' ⟨rfl,rfl⟩
    go_wp2_with fail
    subst hR
    refine bodyPost_ret (v:=.tuple #[.int .i64 0,.int .i64 9]) (by simp[results,Tryz.results20,go_sem]) rfl ⟨rfl,HB2.out⟩
   | some j=>
    dsimp only[Option.isSome] at HS2
    go_wp2_with fail
    refine HS.out.mono ?_
    rintro e w' ⟨rfl,rfl⟩
    go_wp2_with fail
    refine HS2.out.mono ?_
    rintro e w' ⟨rfl,rfl⟩
    go_wp2_with fail
    subst hR
    refine bodyPost_ret (v:=.tuple #[.int .i64 0,.int .i64 9]) (by simp[results,Tryz.results20,go_sem]) rfl ⟨rfl,HB2.out⟩
  | some i=>
   rw[hs] at HS HR
   dsimp only[Option.isSome] at HS
   cases oj with
   | none=>
    dsimp only[Option.isSome] at HS2
    have hR:R=(0,9):=HR.out
    clear hs
    go_wp2_with fail
    refine HS.out.mono ?_
    rintro e w' ⟨rfl,rfl⟩
    go_wp2_with fail
    refine HS2.out.mono ?_
    rintro e w' ⟨rfl,rfl⟩
    go_wp2_with fail
    subst hR
    refine bodyPost_ret (v:=.tuple #[.int .i64 0,.int .i64 9]) (by simp[results,Tryz.results20,go_sem]) rfl ⟨rfl,HB2.out⟩
   | some j=>
    dsimp only[Option.isSome] at HS2
    have HR:Hid (R=(bN D r i j,0)):=Lib.hid HR.out
    have hij:i<D.length:=(ixF_lt hs).1
    have hjj:j<D.length:=(ixF_lt HOJ.out.symm).1
    have hdl:=HLEN.out trivial
    obtain⟨⟨B0,B1,B2,d0,d1,d2,NV,hnv,p0,p1,p2,hr0,hr1,hr2,hr3⟩,_,ht,_⟩:=HTB.out
    obtain⟨b2,o2,rfl,hb2,hc2⟩:=hr2.2 (by omega)
    obtain⟨N,hN⟩:∃ N,NV[i]?=some N:=⟨_,List.getElem?_eq_getElem (by omega)⟩
    have m2:W2.cell? ⟨b2,o2+i,none⟩=some N.val:=hc2 i N hN
    have HROW:=Lib.hid (hr3 i N hN)
    obtain⟨An,nn,cn⟩:=N
    unfold NH.val at m2
    dsimp only at m2 HROW
    have HNN:Hid ((nbs LK i).length=nn):=Lib.hid HROW.out.1
    have hnn:nn≤512:=by have:=HLK.out.len hij;have:=HNN.out;omega
    clear hs hc2 hN hr0 hr1 hr2 hr3 hnv p0 p1
    have k0:(0:Int)≤(i:Int):=by omega
    have k1:(i:Int)<(D.length:Int):=by omega
    go_wp2_with fail
    refine HS.out.mono ?_
    rintro e w' ⟨rfl,rfl⟩
    go_wp2_with fail
    refine HS2.out.mono ?_
    rintro e w' ⟨rfl,rfl⟩
    go_wp2_with fail
    clear HS HS2 m2 p2 ht hb2
    go_loopw [46] (fun iv wr=>∃ k:Nat,k≤nn∧iv=.int .i64 k∧(∀ x∈(nbs LK i).take k,x.o≠j)∧Below W2.heap.size W2 wr) (fun iv _=>nn - (intOf iv).toNat)
    case atStart=>exact⟨0,Nat.zero_le _,rfl,fun x hx=>(by cases hx),Below.refl _ _⟩
    case round=>
     obtain⟨k,hk,rfl,hno,hbw⟩:=hrel
     have HNO:=Lib.hid hno
     have HBW:=Lib.hid hbw
     by_cases hkl:k<nn
     ·have j0:(k:Int)<(nn:Int):=by omega
      obtain⟨x,hx⟩:∃ x,(nbs LK i)[k]?=some x:=⟨_,List.getElem?_eq_getElem (by rw[HNN.out];exact hkl)⟩
      obtain⟨b3,o3,rfl,hb3,hc3⟩:=(HROW.out.below hbw).2 (by omega)
      have y0:wr.cell? ⟨b3,o3+k * 3,none⟩=some (.int .i64 x.o):=hc3 k x hx 0 (by decide)
      have y1:wr.cell? ⟨b3,o3+k * 3+1,none⟩=some (.bool x.f):=hc3 k x hx 1 (by decide)
      have y2:wr.cell? ⟨b3,o3+k * 3+2,none⟩=some (.pointer (some ⟨x.g,0,none⟩)):=hc3 k x hx 2 (by decide)
      obtain⟨V1,hV1⟩:∃ V,V=wr.alloc (.cells #[.int .i64 x.o,.bool x.f,.pointer (some ⟨x.g,0,none⟩)] 105):=⟨_,rfl⟩
      obtain⟨p14,hp14⟩:∃ p,p=wr.heap.size:=⟨_,rfl⟩
      have HXK:=Lib.hid hx
      have HBV:Hid (Below W2.heap.size W2 V1):=Lib.hid (by rw[hV1];exact hbw.alloc hbw.size _)
      have hXN:Blk V1 p14 105 [.int .i64 x.o,.bool x.f,.pointer (some ⟨x.g,0,none⟩)]:=by rw[hV1,hp14];exact blk_new wr _ _
      have z0:=hXN.cell (i:=0) rfl
      have z1:=hXN.cell (i:=1) rfl
      have z2:=hXN.cell (i:=2) rfl
      have z3:=hXN.lt
      have HTK:Hid (∀ y∈(nbs LK i).take (k+1),x.o≠j→y.o≠j):=Lib.hid (fun y hy hxj=>by
       rw[List.take_add_one,HXK.out,Option.toList_some] at hy
       rcases List.mem_append.1 hy with hy | hy
       ·exact HNO.out y hy
       ·rw[List.mem_singleton] at hy;subst hy;exact hxj)
      obtain⟨xo,xf,xg⟩:=x
      dsimp only at y0 y1 y2 z0 z1 z2 hV1 HTK
      clear hXN hc3 hx hno hbw
      go_upto_region 11 with fail
      rw[←hV1,←hp14]
      clear hV1 hp14 y0 y1 y2
      by_cases hxj:xo=j
      ·subst hxj
       have HCB:=Lib.hid (HBL.out trivial i ⟨xo,xf,xg⟩ tb LK V1 (HB2.out.trans (HBV.out.mono HB2.out.size)) (HTB.out.keep HBV.out) HLK.out hij (List.mem_of_getElem? HXK.out))
       have HRV:Hid (R=(bN D r i xo,0)):=Lib.hid HR.out
       dsimp only at HCB
       go_wp2_with fail
       refine HCB.out.mono ?_
       rintro e W4 ⟨rfl,hb4⟩
       have HB4:=Lib.hid ((HB2.out.trans (HBV.out.mono HB2.out.size)).trans (hb4.mono (Nat.le_trans HB2.out.size HBV.out.size)))
       clear hb4
       have hR:=HRV.out
       go_wp2_with fail
       subst hR
       refine bodyPost_ret (v:=.tuple #[.int .i64 (bN D r i xo:Nat),.int .i64 0]) (by simp[results,Tryz.results20,go_sem]) rfl ⟨rfl,HB4.out⟩
      ·have j1:¬(xo:Int)=(j:Int):=by omega
       go_wp2_with fail
       go_roundw
       case rel=>exact⟨k+1,hkl,by go_num,fun y hy=>HTK.out y hy hxj,HBV.out⟩
       case measure=>simp[intOf];omega
     ·obtain rfl:k=nn:=by omega
      have j0:¬((k:Nat):Int)<(k:Int):=by omega
      have HRV:Hid (R=(0,0)):=Lib.hid (by
       have:=HZ.out trivial i j LK HLK.out hij hjj (fun hm=>by
        obtain⟨y,hy,e⟩:=List.mem_map.1 hm
        rw[List.take_of_length_le (by rw[HNN.out];exact Nat.le_refl _)] at hno
        exact hno y hy e)
       rw[HR.out,this])
      have hR:=HRV.out
      clear hno hbw
      go_wp2_with fail
      subst hR
      refine bodyPost_ret (v:=.tuple #[.int .i64 0,.int .i64 0]) (by simp[results,Tryz.results20,go_sem]) rfl ⟨rfl,HB2.out.trans (HBW.out.mono HB2.out.size)⟩
end Go.Proofs.YtjakdikhdndlgaaGreatDoor
