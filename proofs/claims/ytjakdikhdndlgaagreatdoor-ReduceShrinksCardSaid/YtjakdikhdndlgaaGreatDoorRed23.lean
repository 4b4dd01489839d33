/- Check of problem,at a valid problem and a valid list. -/
import Derived.Test.YtjakdikhdndlgaaGreatDoorRed13
set_option maxRecDepth 100000
set_option maxHeartbeats 4000000
namespace Go.Proofs.YtjakdikhdndlgaaGreatDoor
open Go.RowKit
theorem hasL_cons (y:Int) (l:List Int) (x:Int):hasL (y::l) x=if y=x then true else hasL l x:=by
 rfl
def idxL:List Int→Int→Int→Int
 | [],_,_=>-1
 | y::r,x,k=>if x=y then k else idxL r x (k+1)
theorem idxL_has:∀(l:List Int) (x k:Int),0≤k→(0≤idxL l x k↔hasL l x=true):=by
 intro l
 induction l with
 | nil=>intro x k _;simp[idxL,hasL]
 | cons y r ih=>
  intro x k hk
  rw[idxL,hasL_cons]
  by_cases h:x=y
  ·rw[if_pos h,if_pos h.symm];exact⟨fun _=>rfl,fun _=>hk⟩
  ·rw[if_neg h,if_neg (fun e=>h e.symm)];exact ih x (k+1) (by omega)
theorem index_any (A:Option Addr) (n c:Nat) (x:Int) (w:World) (l:List Int) (hn:n≤9223372036854775807) (hl:Row1 intV w w.heap.size A n l):
  Calls Tryz.prog 130 #[.slice A n c,.int .i64 x] w fun e w'=>e=.returned (.int .i64 (idxL l x 0))∧w=w':=by
 have Hl:=Lib.hid hl
 have Hlen:=Eqn.mk hl.1
 clear hl
 go_enter Tryz.func130,Tryz.ntmps130
 go_wp2_with fail
 go_loopw [8] (fun i wr=>∃ k:Nat,k≤n∧i=.int .i64 k∧Eqn (idxL l x 0) (idxL (l.drop k) x (k:Int))∧w=wr) (fun i _=>n - (intOf i).toNat)
 case atStart=>exact⟨0,Nat.zero_le _,rfl,rfl,rfl⟩
 case round=>
  obtain⟨k,hk,rfl,HR,rfl⟩:=hrel
  by_cases hlt:k<n
  ·have j0:(k:Int)<(n:Int):=by omega
   obtain⟨y,hy,hyd⟩:=drop_at (xs:=l) (k:=k) (by rw[Hlen.out];exact hlt)
   obtain⟨b,off,rfl,hbl,hc⟩:=Hl.out.2 (by omega)
   have c0:=hc k y hy
   unfold intV at c0
   have HR2:=HR.out
   rw[hyd,idxL] at HR2
   have HRR:=Lib.hid HR2
   clear hc hy hyd HR HR2
   by_cases hxy:x=y
   ·have HV:Hid (idxL l x 0=(k:Int)):=Lib.hid (HRR.out.trans (if_pos hxy))
    have hd:(x == y)=true:=by simpa using hxy
    clear HRR
    subst hxy
    go_wp2_with fail
    go_ret
    exact⟨by rw[HV.out];rfl,by first|rfl | trivial⟩
   ·have HV:Hid (idxL l x 0=idxL (l.drop (k+1)) x ((k:Int)+1)):=Lib.hid (HRR.out.trans (if_neg hxy))
    have hd:(x == y)=false:=by simpa using hxy
    clear HRR
    go_wp2_with fail
    go_roundw
    case rel=>exact⟨k+1,hlt,by go_num,by rw[Eqn,HV.out];rfl,by first|rfl | trivial⟩
    case measure=>simp[intOf];omega
  ·obtain rfl:k=n:=by omega
   have HV:Hid (idxL l x 0=-1):=Lib.hid (by rw[HR.out,List.drop_of_length_le (by rw[Hlen.out];exact Nat.le_refl _)];rfl)
   clear HR
   go_wp2_with fail
   go_ret
   exact⟨by rw[HV.out];rfl,by first|rfl | trivial⟩
theorem contains_any (A:Option Addr) (n c:Nat) (x:Int) (w:World) (l:List Int) (hn:n≤9223372036854775807) (hl:Row1 intV w w.heap.size A n l):
  Calls Tryz.prog 125 #[.slice A n c,.int .i64 x] w fun e w'=>e=.returned (.bool (hasL l x))∧w=w':=by
 have HI:=Lib.hid (index_any A n c x w l hn hl)
 have HH:=Lib.hid (idxL_has l x 0 (Int.le_refl _))
 clear hl
 generalize idxL l x 0=k at *
 by_cases h:0≤k
 ·have hd:decide (0≤k)=true:=decide_eq_true h
  have HV:Hid (hasL l x=true):=Lib.hid (HH.out.1 h)
  go_enter Tryz.func125,Tryz.ntmps125
  go_wp2_with fail
  refine HI.out.mono ?_
  rintro e w1 ⟨rfl,rfl⟩
  go_wp2_with fail
  go_ret
  exact⟨by rw[HV.out];rfl,rfl⟩
 ·have HV:Hid (hasL l x=false):=Lib.hid (by rw[←Bool.not_eq_true];exact fun e=>h (HH.out.2 e))
  have hd:decide (0≤k)=false:=decide_eq_false h
  go_enter Tryz.func125,Tryz.ntmps125
  go_wp2_with fail
  refine HI.out.mono ?_
  rintro e w1 ⟨rfl,rfl⟩
  go_wp2_with fail
  go_ret
  exact⟨by rw[HV.out];rfl,rfl⟩
theorem Hp.setAll {w u W:World} {L:List Ent} {ds:List Nat} (h:Hp w u W L ds) (i:Nat) {g t:Nat} {s:List Value} (R:Array Value) (hi:L[i]?=some (.blk g t s)):Hp w u (W.setRow g R) (L.set i (.blk g t R.toList)) ds:=
 h.upd i hi (grownBy_setRow W g R) (by
  have hb:W.heap[g]?=some (.cells s.toArray t (0,0)):=h.blk i hi
  show (W.setRow g R).heap[g]?=some (.cells R.toList.toArray t (0,0))
  simp[World.setRow,Array.getElem?_modify,hb]) (fun _ hg'=>.inl hg')
def ViolPost (ok:Bool) (w:World) (e:Ending) (w':World):Prop:=∃ k a:Int,e=.returned (.agg #[.int .i64 k,.int .i64 a])∧((ok=true∧k=0)∨(ok=false∧k≠0))∧Below w.heap.size w w'
theorem violation_any (s:PrbS) (A:Option Addr) (n c:Nat) (w:World) (ds:List Dom) (r:Rul) (l:List (Int×Int)) (hn:n≤100000) (hl:RowS 2 chC w w.heap.size A n l) (h:PrbAt w w.heap.size s ds r)
  (hv:vlGo none l=true) (hp:validP ds r=true):
  Calls Tryz.prog 110 #[s.val,.slice A n c,.bool true] w (ViolPost (okF ds r l true) w):=by
 obtain⟨Ad,nd,cd,⟨A0,n0,c0,A1,n1,c1,A2,n2,c2⟩⟩:=s
 obtain⟨Z,hZ⟩:∃ Z:Array Value,Z=Array.replicate 512 (.int .i64 0):=⟨_,rfl⟩
 have hz:=arr512.1
 rw[←hZ] at hz
 have HZ:=Eqn.mk hZ
 have HP:=Lib.hid h
 have HVL:=Lib.hid hv
 have HVP:=Lib.hid hp
 have Hl:=Lib.hid hl
 have Hlen:=Eqn.mk hl.1
 have hst:=valid_st hp
 have hd1:ds.length=nd:=h.1.1.1
 obtain⟨V0,hV0⟩:∃ V0,V0=((w.alloc (.cells #[.slice Ad nd cd,.slice A0 n0 c0,.slice A1 n1 c1,.slice A2 n2 c2] 29)).alloc (.cells #[.int .i64 0,.int .i64 0] 119)).alloc (.cells Z 89):=⟨_,rfl⟩
 have hP0:Hp w w V0 [.blk w.heap.size 29 [.slice Ad nd cd,.slice A0 n0 c0,.slice A1 n1 c1,.slice A2 n2 c2],.blk (w.heap.size+1) 119 [.int .i64 0,.int .i64 0],.blk (w.heap.size+1+1) 89 ((arrF (l.take 0)).map intV)] []:=by
  have h:=(((Hp.start w).alloc [.slice Ad nd cd,.slice A0 n0 c0,.slice A1 n1 c1,.slice A2 n2 c2] 29).alloc [.int .i64 0,.int .i64 0] 119).alloc Z.toList 89
  simp only[World.size_alloc,Array.toArray_toList] at h
  have e:Z.toList=(arrF (l.take 0)).map intV:=by rw[hZ];unfold arrF;rw[List.take_zero,List.foldl_nil,List.map_replicate,Array.toList_replicate];rfl
  rw[←e,hV0];exact h
 have HP0:=Lib.hid hP0
 have HZV:=Lib.hid hz
 have HZS:Hid (Z.size=512):=Lib.hid (by rw[hZ,Array.size_replicate])
 clear hZ hP0 hl h hv hp
 show Calls Tryz.prog 110 #[.agg #[.slice Ad nd cd,.slice A0 n0 c0,.slice A1 n1 c1,.slice A2 n2 c2],.slice A n c,.bool true] w _
 go_enter Tryz.func110,Tryz.ntmps110
 go_upto_region 2 with fail
 rw[←hV0]
 clear hV0 hz
 generalize w.heap.size+1+1=p7 at *
 generalize w.heap.size+1=p6 at *
 generalize hp3:w.heap.size=p3 at HP0 ⊢
 have HP3:=Lib.hid hp3
 clear hp3
 go_wp2_with fail
 have hvf:=(vl_facts l none HVL.out).1
 have HVF:=Lib.hid hvf
 clear hvf
 go_loopw [23] (fun i wr=>∃ k:Nat,k≤n∧i=.int .i64 k∧Hp w w wr [.blk p3 29 [.slice Ad nd cd,.slice A0 n0 c0,.slice A1 n1 c1,.slice A2 n2 c2],.blk p6 119 [.int .i64 0,.int .i64 0],.blk p7 89 ((arrF (l.take k)).map intV)] []) (fun i _=>n - (intOf i).toNat)
 case atStart=>exact⟨0,Nat.zero_le _,rfl,HP0.out⟩
 case round=>
  clear HP0
  obtain⟨k,hk,rfl,hQ⟩:=hrel
  have HQ:=Lib.hid hQ
  by_cases hlt:k<n
  ·have j0:(k:Int)<(n:Int):=by omega
   obtain⟨x,hx⟩:∃ x,l[k]?=some x:=⟨_,List.getElem?_eq_getElem (by rw[Hlen.out];exact hlt)⟩
   have HST:=Eqn.mk (arrF_take hx)
   have HXL:=Lib.hid (arrF_len (l.take k))
   have hxf:=(HVF.out x (List.mem_of_getElem? hx)).1
   obtain⟨b,off,rfl,hbw,hcell⟩:=(Hl.out.below hQ.below).2 (by omega)
   have y0:wr.cell? ⟨b,off+k * 2,none⟩=some (.int .i64 x.1):=hcell k x hx 0 (by decide)
   have y1:wr.cell? ⟨b,off+k * 2+1,none⟩=some (.int .i64 x.2):=hcell k x hx 1 (by decide)
   obtain⟨xs,xc⟩:=x
   dsimp only at y0 y1 HST hxf
   obtain⟨a,rfl⟩:∃ a:Nat,xs=(a:Int):=⟨xs.toNat,(Int.toNat_of_nonneg hxf.1).symm⟩
   rw[Int.toNat_natCast] at HST
   generalize arrF (l.take k)=O at *
   obtain⟨V1,hV1⟩:∃ V,V=wr.alloc (.cells #[.int .i64 (a:Int),.int .i64 xc] 75):=⟨_,rfl⟩
   have hQ1:=HQ.out.alloc [.int .i64 (a:Int),.int .i64 xc] 75
   rw[show ([.int .i64 (a:Int),.int .i64 xc]:List Value).toArray=#[.int .i64 (a:Int),.int .i64 xc] from rfl,←hV1] at hQ1
   have HQ1:=Lib.hid hQ1
   have ha:a<O.length:=by rw[HXL.out];omega
   obtain⟨z,hz⟩:∃ z,O[a]?=some z:=⟨_,List.getElem?_eq_getElem ha⟩
   have cX:=hQ1.cI 2 a rfl hz
   have fX:=hQ1.f 2 rfl
   have lX:=hQ1.lt 2 rfl
   have q0:=hQ1.c 3 0 rfl rfl
   have q1:=hQ1.c 3 1 rfl rfl
   have lq:=hQ1.lt 3 rfl
   have i0:(a:Int)<512:=by omega
   clear hQ hx hcell hbw hQ1 hz ha
   go_upto_region 5 with fail
   rw[←hV1]
   clear hV1 y0 y1
   generalize wr.heap.size=p9 at *
   go_wp2_with fail
   go_roundw
   case rel=>exact⟨k+1,hlt,by go_num,by rw[HST.out];exact(HQ1.out.setI 2 a xc rfl).sub (List.Sublist.cons_cons _ (List.Sublist.cons_cons _ (List.Sublist.cons_cons _ (List.nil_sublist _))))⟩
   case measure=>simp[intOf];omega
  ·obtain rfl:k=n:=by omega
   obtain⟨n,rfl⟩:∃ n',n'=k:=⟨_,rfl⟩
   rw[List.take_of_length_le (by rw[Hlen.out];exact Nat.le_refl _)] at HQ
   have HAO:=Lib.hid (fun x hx=>arr_onI HVL.out x hx)
   have HAL:=Lib.hid (arrF_len l)
   have HF1:Hid ((∃ d∈ds,bdF true l d=true)→okF ds r l true=false):=Lib.hid (by
    rintro⟨d,hd,hb⟩
    unfold okF
    rw[show ds.all (fun d=>!bdF true l d)=false by
     rw[←Bool.not_eq_true,List.all_eq_true];intro h;have:=h d hd;rw[hb] at this;cases this]
    rfl)
   have HBD:Hid (∀ d:Dom,bdF true l d=((decide (onF l d.st=0)&&true)||(!decide (onF l d.st=0)&&!hasL d.chs (onF l d.st)))):=Lib.hid (fun d=>rfl)
   generalize hOO:arrF l=O at *
   have HOO:=Eqn.mk hOO
   have HST1:=Lib.hid hst.1
   have HCL:=Lib.hid hst.2.2.1
   have hnd:nd≤512:=by have:=hst.2.1;omega
   have HSL:=Lib.hid hst.2.2.2
   have m0:=hQ.c 0 0 rfl rfl
   have m4:=hQ.lt 0 rfl
   clear hQ hOO hst
   go_wp2_with fail
   clear m0 m4
   go_loopw [36] (fun i wr=>∃ k:Nat,k≤nd∧i=.int .i64 k∧(∀(j:Nat) (d:Dom),j<k→ds[j]?=some d→bdF true l d=false)∧Hp w w wr [.blk p3 29 [.slice Ad nd cd,.slice A0 n0 c0,.slice A1 n1 c1,.slice A2 n2 c2],.blk p6 119 [.int .i64 0,.int .i64 0],.blk p7 89 (O.map intV)] []) (fun i _=>nd - (intOf i).toNat)
   case atStart=>exact⟨0,Nat.zero_le _,rfl,fun j d hj=>by omega,HQ.out⟩
   case round=>
    clear HQ
    obtain⟨k,hk,rfl,hno,hQ⟩:=hrel
    have HQ:=Lib.hid hQ
    have HNO:=Lib.hid hno
    by_cases hlt:k<nd
    ·have j0:(k:Int)<(nd:Int):=by omega
     obtain⟨d,hd⟩:∃ d,ds[k]?=some d:=⟨_,List.getElem?_eq_getElem (by omega)⟩
     have hdm:=List.mem_of_getElem? hd
     have hdst:=HST1.out d.st (List.mem_map.2 ⟨d,hdm,rfl⟩)
     have hDA:=HP.out.1.keep hQ.below
     obtain⟨b,off,hA,hbl,hc⟩:=hDA.1.2 (by dsimp only;omega)
     dsimp only at hA
     subst hA
     have y0:wr.cell? ⟨b,off+k * 2,none⟩=some (.int .i64 d.st):=hc k _ hd 0 (by omega)
     have y1:wr.cell? ⟨b,off+k * 2+1,none⟩=some (.slice d.adr d.len d.cap):=hc k _ hd 1 (by omega)
     have HCH:=Lib.hid (hDA.2 d hdm)
     have hlen:d.len≤50:=by have h1:=(hDA.2 d hdm).1;have h2:=HCL.out d hdm;omega
     have HBDd:=Lib.hid (HBD.out d)
     have HF1d:=Lib.hid (fun h=>HF1.out ⟨d,hdm,h⟩)
     have hov:=HAO.out d.st hdst
     have HNX:Hid (bdF true l d=false→∀(j:Nat) (d':Dom),j<k+1→ds[j]?=some d'→bdF true l d'=false):=Lib.hid (fun hb j d' hj hd'=>by
      rcases Nat.lt_or_ge j k with h | h
      ·exact HNO.out j d' h hd'
      ·have:j=k:=by omega
       subst this;rw[hd] at hd';cases hd';exact hb)
     generalize bdF true l d=bd at *
     obtain⟨st,adr,len,cap,chs⟩:=d
     dsimp only at *
     obtain⟨a,rfl⟩:∃ a:Nat,st=(a:Int):=⟨st.toNat,(Int.toNat_of_nonneg hdst.1).symm⟩
     rw[Int.toNat_natCast] at hov
     generalize onF l (a:Int)=oc at *
     have hoa:O[a]?=some oc:=by
      rw[List.getElem?_eq_getElem (by rw[HAL.out];omega)]
      rw[List.getD_eq_getElem?_getD,List.getElem?_eq_getElem (by rw[HAL.out];omega)] at hov
      simpa using hov
     obtain⟨V1,hV1⟩:∃ V,V=wr.alloc (.cells #[.int .i64 (a:Int),.slice adr len cap] 64):=⟨_,rfl⟩
     have hQ1:=HQ.out.alloc [.int .i64 (a:Int),.slice adr len cap] 64
     rw[show ([.int .i64 (a:Int),.slice adr len cap]:List Value).toArray=#[.int .i64 (a:Int),.slice adr len cap] from rfl,←hV1] at hQ1
     have HQ1:=Lib.hid hQ1
     have hB1:Below wr.heap.size wr V1:=by rw[hV1];exact(Below.refl _ wr).alloc (Nat.le_refl _) _
     have HCO:=contains_any adr len cap oc V1 chs (by omega) (HCH.out.keep hB1)
     have cX:=hQ1.cI 2 a rfl hoa
     have lX:=hQ1.lt 2 rfl
     have q0:=hQ1.c 3 0 rfl rfl
     have q1:=hQ1.c 3 1 rfl rfl
     have lq:=hQ1.lt 3 rfl
     have u0:=hQ1.c 1 0 rfl rfl
     have u1:=hQ1.c 1 1 rfl rfl
     have uf:=hQ1.f 1 rfl
     have ul:=hQ1.lt 1 rfl
     have i0:(a:Int)<512:=by omega
     generalize hasL chs oc=hb at *
     have HCO:=Lib.hid HCO
     clear hQ hno hd hdm hDA hc hbl hov hoa hQ1 hB1
     go_upto_region 10 with fail
     rw[←hV1]
     clear hV1 y0 y1
     generalize wr.heap.size=p11 at *
     by_cases h0:oc=0
     ·have HBT:Hid (bd=true):=Lib.hid (by rw[HBDd.out,decide_eq_true h0];rfl)
      subst h0
      have HVR:Hid (okF ds r l true=false):=Lib.hid (HF1d.out HBT.out)
      clear HF1d HBT HNX HBDd
      go_wp2_with fail
      refine bodyPost_ret (v:=.agg #[.int .i64 1,.int .i64 k]) (by simp[results,Tryz.results110,go_sem,u0,u1]) rfl ⟨1,k,rfl,.inr ⟨HVR.out,by decide⟩,?_⟩
      exact((HQ1.out.set 1 0 (.int .i64 1) rfl).set 1 1 (.int .i64 k) rfl).below
     ·have h1:decide (oc=0)=false:=decide_eq_false h0
      have h2:(oc == 0)=false:=by simpa using h0
      cases hb with
      | true=>
       have HBT:Hid (bd=false):=Lib.hid (by rw[HBDd.out,h1];rfl)
       have HNX2:=Lib.hid (HNX.out HBT.out)
       clear HF1d HBT HNX HBDd h1
       go_wp2_with fail
       refine HCO.out.mono ?_
       rintro e w2 ⟨rfl,rfl⟩
       go_wp2_with fail
       go_roundw
       case rel=>exact⟨k+1,hlt,by go_num,HNX2.out,HQ1.out.sub (List.Sublist.cons_cons _ (List.Sublist.cons_cons _ (List.Sublist.cons_cons _ (List.nil_sublist _))))⟩
       case measure=>simp[intOf];omega
      | false=>
       have HBT:Hid (bd=true):=Lib.hid (by rw[HBDd.out,h1];rfl)
       have HVR:Hid (okF ds r l true=false):=Lib.hid (HF1d.out HBT.out)
       clear HF1d HBT HNX HBDd h1
       go_wp2_with fail
       refine HCO.out.mono ?_
       rintro e w2 ⟨rfl,rfl⟩
       go_wp2_with fail
       refine bodyPost_ret (v:=.agg #[.int .i64 1,.int .i64 k]) (by simp[results,Tryz.results110,go_sem,u0,u1]) rfl ⟨1,k,rfl,.inr ⟨HVR.out,by decide⟩,?_⟩
       exact((HQ1.out.set 1 0 (.int .i64 1) rfl).set 1 1 (.int .i64 k) rfl).below
    ·obtain rfl:k=nd:=by omega
     obtain⟨nd,rfl⟩:∃ n',n'=k:=⟨_,rfl⟩
     have HD1:Hid (ds.all (fun d=>!bdF true l d)=true):=Lib.hid (by
      rw[List.all_eq_true]
      intro d hd
      obtain⟨j,hj⟩:=List.getElem?_of_mem hd
      rw[hno j d (by have:=(List.getElem?_eq_some_iff.1 hj).1;omega) hj];rfl)
     have HMM:=Lib.hid (members_any ⟨Ad,nd,cd,⟨A0,n0,c0,A1,n1,c1,A2,n2,c2⟩⟩ wr ds (by dsimp only;omega) HST1.out (HP.out.1.keep hQ.below).1)
     have HIN:Hid (∀ x:Int,hasS (stS (ds.map Dom.st)) x=inD ds x):=Lib.hid (fun x=>by rw[hasS_mem HST1.out,inD_mem])
     have HF2:Hid ((∃ x∈l,inD ds x.1=false)→okF ds r l true=false):=Lib.hid (by
      rintro⟨x,hx,hb⟩
      unfold okF
      rw[show l.all (fun x=>inD ds x.1)=false by
       rw[←Bool.not_eq_true,List.all_eq_true];intro h;rw[h x hx] at hb;cases hb]
      simp)
     generalize stS (ds.map Dom.st)=T at *
     have m0:=hQ.c 0 0 rfl rfl
     have m1:=hQ.c 0 1 rfl rfl
     have m2:=hQ.c 0 2 rfl rfl
     have m3:=hQ.c 0 3 rfl rfl
     have m4:=hQ.lt 0 rfl
     unfold sV at HMM
     clear hQ hno
     go_wp2_with fail
     refine HMM.out.mono ?_
     rintro e w2 ⟨rfl,hb2⟩
     clear m0 m1 m2 m3 m4 HMM
     obtain⟨V2,hV2⟩:∃ V,V=w2.alloc (.cells (sL T).toArray 79):=⟨_,rfl⟩
     have hQ2:=(HQ.out.keep hb2).allocS T 79
     rw[←hV2] at hQ2
     unfold sL at hV2
     have HQ2:=Lib.hid hQ2
     clear hb2 hQ2 HQ
     go_upto_region 15 with fail
     rw[←hV2]
     clear hV2
     generalize w2.heap.size=p13 at *
     have HHS:=Lib.hid (fun x W=>has_any T x W)
     unfold sV at HHS
     go_wp2_with fail
     go_loopw [68] (fun i wr=>∃ k:Nat,k≤n∧i=.int .i64 k∧(∀(j:Nat) (x:Int×Int),j<k→l[j]?=some x→inD ds x.1=true)∧Hp w w wr [.blk p3 29 [.slice Ad nd cd,.slice A0 n0 c0,.slice A1 n1 c1,.slice A2 n2 c2],.blk p6 119 [.int .i64 0,.int .i64 0],.blk p7 89 (O.map intV),.blk p13 79 (tabL 8 (sC T))] []) (fun i _=>n - (intOf i).toNat)
     case atStart=>exact⟨0,Nat.zero_le _,rfl,fun j x hj=>by omega,HQ2.out⟩
     case round=>
      clear HQ2
      obtain⟨k,hk,rfl,hno,hQ⟩:=hrel
      have HQ:=Lib.hid hQ
      have HNO:=Lib.hid hno
      by_cases hlt:k<n
      ·have j0:(k:Int)<(n:Int):=by omega
       obtain⟨x,hx⟩:∃ x,l[k]?=some x:=⟨_,List.getElem?_eq_getElem (by rw[Hlen.out];exact hlt)⟩
       obtain⟨b,off,rfl,hbw,hcell⟩:=(Hl.out.below hQ.below).2 (by omega)
       have y0:wr.cell? ⟨b,off+k * 2,none⟩=some (.int .i64 x.1):=hcell k x hx 0 (by decide)
       have y1:wr.cell? ⟨b,off+k * 2+1,none⟩=some (.int .i64 x.2):=hcell k x hx 1 (by decide)
       have HF2d:=Lib.hid (fun h=>HF2.out ⟨x,List.mem_of_getElem? hx,h⟩)
       have HNX:Hid (inD ds x.1=true→∀(j:Nat) (x':Int×Int),j<k+1→l[j]?=some x'→inD ds x'.1=true):=Lib.hid (fun hb j x' hj hx'=>by
        rcases Nat.lt_or_ge j k with h | h
        ·exact HNO.out j x' h hx'
        ·have:j=k:=by omega
         subst this;rw[hx] at hx';cases hx';exact hb)
       obtain⟨xs,xc⟩:=x
       dsimp only at *
       obtain⟨V1,hV1⟩:∃ V,V=wr.alloc (.cells #[.int .i64 xs,.int .i64 xc] 75):=⟨_,rfl⟩
       have hQ1:=HQ.out.alloc [.int .i64 xs,.int .i64 xc] 75
       rw[show ([.int .i64 xs,.int .i64 xc]:List Value).toArray=#[.int .i64 xs,.int .i64 xc] from rfl,←hV1] at hQ1
       have HQ1:=Lib.hid hQ1
       have HH1:=HHS.out xs V1
       rw[HIN.out] at HH1
       generalize inD ds xs=hb at *
       have HH1:=Lib.hid HH1
       obtain⟨c3_0,c3_1,c3_2,c3_3,c3_4,c3_5,c3_6,c3_7⟩:=(hQ1.blk 3 rfl).eight;have f3:=hQ1.f 3 rfl;have l3:=hQ1.lt 3 rfl
       have q0:=hQ1.c 4 0 rfl rfl
       have q1:=hQ1.c 4 1 rfl rfl
       have lq:=hQ1.lt 4 rfl
       clear hQ hno hx hcell hbw hQ1
       go_upto_region 18 with fail
       rw[←hV1]
       clear hV1 y0 y1
       generalize wr.heap.size=p15 at *
       cases hb with
       | true=>
        have HNX2:=Lib.hid (HNX.out rfl)
        clear HNX HF2d
        go_wp2_with fail
        refine HH1.out.mono ?_
        rintro e w5 ⟨rfl,hb5⟩
        have HQ5:=Lib.hid (HQ1.out.keep hb5)
        clear hb5 HH1 HQ1 HQ q0 q1 lq c3_0 c3_1 c3_2 c3_3 c3_4 c3_5 c3_6 c3_7 f3 l3
        go_wp2_with fail
        go_roundw
        case rel=>exact⟨k+1,hlt,by go_num,HNX2.out,HQ5.out.sub (List.sublist_append_left _ _)⟩
        case measure=>simp[intOf];omega
       | false=>
        have HVR:Hid (okF ds r l true=false):=Lib.hid (HF2d.out rfl)
        clear HNX HF2d
        go_wp2_with fail
        refine HH1.out.mono ?_
        rintro e w5 ⟨rfl,hb5⟩
        have hQ5:=HQ1.out.keep hb5
        have HQ5:=Lib.hid hQ5
        have u0:=hQ5.c 1 0 rfl rfl
        have u1:=hQ5.c 1 1 rfl rfl
        have uf:=hQ5.f 1 rfl
        have ul:=hQ5.lt 1 rfl
        clear hb5 HH1 HQ1 HQ q0 q1 lq hQ5 c3_0 c3_1 c3_2 c3_3 c3_4 c3_5 c3_6 c3_7 f3 l3
        go_wp2_with fail
        refine bodyPost_ret (v:=.agg #[.int .i64 2,.int .i64 k]) (by simp[results,Tryz.results110,go_sem,u0,u1]) rfl ⟨2,k,rfl,.inr ⟨HVR.out,by decide⟩,?_⟩
        exact((HQ5.out.set 1 0 (.int .i64 2) rfl).set 1 1 (.int .i64 k) rfl).below
      ·obtain rfl:k=n:=by omega
       obtain⟨n,rfl⟩:∃ n',n'=k:=⟨_,rfl⟩
       have HD2:Hid (l.all (fun x=>inD ds x.1)=true):=Lib.hid (by
        rw[List.all_eq_true]
        intro x hx
        obtain⟨j,hj⟩:=List.getElem?_of_mem hx
        exact hno j x (by have:=(List.getElem?_eq_some_iff.1 hj).1;have:=Hlen.out;omega) hj)
       have hru:rulesF r=true:=by have:=HVP.out;unfold validP validD at this;simp only[Bool.and_eq_true] at this;exact this.1.1.2
       have HGP:Hid (∀ x∈r.pairs,goodP x=true):=Lib.hid (by
        have:=hru
        unfold rulesF at this
        simp only[Bool.and_eq_true,List.all_eq_true] at this
        exact this.1.1.1.1.1.1.1.2)
       have HGL:Hid (∀ x∈r.loads,goodL x=true):=Lib.hid (by
        have:=hru
        unfold rulesF at this
        simp only[Bool.and_eq_true,List.all_eq_true] at this
        exact this.1.1.1.1.2)
       have HGC:Hid (∀ x∈r.caps,goodC x=true):=Lib.hid (by
        have:=hru
        unfold rulesF at this
        simp only[Bool.and_eq_true,List.all_eq_true] at this
        exact this.1.2)
       have HF3:Hid ((∃ x∈r.pairs,bpF x l=true)→okF ds r l true=false):=Lib.hid (by
        rintro⟨x,hx,hb⟩
        unfold okF
        rw[show r.pairs.all (fun x=>!bpF x l)=false by
         rw[←Bool.not_eq_true,List.all_eq_true];intro h;have:=h x hx;rw[hb] at this;cases this]
        simp)
       have HPB:=Lib.hid (fun (x:R5) (hx:goodP x=true)=>pair_breaks HVL.out hx)
       have HRG:=Lib.hid (fun x=>on_range HVL.out x)
       have hpl:r.pairs.length=n0:=HP.out.2.1.1
       have hn0:n0≤4096:=by have:=HSL.out.1;omega
       have m0:=hQ.c 0 1 rfl rfl
       have m4:=hQ.lt 0 rfl
       clear hQ hno hru
       go_wp2_with fail
       clear m0 m4
       go_loopw [85] (fun i wr=>∃ k:Nat,k≤n0∧i=.int .i64 k∧(∀(j:Nat) (x:R5),j<k→r.pairs[j]?=some x→bpF x l=false)∧Hp w w wr [.blk p3 29 [.slice Ad nd cd,.slice A0 n0 c0,.slice A1 n1 c1,.slice A2 n2 c2],.blk p6 119 [.int .i64 0,.int .i64 0],.blk p7 89 (O.map intV),.blk p13 79 (tabL 8 (sC T))] []) (fun i _=>n0 - (intOf i).toNat)
       case atStart=>exact⟨0,Nat.zero_le _,rfl,fun j x hj=>by omega,HQ.out⟩
       case round=>
        clear HQ
        obtain⟨k,hk,rfl,hno,hQ⟩:=hrel
        have HQ:=Lib.hid hQ
        have HNO:=Lib.hid hno
        by_cases hlt:k<n0
        ·have j0:(k:Int)<(n0:Int):=by omega
         obtain⟨x,hx⟩:∃ x,r.pairs[k]?=some x:=⟨_,List.getElem?_eq_getElem (by omega)⟩
         have hxm:=List.mem_of_getElem? hx
         have hgx:=HGP.out x hxm
         obtain⟨b,off,hA,hbw,hcell⟩:=((HP.out.2.keep hQ.below).1).2 (by dsimp only;omega)
         dsimp only at hA
         subst hA
         have y0:wr.cell? ⟨b,off+k * 5,none⟩=some (.int .i64 x.a):=hcell k x hx 0 (by decide)
         have y1:wr.cell? ⟨b,off+k * 5+1,none⟩=some (.int .i64 x.b):=hcell k x hx 1 (by decide)
         have y2:wr.cell? ⟨b,off+k * 5+2,none⟩=some (.int .i64 x.c):=hcell k x hx 2 (by decide)
         have y3:wr.cell? ⟨b,off+k * 5+3,none⟩=some (.int .i64 x.d):=hcell k x hx 3 (by decide)
         have y4:wr.cell? ⟨b,off+k * 5+4,none⟩=some (.int .i64 x.e):=hcell k x hx 4 (by decide)
         have hpb:=HPB.out x hgx
         have HF3d:=Lib.hid (fun h=>HF3.out ⟨x,hxm,h⟩)
         have HNX:Hid (bpF x l=false→∀(j:Nat) (x':R5),j<k+1→r.pairs[j]?=some x'→bpF x' l=false):=Lib.hid (fun hb j x' hj hx'=>by
          rcases Nat.lt_or_ge j k with h | h
          ·exact HNO.out j x' h hx'
          ·have:j=k:=by omega
           subst this;rw[hx] at hx';cases hx';exact hb)
         generalize bpF x l=bp at *
         unfold goodP spF at hgx
         simp only[Bool.and_eq_true,decide_eq_true_eq,stF_iff] at hgx
         have hoa:=HAO.out x.a hgx.1.1.1.1
         have hob:=HAO.out x.b hgx.1.1.1.2
         have hra:=HRG.out x.a
         obtain⟨xa,xb,xc,xd,xe⟩:=x
         dsimp only at *
         obtain⟨a',rfl⟩:∃ a':Nat,xa=(a':Int):=⟨xa.toNat,by omega⟩
         obtain⟨b',rfl⟩:∃ b':Nat,xb=(b':Int):=⟨xb.toNat,by omega⟩
         rw[Int.toNat_natCast] at hoa hob
         generalize onF l (a':Int)=oa at *
         generalize onF l (b':Int)=ob at *
         have ha5:a'<512:=by omega
         have hb5:b'<512:=by omega
         have hga:O[a']?=some oa:=by
          rw[List.getElem?_eq_getElem (by rw[HAL.out];exact ha5)]
          rw[List.getD_eq_getElem?_getD,List.getElem?_eq_getElem (by rw[HAL.out];exact ha5)] at hoa
          simpa using hoa
         have hgb:O[b']?=some ob:=by
          rw[List.getElem?_eq_getElem (by rw[HAL.out];exact hb5)]
          rw[List.getD_eq_getElem?_getD,List.getElem?_eq_getElem (by rw[HAL.out];exact hb5)] at hob
          simpa using hob
         have ew:wrap64 (oa+xc)=oa+xc:=by unfold wrap64;omega
         have ew2:IntKind.i64.wrap (oa+xc)=oa+xc:=IntWalk.i64_in _ (by omega)
         rw[ew] at hpb
         have HPBx:=Lib.hid hpb
         obtain⟨V1,hV1⟩:∃ V,V=wr.alloc (.cells #[.int .i64 (a':Int),.int .i64 (b':Int),.int .i64 xc,.int .i64 xd,.int .i64 xe] 67):=⟨_,rfl⟩
         have hQ1:=HQ.out.alloc [.int .i64 (a':Int),.int .i64 (b':Int),.int .i64 xc,.int .i64 xd,.int .i64 xe] 67
         rw[show ([.int .i64 (a':Int),.int .i64 (b':Int),.int .i64 xc,.int .i64 xd,.int .i64 xe]:List Value).toArray=#[.int .i64 (a':Int),.int .i64 (b':Int),.int .i64 xc,.int .i64 xd,.int .i64 xe] from rfl,←hV1] at hQ1
         have HQ1:=Lib.hid hQ1
         have cOa:=hQ1.cI 2 a' rfl hga
         have cOb:=hQ1.cI 2 b' rfl hgb
         have lO:=hQ1.lt 2 rfl
         have q0:=hQ1.c 4 0 rfl rfl
         have q1:=hQ1.c 4 1 rfl rfl
         have q2:=hQ1.c 4 2 rfl rfl
         have q3:=hQ1.c 4 3 rfl rfl
         have q4:=hQ1.c 4 4 rfl rfl
         have lq:=hQ1.lt 4 rfl
         have u0:=hQ1.c 1 0 rfl rfl
         have u1:=hQ1.c 1 1 rfl rfl
         have uf:=hQ1.f 1 rfl
         have ul:=hQ1.lt 1 rfl
         have ia:(a':Int)<512:=by omega
         have ib:(b':Int)<512:=by omega
         clear hQ hno hx hxm hcell hbw hQ1 hgx hoa hob hra hga hgb hpb ew
         go_upto_region 24 with fail
         rw[←hV1]
         clear hV1 y0 y1 y2 y3 y4
         generalize wr.heap.size=p17 at *
         have HBT:=Lib.hid (fun W=>betw_any oa xd xe W)
         cases hbw2:betwF oa xd xe with
         | false=>
          rw[hbw2] at HBT
          have HBP:Hid (bp=false):=Lib.hid (by rw[←HPBx.out,hbw2];rfl)
          have HNX2:=Lib.hid (HNX.out HBP.out)
          clear HNX HF3d HPBx hbw2
          go_wp2_with fail
          refine Lx.region (C:=fun _=>True) (hs:=[]) (by kernel_rfl) (by kernel_rfl) trivial ?_
          repeat' (first
           | (refine Lx.lex_no (Lx.n1 rfl rfl rfl (by with_reducible rfl)) (fun K hK=>?_);go_simp;refine hK _ ?_;clear hK K)
           | (refine Lx.lex_no (Lx.n0 rfl rfl rfl (by with_reducible rfl)) (fun K hK=>?_);go_simp;refine hK _ ?_;clear hK K)
           | (refine Lx.lex_no (Lx.n2 rfl rfl rfl) (fun K hK=>?_);go_simp;refine hK _ ?_;clear hK K)
           | (refine Lx.lex_pure (v:=?_) rfl (by first|exact Lx.w0 rfl | exact Lx.w1 rfl rfl rfl (by with_reducible rfl)) ?_ (fun K hK=>?_);rotate_left 1;(intro w' hCw;(try dsimp only at hCw);go_simp;done);go_simp;refine hK _ ?_;clear hK K)
           | (refine Lx.lex_pure (v:=?_) rfl (by first|exact Lx.w0 rfl | exact Lx.w1 rfl rfl rfl (by with_reducible rfl)) ?_ (fun K hK=>?_);rotate_left 1;(intro w' hCw;(try dsimp only at hCw);go_simp;with_reducible rfl);go_simp;refine hK _ ?_;clear hK K)
           | (refine Lx.lex_read (v:=?_) rfl (by first|exact Lx.w0 rfl | exact Lx.w1 rfl rfl rfl (by with_reducible rfl)) ?_ (fun K hK=>?_);rotate_left 1;(go_simp;done);go_simp;refine hK _ ?_;clear hK K)
           | (refine Lx.lex_read (v:=?_) rfl (by first|exact Lx.w0 rfl | exact Lx.w1 rfl rfl rfl (by with_reducible rfl)) ?_ (fun K hK=>?_);rotate_left 1;(go_simp;with_reducible rfl);go_simp;refine hK _ ?_;clear hK K)
           | (refine Lx.lex_eff rfl (by first|exact Lx.w0 rfl | exact Lx.w1 rfl rfl rfl (by with_reducible rfl)) (fun K hK=>?_);go_simp;(first|(go_at_call 103;refine(HBT.out _).mono ?_;rintro e w5 ⟨rfl,rfl⟩) | skip);refine hK _ _ (trivial) ?_;clear hK K)
           | (refine Lx.lex_cases rfl rfl rfl (fun hgd K hK=>?_) (fun hgd K hK=>?_)<;>(try simp only[decide_eq_true_eq,decide_eq_false_iff_not] at hgd)<;>(first|(exfalso;omega) | (go_simp;refine hK _ ?_;clear hK K))))
          all_goals (refine Lx.lex_nil ?_)
          go_wp2_with fail
          go_roundw
          case rel=>exact⟨k+1,hlt,by go_num,HNX2.out,HQ1.out.drew.sub (List.sublist_append_left _ _)⟩
          case measure=>simp[intOf];omega
         | true=>
          rw[hbw2] at HBT
          by_cases h2:ob=oa+xc
          ·have HBP:Hid (bp=true):=Lib.hid (by rw[←HPBx.out,hbw2,decide_eq_true h2];rfl)
           have HVR:Hid (okF ds r l true=false):=Lib.hid (HF3d.out HBP.out)
           have h3:(ob == oa+xc)=true:=by simpa using h2
           clear HNX HF3d HPBx hbw2 h2
           go_wp2_with fail
           refine Lx.region (C:=fun _=>True) (hs:=[]) (by kernel_rfl) (by kernel_rfl) trivial ?_
           repeat' (first
            | (refine Lx.lex_no (Lx.n1 rfl rfl rfl (by with_reducible rfl)) (fun K hK=>?_);go_simp;refine hK _ ?_;clear hK K)
            | (refine Lx.lex_no (Lx.n0 rfl rfl rfl (by with_reducible rfl)) (fun K hK=>?_);go_simp;refine hK _ ?_;clear hK K)
            | (refine Lx.lex_no (Lx.n2 rfl rfl rfl) (fun K hK=>?_);go_simp;refine hK _ ?_;clear hK K)
            | (refine Lx.lex_pure (v:=?_) rfl (by first|exact Lx.w0 rfl | exact Lx.w1 rfl rfl rfl (by with_reducible rfl)) ?_ (fun K hK=>?_);rotate_left 1;(intro w' hCw;(try dsimp only at hCw);go_simp;done);go_simp;refine hK _ ?_;clear hK K)
            | (refine Lx.lex_pure (v:=?_) rfl (by first|exact Lx.w0 rfl | exact Lx.w1 rfl rfl rfl (by with_reducible rfl)) ?_ (fun K hK=>?_);rotate_left 1;(intro w' hCw;(try dsimp only at hCw);go_simp;with_reducible rfl);go_simp;refine hK _ ?_;clear hK K)
            | (refine Lx.lex_read (v:=?_) rfl (by first|exact Lx.w0 rfl | exact Lx.w1 rfl rfl rfl (by with_reducible rfl)) ?_ (fun K hK=>?_);rotate_left 1;(go_simp;done);go_simp;refine hK _ ?_;clear hK K)
            | (refine Lx.lex_read (v:=?_) rfl (by first|exact Lx.w0 rfl | exact Lx.w1 rfl rfl rfl (by with_reducible rfl)) ?_ (fun K hK=>?_);rotate_left 1;(go_simp;with_reducible rfl);go_simp;refine hK _ ?_;clear hK K)
            | (refine Lx.lex_eff rfl (by first|exact Lx.w0 rfl | exact Lx.w1 rfl rfl rfl (by with_reducible rfl)) (fun K hK=>?_);go_simp;(first|(go_at_call 103;refine(HBT.out _).mono ?_;rintro e w5 ⟨rfl,rfl⟩) | skip);refine hK _ _ (trivial) ?_;clear hK K)
            | (refine Lx.lex_cases rfl rfl rfl (fun hgd K hK=>?_) (fun hgd K hK=>?_)<;>(try simp only[decide_eq_true_eq,decide_eq_false_iff_not] at hgd)<;>(first|(exfalso;omega) | (go_simp;refine hK _ ?_;clear hK K))))
           all_goals (refine Lx.lex_nil ?_)
           go_wp2_with fail
           refine bodyPost_ret (v:=.agg #[.int .i64 3,.int .i64 k]) (by simp[results,Tryz.results110,go_sem,u0,u1]) rfl ⟨3,k,rfl,.inr ⟨HVR.out,by decide⟩,?_⟩
           exact((HQ1.out.drew.set 1 0 (.int .i64 3) rfl).set 1 1 (.int .i64 k) rfl).below
          ·have HBP:Hid (bp=false):=Lib.hid (by rw[←HPBx.out,hbw2,decide_eq_false h2];rfl)
           have HNX2:=Lib.hid (HNX.out HBP.out)
           have h3:(ob == oa+xc)=false:=by simpa using h2
           clear HNX HF3d HPBx hbw2
           go_wp2_with fail
           refine Lx.region (C:=fun _=>True) (hs:=[]) (by kernel_rfl) (by kernel_rfl) trivial ?_
           repeat' (first
            | (refine Lx.lex_no (Lx.n1 rfl rfl rfl (by with_reducible rfl)) (fun K hK=>?_);go_simp;refine hK _ ?_;clear hK K)
            | (refine Lx.lex_no (Lx.n0 rfl rfl rfl (by with_reducible rfl)) (fun K hK=>?_);go_simp;refine hK _ ?_;clear hK K)
            | (refine Lx.lex_no (Lx.n2 rfl rfl rfl) (fun K hK=>?_);go_simp;refine hK _ ?_;clear hK K)
            | (refine Lx.lex_pure (v:=?_) rfl (by first|exact Lx.w0 rfl | exact Lx.w1 rfl rfl rfl (by with_reducible rfl)) ?_ (fun K hK=>?_);rotate_left 1;(intro w' hCw;(try dsimp only at hCw);go_simp;done);go_simp;refine hK _ ?_;clear hK K)
            | (refine Lx.lex_pure (v:=?_) rfl (by first|exact Lx.w0 rfl | exact Lx.w1 rfl rfl rfl (by with_reducible rfl)) ?_ (fun K hK=>?_);rotate_left 1;(intro w' hCw;(try dsimp only at hCw);go_simp;with_reducible rfl);go_simp;refine hK _ ?_;clear hK K)
            | (refine Lx.lex_read (v:=?_) rfl (by first|exact Lx.w0 rfl | exact Lx.w1 rfl rfl rfl (by with_reducible rfl)) ?_ (fun K hK=>?_);rotate_left 1;(go_simp;done);go_simp;refine hK _ ?_;clear hK K)
            | (refine Lx.lex_read (v:=?_) rfl (by first|exact Lx.w0 rfl | exact Lx.w1 rfl rfl rfl (by with_reducible rfl)) ?_ (fun K hK=>?_);rotate_left 1;(go_simp;with_reducible rfl);go_simp;refine hK _ ?_;clear hK K)
            | (refine Lx.lex_eff rfl (by first|exact Lx.w0 rfl | exact Lx.w1 rfl rfl rfl (by with_reducible rfl)) (fun K hK=>?_);go_simp;(first|(go_at_call 103;refine(HBT.out _).mono ?_;rintro e w5 ⟨rfl,rfl⟩) | skip);refine hK _ _ (trivial) ?_;clear hK K)
            | (refine Lx.lex_cases rfl rfl rfl (fun hgd K hK=>?_) (fun hgd K hK=>?_)<;>(try simp only[decide_eq_true_eq,decide_eq_false_iff_not] at hgd)<;>(first|(exfalso;omega) | (go_simp;refine hK _ ?_;clear hK K))))
           all_goals (refine Lx.lex_nil ?_)
           go_wp2_with fail
           go_roundw
           case rel=>exact⟨k+1,hlt,by go_num,HNX2.out,HQ1.out.drew.sub (List.sublist_append_left _ _)⟩
           case measure=>simp[intOf];omega
        ·obtain rfl:k=n0:=by omega
         obtain⟨n0,rfl⟩:∃ n',n'=k:=⟨_,rfl⟩
         have HD3:Hid (r.pairs.all (fun x=>!bpF x l)=true):=Lib.hid (by
          rw[List.all_eq_true]
          intro x hx
          obtain⟨j,hj⟩:=List.getElem?_of_mem hx
          rw[hno j x (by have:=(List.getElem?_eq_some_iff.1 hj).1;omega) hj];rfl)
         have hll:r.loads.length=n1:=HP.out.2.2.1.1
         have hn1:n1≤1024:=by have:=HSL.out.2.1;omega
         have hlr:∀ x∈r.loads,(0≤x.a∧x.a<512)∧0≤x.b∧x.b<512:=fun x hx=>by
          have:=HGL.out x hx
          unfold goodL at this
          simp only[Bool.and_eq_true,stF_iff] at this
          exact⟨this.1.1.1.1,this.1.1.1.2⟩
         have HLR:=Lib.hid hlr
         have HLO:=Lib.hid (losses_any A1 n1 c1 p7 O r.loads wr (by omega) ((HP.out.2.keep hQ.below).2.1) (hQ.blk 2 rfl) HAL.out hlr)
         have HLL:=Lib.hid (lostF_len O r.loads)
         have m0:=hQ.c 0 2 rfl rfl
         have m4:=hQ.lt 0 rfl
         clear hQ hno hlr
         go_wp2_with fail
         refine HLO.out.mono ?_
         rintro e w6 ⟨rfl,hb6⟩
         have hsz:(Tryz.prog.info? 89).map (·.size)=some (((lostF O r.loads).map intV).toArray).size:=by rw[arr512.2];simp[HLL.out]
         have HZL:Hid (Z.size=(((lostF O r.loads).map intV).toArray).size):=Lib.hid (by simp[HLL.out,HZS.out])
         have HA1:Hid ((((lostF O r.loads).map intV).toArray).all (·.oneCell')=true):=Lib.hid (by simp[intV,Value.oneCell'])
         have H1:=Lib.hid hsz
         have hQ7:=((HQ.out.keep hb6).alloc Z.toList 89).setAll 4 ((lostF O r.loads).map intV).toArray rfl
         simp only[Array.toArray_toList] at hQ7
         have HQ7:=Lib.hid hQ7
         have HR:Hid (((lostF O r.loads).map intV).toArray.toList=(lostF O r.loads).map intV):=Lib.hid (by simp)
         generalize hRR:((lostF O r.loads).map intV).toArray=R at *
         have hz:=HZV.out
         clear hsz hb6 m0 m4 HLO hRR hQ7
         go_upto_region 28 with (refine wpList_store_row rfl 89 _ _ rfl w6.heap.size R rfl rfl _ Z (heap_alloc_last w6 _) H1.out HZL.out HA1.out ?_)
         obtain⟨V7,hV7⟩:∃ V,V=(w6.alloc (.cells Z 89)).setRow w6.heap.size R:=⟨_,rfl⟩
         rw[←hV7] at HQ7 ⊢
         clear hV7 hz
         generalize w6.heap.size=p18 at *
         have HF4:Hid ((∃ x∈r.caps,bcF r.loads x l=true)→okF ds r l true=false):=Lib.hid (by
          rintro⟨x,hx,hb⟩
          unfold okF
          rw[show r.caps.all (fun x=>!bcF r.loads x l)=false by
           rw[←Bool.not_eq_true,List.all_eq_true];intro h;have:=h x hx;rw[hb] at this;cases this]
          simp)
         have HCB:=Lib.hid (fun (x:R4) (hx:goodC x=true)=>(by have:=cap_breaks HVL.out hx r.loads HLR.out;rw[HOO.out] at this;exact this:(betwF (onF l x.a) x.c x.d&&decide (x.b<(lostF O r.loads).getD x.a.toNat 0))=bcF r.loads x l))
         have hcl:r.caps.length=n2:=HP.out.2.2.2.1.1
         have hn2:n2≤1024:=by have:=HSL.out.2.2;omega
         have HQ8:Hid (Hp w w V7 [.blk p3 29 [.slice Ad nd cd,.slice A0 n0 c0,.slice A1 n1 c1,.slice A2 n2 c2],.blk p6 119 [.int .i64 0,.int .i64 0],.blk p7 89 (O.map intV),.blk p13 79 (tabL 8 (sC T)),.blk p18 89 ((lostF O r.loads).map intV)] []):=Lib.hid HQ7.out
         generalize lostF O r.loads=LO at *
         have m0:=HQ8.out.c 0 3 rfl rfl
         have m4:=HQ8.out.lt 0 rfl
         clear HQ7 HQ
         go_wp2_with fail
         clear m0 m4
         go_loopw [124] (fun i wr=>∃ k:Nat,k≤n2∧i=.int .i64 k∧(∀(j:Nat) (x:R4),j<k→r.caps[j]?=some x→bcF r.loads x l=false)∧Hp w w wr [.blk p3 29 [.slice Ad nd cd,.slice A0 n0 c0,.slice A1 n1 c1,.slice A2 n2 c2],.blk p6 119 [.int .i64 0,.int .i64 0],.blk p7 89 (O.map intV),.blk p13 79 (tabL 8 (sC T)),.blk p18 89 (LO.map intV)] []) (fun i _=>n2 - (intOf i).toNat)
         case atStart=>exact⟨0,Nat.zero_le _,rfl,fun j x hj=>by omega,HQ8.out⟩
         case round=>
          clear HQ8
          obtain⟨k,hk,rfl,hno,hQ⟩:=hrel
          have HQ:=Lib.hid hQ
          have HNO:=Lib.hid hno
          by_cases hlt:k<n2
          ·have j0:(k:Int)<(n2:Int):=by omega
           obtain⟨x,hx⟩:∃ x,r.caps[k]?=some x:=⟨_,List.getElem?_eq_getElem (by omega)⟩
           have hxm:=List.mem_of_getElem? hx
           have hgx:=HGC.out x hxm
           obtain⟨b,off,hA,hbw,hcell⟩:=((HP.out.2.keep hQ.below).2.2.1).2 (by dsimp only;omega)
           dsimp only at hA
           subst hA
           have y0:wr.cell? ⟨b,off+k * 4,none⟩=some (.int .i64 x.a):=hcell k x hx 0 (by decide)
           have y1:wr.cell? ⟨b,off+k * 4+1,none⟩=some (.int .i64 x.b):=hcell k x hx 1 (by decide)
           have y2:wr.cell? ⟨b,off+k * 4+2,none⟩=some (.int .i64 x.c):=hcell k x hx 2 (by decide)
           have y3:wr.cell? ⟨b,off+k * 4+3,none⟩=some (.int .i64 x.d):=hcell k x hx 3 (by decide)
           have hpb:=HCB.out x hgx
           have HF3d:=Lib.hid (fun h=>HF4.out ⟨x,hxm,h⟩)
           have HNX:Hid (bcF r.loads x l=false→∀(j:Nat) (x':R4),j<k+1→r.caps[j]?=some x'→bcF r.loads x' l=false):=Lib.hid (fun hb j x' hj hx'=>by
            rcases Nat.lt_or_ge j k with h | h
            ·exact HNO.out j x' h hx'
            ·have:j=k:=by omega
             subst this;rw[hx] at hx';cases hx';exact hb)
           generalize bcF r.loads x l=bp at *
           unfold goodC spF at hgx
           simp only[Bool.and_eq_true,decide_eq_true_eq,stF_iff] at hgx
           have hoa:=HAO.out x.a hgx.1.1
           obtain⟨xa,xb,xc,xd⟩:=x
           dsimp only at *
           obtain⟨a',rfl⟩:∃ a':Nat,xa=(a':Int):=⟨xa.toNat,by omega⟩
           rw[Int.toNat_natCast] at hoa hpb
           generalize onF l (a':Int)=oa at *
           have ha5:a'<512:=by omega
           obtain⟨la,hla⟩:∃ la,LO[a']?=some la:=⟨_,List.getElem?_eq_getElem (by rw[HLL.out];exact ha5)⟩
           have hga:O[a']?=some oa:=by
            rw[List.getElem?_eq_getElem (by rw[HAL.out];exact ha5)]
            rw[List.getD_eq_getElem?_getD,List.getElem?_eq_getElem (by rw[HAL.out];exact ha5)] at hoa
            simpa using hoa
           rw[List.getD_eq_getElem?_getD,hla,Option.getD_some] at hpb
           have HPBx:=Lib.hid hpb
           obtain⟨V1,hV1⟩:∃ V,V=wr.alloc (.cells #[.int .i64 (a':Int),.int .i64 xb,.int .i64 xc,.int .i64 xd] 71):=⟨_,rfl⟩
           have hQ1:=HQ.out.alloc [.int .i64 (a':Int),.int .i64 xb,.int .i64 xc,.int .i64 xd] 71
           rw[show ([.int .i64 (a':Int),.int .i64 xb,.int .i64 xc,.int .i64 xd]:List Value).toArray=#[.int .i64 (a':Int),.int .i64 xb,.int .i64 xc,.int .i64 xd] from rfl,←hV1] at hQ1
           have HQ1:=Lib.hid hQ1
           have cOa:=hQ1.cI 2 a' rfl hga
           have cLa:=hQ1.cI 4 a' rfl hla
           have lO:=hQ1.lt 2 rfl
           have lL:=hQ1.lt 4 rfl
           have q0:=hQ1.c 5 0 rfl rfl
           have q1:=hQ1.c 5 1 rfl rfl
           have q2:=hQ1.c 5 2 rfl rfl
           have q3:=hQ1.c 5 3 rfl rfl
           have lq:=hQ1.lt 5 rfl
           have u0:=hQ1.c 1 0 rfl rfl
           have u1:=hQ1.c 1 1 rfl rfl
           have uf:=hQ1.f 1 rfl
           have ul:=hQ1.lt 1 rfl
           have ia:(a':Int)<512:=by omega
           clear hQ hno hx hxm hcell hbw hQ1 hgx hoa hga hla hpb
           go_upto_region 31 with fail
           rw[←hV1]
           clear hV1 y0 y1 y2 y3
           generalize wr.heap.size=p20 at *
           have HBT:=Lib.hid (fun W=>betw_any oa xc xd W)
           cases hbw2:betwF oa xc xd with
           | false=>
            rw[hbw2] at HBT
            have HBP:Hid (bp=false):=Lib.hid (by rw[←HPBx.out,hbw2];rfl)
            have HNX2:=Lib.hid (HNX.out HBP.out)
            clear HNX HF3d HPBx hbw2
            go_wp2_with fail
            refine Lx.region (C:=fun _=>True) (hs:=[]) (by kernel_rfl) (by kernel_rfl) trivial ?_
            repeat' (first
             | (refine Lx.lex_no (Lx.n1 rfl rfl rfl (by with_reducible rfl)) (fun K hK=>?_);go_simp;refine hK _ ?_;clear hK K)
             | (refine Lx.lex_no (Lx.n0 rfl rfl rfl (by with_reducible rfl)) (fun K hK=>?_);go_simp;refine hK _ ?_;clear hK K)
             | (refine Lx.lex_no (Lx.n2 rfl rfl rfl) (fun K hK=>?_);go_simp;refine hK _ ?_;clear hK K)
             | (refine Lx.lex_pure (v:=?_) rfl (by first|exact Lx.w0 rfl | exact Lx.w1 rfl rfl rfl (by with_reducible rfl)) ?_ (fun K hK=>?_);rotate_left 1;(intro w' hCw;(try dsimp only at hCw);go_simp;done);go_simp;refine hK _ ?_;clear hK K)
             | (refine Lx.lex_pure (v:=?_) rfl (by first|exact Lx.w0 rfl | exact Lx.w1 rfl rfl rfl (by with_reducible rfl)) ?_ (fun K hK=>?_);rotate_left 1;(intro w' hCw;(try dsimp only at hCw);go_simp;with_reducible rfl);go_simp;refine hK _ ?_;clear hK K)
             | (refine Lx.lex_read (v:=?_) rfl (by first|exact Lx.w0 rfl | exact Lx.w1 rfl rfl rfl (by with_reducible rfl)) ?_ (fun K hK=>?_);rotate_left 1;(go_simp;done);go_simp;refine hK _ ?_;clear hK K)
             | (refine Lx.lex_read (v:=?_) rfl (by first|exact Lx.w0 rfl | exact Lx.w1 rfl rfl rfl (by with_reducible rfl)) ?_ (fun K hK=>?_);rotate_left 1;(go_simp;with_reducible rfl);go_simp;refine hK _ ?_;clear hK K)
             | (refine Lx.lex_eff rfl (by first|exact Lx.w0 rfl | exact Lx.w1 rfl rfl rfl (by with_reducible rfl)) (fun K hK=>?_);go_simp;(first|(go_at_call 103;refine(HBT.out _).mono ?_;rintro e w5 ⟨rfl,rfl⟩) | skip);refine hK _ _ (trivial) ?_;clear hK K)
             | (refine Lx.lex_cases rfl rfl rfl (fun hgd K hK=>?_) (fun hgd K hK=>?_)<;>(try simp only[decide_eq_true_eq,decide_eq_false_iff_not] at hgd)<;>(first|(exfalso;omega) | (go_simp;refine hK _ ?_;clear hK K))))
            all_goals (refine Lx.lex_nil ?_)
            go_wp2_with fail
            go_roundw
            case rel=>exact⟨k+1,hlt,by go_num,HNX2.out,HQ1.out.drew.sub (List.sublist_append_left _ _)⟩
            case measure=>simp[intOf];omega
           | true=>
            rw[hbw2] at HBT
            by_cases h2:xb<la
            ·have HBP:Hid (bp=true):=Lib.hid (by rw[←HPBx.out,hbw2,decide_eq_true h2];rfl)
             have HVR:Hid (okF ds r l true=false):=Lib.hid (HF3d.out HBP.out)
             clear HNX HF3d HPBx hbw2
             go_wp2_with fail
             refine Lx.region (C:=fun _=>True) (hs:=[]) (by kernel_rfl) (by kernel_rfl) trivial ?_
             repeat' (first
              | (refine Lx.lex_no (Lx.n1 rfl rfl rfl (by with_reducible rfl)) (fun K hK=>?_);go_simp;refine hK _ ?_;clear hK K)
              | (refine Lx.lex_no (Lx.n0 rfl rfl rfl (by with_reducible rfl)) (fun K hK=>?_);go_simp;refine hK _ ?_;clear hK K)
              | (refine Lx.lex_no (Lx.n2 rfl rfl rfl) (fun K hK=>?_);go_simp;refine hK _ ?_;clear hK K)
              | (refine Lx.lex_pure (v:=?_) rfl (by first|exact Lx.w0 rfl | exact Lx.w1 rfl rfl rfl (by with_reducible rfl)) ?_ (fun K hK=>?_);rotate_left 1;(intro w' hCw;(try dsimp only at hCw);go_simp;done);go_simp;refine hK _ ?_;clear hK K)
              | (refine Lx.lex_pure (v:=?_) rfl (by first|exact Lx.w0 rfl | exact Lx.w1 rfl rfl rfl (by with_reducible rfl)) ?_ (fun K hK=>?_);rotate_left 1;(intro w' hCw;(try dsimp only at hCw);go_simp;with_reducible rfl);go_simp;refine hK _ ?_;clear hK K)
              | (refine Lx.lex_read (v:=?_) rfl (by first|exact Lx.w0 rfl | exact Lx.w1 rfl rfl rfl (by with_reducible rfl)) ?_ (fun K hK=>?_);rotate_left 1;(go_simp;done);go_simp;refine hK _ ?_;clear hK K)
              | (refine Lx.lex_read (v:=?_) rfl (by first|exact Lx.w0 rfl | exact Lx.w1 rfl rfl rfl (by with_reducible rfl)) ?_ (fun K hK=>?_);rotate_left 1;(go_simp;with_reducible rfl);go_simp;refine hK _ ?_;clear hK K)
              | (refine Lx.lex_eff rfl (by first|exact Lx.w0 rfl | exact Lx.w1 rfl rfl rfl (by with_reducible rfl)) (fun K hK=>?_);go_simp;(first|(go_at_call 103;refine(HBT.out _).mono ?_;rintro e w5 ⟨rfl,rfl⟩) | skip);refine hK _ _ (trivial) ?_;clear hK K)
              | (refine Lx.lex_cases rfl rfl rfl (fun hgd K hK=>?_) (fun hgd K hK=>?_)<;>(try simp only[decide_eq_true_eq,decide_eq_false_iff_not] at hgd)<;>(first|(exfalso;omega) | (go_simp;refine hK _ ?_;clear hK K))))
             all_goals (refine Lx.lex_nil ?_)
             go_wp2_with fail
             refine bodyPost_ret (v:=.agg #[.int .i64 4,.int .i64 k]) (by simp[results,Tryz.results110,go_sem,u0,u1]) rfl ⟨4,k,rfl,.inr ⟨HVR.out,by decide⟩,?_⟩
             exact((HQ1.out.drew.set 1 0 (.int .i64 4) rfl).set 1 1 (.int .i64 k) rfl).below
            ·have HBP:Hid (bp=false):=Lib.hid (by rw[←HPBx.out,hbw2,decide_eq_false h2];rfl)
             have HNX2:=Lib.hid (HNX.out HBP.out)
             clear HNX HF3d HPBx hbw2
             go_wp2_with fail
             refine Lx.region (C:=fun _=>True) (hs:=[]) (by kernel_rfl) (by kernel_rfl) trivial ?_
             repeat' (first
              | (refine Lx.lex_no (Lx.n1 rfl rfl rfl (by with_reducible rfl)) (fun K hK=>?_);go_simp;refine hK _ ?_;clear hK K)
              | (refine Lx.lex_no (Lx.n0 rfl rfl rfl (by with_reducible rfl)) (fun K hK=>?_);go_simp;refine hK _ ?_;clear hK K)
              | (refine Lx.lex_no (Lx.n2 rfl rfl rfl) (fun K hK=>?_);go_simp;refine hK _ ?_;clear hK K)
              | (refine Lx.lex_pure (v:=?_) rfl (by first|exact Lx.w0 rfl | exact Lx.w1 rfl rfl rfl (by with_reducible rfl)) ?_ (fun K hK=>?_);rotate_left 1;(intro w' hCw;(try dsimp only at hCw);go_simp;done);go_simp;refine hK _ ?_;clear hK K)
              | (refine Lx.lex_pure (v:=?_) rfl (by first|exact Lx.w0 rfl | exact Lx.w1 rfl rfl rfl (by with_reducible rfl)) ?_ (fun K hK=>?_);rotate_left 1;(intro w' hCw;(try dsimp only at hCw);go_simp;with_reducible rfl);go_simp;refine hK _ ?_;clear hK K)
              | (refine Lx.lex_read (v:=?_) rfl (by first|exact Lx.w0 rfl | exact Lx.w1 rfl rfl rfl (by with_reducible rfl)) ?_ (fun K hK=>?_);rotate_left 1;(go_simp;done);go_simp;refine hK _ ?_;clear hK K)
              | (refine Lx.lex_read (v:=?_) rfl (by first|exact Lx.w0 rfl | exact Lx.w1 rfl rfl rfl (by with_reducible rfl)) ?_ (fun K hK=>?_);rotate_left 1;(go_simp;with_reducible rfl);go_simp;refine hK _ ?_;clear hK K)
              | (refine Lx.lex_eff rfl (by first|exact Lx.w0 rfl | exact Lx.w1 rfl rfl rfl (by with_reducible rfl)) (fun K hK=>?_);go_simp;(first|(go_at_call 103;refine(HBT.out _).mono ?_;rintro e w5 ⟨rfl,rfl⟩) | skip);refine hK _ _ (trivial) ?_;clear hK K)
              | (refine Lx.lex_cases rfl rfl rfl (fun hgd K hK=>?_) (fun hgd K hK=>?_)<;>(try simp only[decide_eq_true_eq,decide_eq_false_iff_not] at hgd)<;>(first|(exfalso;omega) | (go_simp;refine hK _ ?_;clear hK K))))
             all_goals (refine Lx.lex_nil ?_)
             go_wp2_with fail
             go_roundw
             case rel=>exact⟨k+1,hlt,by go_num,HNX2.out,HQ1.out.drew.sub (List.sublist_append_left _ _)⟩
             case measure=>simp[intOf];omega
          ·obtain rfl:k=n2:=by omega
           have HD4:Hid (r.caps.all (fun x=>!bcF r.loads x l)=true):=Lib.hid (by
            rw[List.all_eq_true]
            intro x hx
            obtain⟨j,hj⟩:=List.getElem?_of_mem hx
            rw[hno j x (by have:=(List.getElem?_eq_some_iff.1 hj).1;omega) hj];rfl)
           have HVR:Hid (okF ds r l true=true):=Lib.hid (by unfold okF;rw[HD1.out,HD2.out,HD3.out,HD4.out];rfl)
           have u0:=hQ.c 1 0 rfl rfl
           have u1:=hQ.c 1 1 rfl rfl
           have uf:=hQ.f 1 rfl
           have ul:=hQ.lt 1 rfl
           clear hQ hno
           go_wp2_with fail
           refine bodyPost_ret (v:=.agg #[.int .i64 0,.int .i64 0]) (by simp[results,Tryz.results110,go_sem,u0,u1]) rfl ⟨0,0,rfl,.inl ⟨HVR.out,rfl⟩,?_⟩
           exact((HQ.out.set 1 0 (.int .i64 0) rfl).set 1 1 (.int .i64 0) rfl).below
def ChkPost (ok:Bool) (w:World) (e:Ending) (w':World):Prop:=∃ k a:Int,e=.returned (.tuple #[.agg #[.int .i64 k,.int .i64 a],.int .i64 0])∧((ok=true∧k=0)∨(ok=false∧k≠0))∧Below w.heap.size w w'
theorem chk_any (s:PrbS) (A:Option Addr) (n c:Nat) (w:World) (ds:List Dom) (r:Rul) (l:List (Int×Int)) (hn:n≤100000) (hN:s.nd≤9223372036854775807) (hd:∀ d∈ds,d.len≤9223372036854775807) (hl:RowS 2 chC w w.heap.size A n l) (h:PrbAt w w.heap.size s ds r)
  (hv:vlGo none l=true) (hp:validP ds r=true):
  Calls Tryz.prog 61 #[s.val,.slice A n c] w (ChkPost (okF ds r l true) w):=by
 obtain⟨p2,hp2⟩:∃ p,p=w.heap.size:=⟨_,rfl⟩
 obtain⟨p4,hp4⟩:∃ p,p=w.heap.size+1:=⟨_,rfl⟩
 have HPV:=Lib.hid (fun W (hb:Below w.heap.size w W)=>(by have:=pvalid_any s W ds r hN hd ⟨h.1.keep hb,h.2.keep hb⟩;rw[hp] at this;exact this:Calls Tryz.prog 41 #[s.val] W (RetPost (.bool true) W.heap.size W)))
 have HVL:=Lib.hid (fun W (hb:Below w.heap.size w W)=>(by have:=pvl_any A n c W l (by omega) (hl.keep hb);rw[hv] at this;exact this:Calls Tryz.prog 56 #[.slice A n c] W (RetPost (.bool true) W.heap.size W)))
 have HVI:=Lib.hid (fun W (hb:Below w.heap.size w W)=>violation_any s A n c W ds r l hn (hl.keep hb) ⟨h.1.keep hb,h.2.keep hb⟩ hv hp)
 generalize okF ds r l true=ok at *
 clear h hl hv hp hd
 obtain⟨Ad,nd,cd,⟨A0,n0,c0,A1,n1,c1,A2,n2,c2⟩⟩:=s
 unfold PrbS.val at *
 dsimp only at *
 obtain⟨V0,hV0⟩:∃ V0,V0=(w.alloc (.cells #[.slice Ad nd cd,.slice A0 n0 c0,.slice A1 n1 c1,.slice A2 n2 c2] 29)).alloc (.cells #[.int .i64 0,.int .i64 0] 119):=⟨_,rfl⟩
 have hP0:Hp w w V0 [.blk p2 29 [.slice Ad nd cd,.slice A0 n0 c0,.slice A1 n1 c1,.slice A2 n2 c2],.blk p4 119 [.int .i64 0,.int .i64 0]] []:=by
  have h:=((Hp.start w).alloc [.slice Ad nd cd,.slice A0 n0 c0,.slice A1 n1 c1,.slice A2 n2 c2] 29).alloc [.int .i64 0,.int .i64 0] 119
  simp only[World.size_alloc] at h
  rw[hV0,hp2,hp4];exact h
 have HP0:=Lib.hid hP0
 have m0:=hP0.c 0 0 rfl rfl
 have m1:=hP0.c 0 1 rfl rfl
 have m2:=hP0.c 0 2 rfl rfl
 have m3:=hP0.c 0 3 rfl rfl
 have ml:=hP0.lt 0 rfl
 clear hP0
 go_enter Tryz.func61,Tryz.ntmps61
 go_upto_region 1 with fail
 rw[←hV0,←hp4,←hp2]
 clear hV0 hp4 hp2
 go_wp2_with fail
 refine(HPV.out _ HP0.out.below).mono ?_
 rintro e W1 ⟨rfl,hb1⟩
 have HP1:=Lib.hid (HP0.out.keep hb1)
 clear hb1 HP0 m0 m1 m2 m3 ml
 go_wp2_with fail
 refine(HVL.out _ HP1.out.below).mono ?_
 rintro e W2 ⟨rfl,hb2⟩
 have hP2:=HP1.out.keep hb2
 have HP2:=Lib.hid hP2
 have m0:=hP2.c 0 0 rfl rfl
 have m1:=hP2.c 0 1 rfl rfl
 have m2:=hP2.c 0 2 rfl rfl
 have m3:=hP2.c 0 3 rfl rfl
 have ml:=hP2.lt 0 rfl
 clear hb2 HP1 hP2
 go_wp2_with fail
 refine(HVI.out _ HP2.out.below).mono ?_
 rintro e W3 ⟨k,a,rfl,hk,hb3⟩
 have hP3:=HP2.out.keep hb3
 have HP3:=Lib.hid hP3
 have HK:=Lib.hid hk
 have q0:=hP3.c 1 0 rfl rfl
 have q1:=hP3.c 1 1 rfl rfl
 have q2:=hP3.f 1 rfl
 have q3:=hP3.lt 1 rfl
 clear hb3 HP2 hP3 hk m0 m1 m2 m3 ml
 go_wp2_with fail
 have hP4:=(HP3.out.set 1 0 (.int .i64 k) rfl).set 1 1 (.int .i64 a) rfl
 refine bodyPost_ret (v:=.tuple #[.agg #[.int .i64 k,.int .i64 a],.int .i64 0]) (by simp[results,Tryz.results61,go_sem,hP4.c 1 0 rfl rfl,hP4.c 1 1 rfl rfl]) rfl ⟨k,a,rfl,HK.out,hP4.below⟩
end Go.Proofs.YtjakdikhdndlgaaGreatDoor
