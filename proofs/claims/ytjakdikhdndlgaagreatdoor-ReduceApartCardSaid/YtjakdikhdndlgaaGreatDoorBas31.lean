/- REDUCE PEELS: for every problem,the law ReducePeels returns true,and the input reads as it did. Conditions: none beyond the card's own. Printed by genlaw19b.py. -/
import Derived.Test.YtjakdikhdndlgaaGreatDoorBas28
import Derived.Test.YtjakdikhdndlgaaGreatDoorBas29
set_option maxRecDepth 100000
set_option maxHeartbeats 60000000
namespace Go.Proofs.YtjakdikhdndlgaaGreatDoor
open Go.RowKit Go.Shelf
section
variable {w u W X : World} {L : List Ent} {ds : List Nat}
theorem Hp.lo (h:Hp w u W L ds) (i:Nat) {g t:Nat} {s:List Value} (hi:L[i]?=some (.blk g t s)):w.heap.size≤g:=h.low _ (List.mem_of_getElem? hi) g rfl
theorem Hp.toRow (h:Hp w u W L ds) (i n size:Nat) {g t:Nat} {xs:List Value} (hi:L[i]?=some (.blk g t xs)) (hn:xs.length=n * size) (hm:n≤maxLen):Hp w u W (L.set i (.row (.slice (some ⟨g,0,none⟩) n n) t size n xs)) ds:=
 h.upd i hi ⟨rfl,rfl,rfl,Nat.le_refl _,fun _ _ _=>rfl⟩ ⟨hn,.inr ⟨g,n,xs.toArray,rfl,h.lo i hi,h.blk i hi,Nat.le_refl _,hm,by simp[hn],by simp[←hn]⟩⟩ (fun _ hg'=>.inl hg')
end
section
variable {α σ : Type} {w W w0 : World} {ds : List Nat} {g : Operand} {ps : Array Tmp} {assign body : Code} {Q : Exit → Act → World → Prop} {a : Act} {n gf : Nat} {lb : Array Value} {encs : α → Array Value} {S Sp : List α → Prop} {N n₀ Bn t0 : Nat} {s0 : List Value}
end
end Go.Proofs.YtjakdikhdndlgaaGreatDoor
namespace Go.Proofs.YtjakdikhdndlgaaGreatDoor
open Go.RowKit
theorem comp_part {r:Rul} {set:List Int} (hn:set.Nodup) {p:List Int} (hp:p∈compF r set):∃ s∈set,p=clsF r set s∧p.head?=some s:=by
 rw[comp_eq hn] at hp
 obtain⟨s,hs,rfl⟩:=List.mem_map.1 hp
 obtain⟨h1,h2⟩:=List.mem_filter.1 hs
 exact⟨s,h1,rfl,of_decide_eq_true h2⟩
theorem comp_sub {r:Rul} {set:List Int} (hn:set.Nodup) {p:List Int} (hp:p∈compF r set):p.Sublist set:=by
 obtain⟨s,hs,rfl,_⟩:=comp_part hn hp
 exact(cls_ok hn).sub s hs
def lk1 (a b:Int) (x:R5):Bool:=(decide (x.a=a)&&decide (x.b=b))||(decide (x.a=b)&&decide (x.b=a))
theorem lk1_ff {l:List R5} {a b:Int} {k:Nat} {x:R5} (hx:l[k]?=some x) (h:(l.take k).any (lk1 a b)=false) (hn:lk1 a b x=false):(l.take (k+1)).any (lk1 a b)=false:=by
 rw[List.take_add_one,hx,Option.toList_some,List.any_append,h];simp[hn]
theorem linked_any (s:PrbS) (a b:Int) (w:World) (ds:List Dom) (r:Rul) (hpl:r.pairs.length≤100000) (hll:r.loads.length≤100000) (h:PrbAt w w.heap.size s ds r):
  Calls Tryz.prog 19 #[s.val,.int .i64 a,.int .i64 b] w (RetPost (.bool (linkF r a b)) w.heap.size w):=by
 obtain⟨R,hR⟩:∃ R,R=linkF r a b:=⟨_,rfl⟩
 have HRV:Hid (R=(r.pairs.any (lk1 a b)||r.loads.any (lk1 a b))):=Lib.hid hR
 rw[←hR]
 clear hR
 obtain⟨Ad,nd,cd,⟨A0,n0,c0,A1,n1,c1,A2,n2,c2⟩⟩:=s
 have HL0:=Eqn.mk h.2.1.1
 have HL1:=Eqn.mk h.2.2.1.1
 have HC0:=Lib.hid h.2.1
 have HC1:=Lib.hid h.2.2.1
 dsimp only at HC0 HC1 HL0 HL1
 have hn0:n0≤100000:=by have:=HL0.out;omega
 have hn1:n1≤100000:=by have:=HL1.out;omega
 unfold PrbS.val
 dsimp only
 clear h hpl hll
 obtain⟨W0,hW0⟩:∃ W0,W0=w.alloc (.cells #[.slice Ad nd cd,.slice A0 n0 c0,.slice A1 n1 c1,.slice A2 n2 c2] 29):=⟨_,rfl⟩
 have HB0:Hid (Below w.heap.size w W0):=Lib.hid (by rw[hW0];exact(Below.refl _ w).alloc (Nat.le_refl _) _)
 have HX:Hid (Blk W0 w.heap.size 29 [.slice Ad nd cd,.slice A0 n0 c0,.slice A1 n1 c1,.slice A2 n2 c2]):=Lib.hid (by rw[hW0];exact blk_new w _ _)
 go_enter Tryz.func19,Tryz.ntmps19
 go_upto_region 2 with fail
 rw[←hW0]
 clear hW0
 go_loopw [7] (fun iv wr=>∃ k:Nat,k≤n0∧iv=.int .i64 k∧(r.pairs.take k).any (lk1 a b)=false∧Below W0.heap.size W0 wr) (fun iv _=>n0 - (intOf iv).toNat)
 case atStart=>exact⟨0,Nat.zero_le _,rfl,by rw[List.take_zero];rfl,Below.refl _ _⟩
 case round=>
  obtain⟨k,hk,rfl,hno,hbw⟩:=hrel
  have HNO:=Lib.hid hno
  have HBW:=Lib.hid hbw
  have q3:=(HX.out.keep hbw).cell (i:=1) rfl
  have q4:=(HX.out.keep hbw).lt
  by_cases hkl:k<n0
  ·have j0:(k:Int)<(n0:Int):=by omega
   obtain⟨x,hx⟩:∃ x,r.pairs[k]?=some x:=⟨_,List.getElem?_eq_getElem (by have:=HL0.out;omega)⟩
   obtain⟨b3,o3,rfl,hb3,hcell⟩:=((HC0.out.keep HB0.out).keep hbw).2 (by omega)
   have y0:wr.cell? ⟨b3,o3+k * 5,none⟩=some (.int .i64 x.a):=hcell k x hx 0 (by decide)
   have y1:wr.cell? ⟨b3,o3+k * 5+1,none⟩=some (.int .i64 x.b):=hcell k x hx 1 (by decide)
   have y2:wr.cell? ⟨b3,o3+k * 5+2,none⟩=some (.int .i64 x.c):=hcell k x hx 2 (by decide)
   have y3:wr.cell? ⟨b3,o3+k * 5+3,none⟩=some (.int .i64 x.d):=hcell k x hx 3 (by decide)
   have y4:wr.cell? ⟨b3,o3+k * 5+4,none⟩=some (.int .i64 x.e):=hcell k x hx 4 (by decide)
   have HTK:=Lib.hid (fun hn=>lk1_ff hx hno hn)
   have HHI:Hid (lk1 a b x=true→R=true):=Lib.hid (fun hh=>by
    have:r.pairs.any (lk1 a b)=true:=List.any_eq_true.2 ⟨x,List.mem_of_getElem? hx,hh⟩
    rw[HRV.out,this];simp)
   obtain⟨xa,xb,xc,xd,xe⟩:=x
   unfold lk1 at HTK HHI
   dsimp only at y0 y1 y2 y3 y4 HTK HHI
   obtain⟨V1,hV1⟩:∃ V,V=wr.alloc (.cells #[.int .i64 xa,.int .i64 xb,.int .i64 xc,.int .i64 xd,.int .i64 xe] 67):=⟨_,rfl⟩
   obtain⟨p8,hp8⟩:∃ p,p=wr.heap.size:=⟨_,rfl⟩
   have HBV:Hid (Below W0.heap.size W0 V1):=Lib.hid (by rw[hV1];exact hbw.alloc hbw.size _)
   have hXN:Blk V1 p8 67 [.int .i64 xa,.int .i64 xb,.int .i64 xc,.int .i64 xd,.int .i64 xe]:=by rw[hV1,hp8];exact blk_new wr _ _
   have z0:=hXN.cell (i:=0) rfl
   have z1:=hXN.cell (i:=1) rfl
   have z4:=hXN.lt
   clear hXN hcell hx hno hbw
   go_upto_region 5 with fail
   rw[←hV1,←hp8]
   clear hV1 hp8 y0 y1 y2 y3 y4 q3 q4
   by_cases e1:xa=a
   ·have de1:(xa == a)=true:=by simpa using e1
    by_cases e2:xb=b
    ·have de2:(xb == b)=true:=by simpa using e2
     obtain rfl:R=true:=HHI.out (by simp only[Bool.or_eq_true,Bool.and_eq_true,decide_eq_true_eq];omega)
     clear HTK HHI e1 e2
     go_wp2_with fail
     go_ret
     exact⟨rfl,HB0.out.trans (HBV.out.mono HB0.out.size)⟩
    ·have de2:(xb == b)=false:=by simpa using e2
     by_cases e3:xa=b
     ·have de3:(xa == b)=true:=by simpa using e3
      by_cases e4:xb=a
      ·have de4:(xb == a)=true:=by simpa using e4
       exfalso;omega
      ·have de4:(xb == a)=false:=by simpa using e4
       have hKF:=Lib.hid (HTK.out (by rw[Bool.eq_false_iff];simp only[ne_eq,Bool.or_eq_true,Bool.and_eq_true,decide_eq_true_eq];omega))
       clear HTK HHI e1 e2 e3 e4
       go_wp2_with fail
       go_roundw
       case rel=>exact⟨k+1,hkl,by go_num,hKF.out,HBV.out⟩
       case measure=>simp[intOf];omega
     ·have de3:(xa == b)=false:=by simpa using e3
      have hKF:=Lib.hid (HTK.out (by rw[Bool.eq_false_iff];simp only[ne_eq,Bool.or_eq_true,Bool.and_eq_true,decide_eq_true_eq];omega))
      clear HTK HHI e1 e2 e3
      go_wp2_with fail
      go_roundw
      case rel=>exact⟨k+1,hkl,by go_num,hKF.out,HBV.out⟩
      case measure=>simp[intOf];omega
   ·have de1:(xa == a)=false:=by simpa using e1
    by_cases e3:xa=b
    ·have de3:(xa == b)=true:=by simpa using e3
     by_cases e4:xb=a
     ·have de4:(xb == a)=true:=by simpa using e4
      obtain rfl:R=true:=HHI.out (by simp only[Bool.or_eq_true,Bool.and_eq_true,decide_eq_true_eq];omega)
      clear HTK HHI e1 e3 e4
      go_wp2_with fail
      go_ret
      exact⟨rfl,HB0.out.trans (HBV.out.mono HB0.out.size)⟩
     ·have de4:(xb == a)=false:=by simpa using e4
      have hKF:=Lib.hid (HTK.out (by rw[Bool.eq_false_iff];simp only[ne_eq,Bool.or_eq_true,Bool.and_eq_true,decide_eq_true_eq];omega))
      clear HTK HHI e1 e3 e4
      go_wp2_with fail
      go_roundw
      case rel=>exact⟨k+1,hkl,by go_num,hKF.out,HBV.out⟩
      case measure=>simp[intOf];omega
    ·have de3:(xa == b)=false:=by simpa using e3
     have hKF:=Lib.hid (HTK.out (by rw[Bool.eq_false_iff];simp only[ne_eq,Bool.or_eq_true,Bool.and_eq_true,decide_eq_true_eq];omega))
     clear HTK HHI e1 e3
     go_wp2_with fail
     go_roundw
     case rel=>exact⟨k+1,hkl,by go_num,hKF.out,HBV.out⟩
     case measure=>simp[intOf];omega
  ·obtain rfl:k=n0:=by omega
   have j0:¬((k:Nat):Int)<(k:Int):=by omega
   rw[List.take_of_length_le (by rw[HL0.out];exact Nat.le_refl _)] at hno
   have HNP:=Lib.hid hno
   have HBE:=Lib.hid hbw
   obtain⟨wo,rfl⟩:∃ wo:World,wo=wr:=⟨_,rfl⟩
   clear hno hbw HNO HBW
   go_wp2_with fail
   clear q3 q4
   go_loopw [9] (fun iv wr=>∃ k:Nat,k≤n1∧iv=.int .i64 k∧(r.loads.take k).any (lk1 a b)=false∧Below W0.heap.size W0 wr) (fun iv _=>n1 - (intOf iv).toNat)
   case atStart=>exact⟨0,Nat.zero_le _,rfl,by rw[List.take_zero];rfl,HBE.out⟩
   case round=>
    obtain⟨k,hk,rfl,hno,hbw⟩:=hrel
    have HNO:=Lib.hid hno
    have HBW:=Lib.hid hbw
    have q3:=(HX.out.keep hbw).cell (i:=2) rfl
    have q4:=(HX.out.keep hbw).lt
    by_cases hkl:k<n1
    ·have j0:(k:Int)<(n1:Int):=by omega
     obtain⟨x,hx⟩:∃ x,r.loads[k]?=some x:=⟨_,List.getElem?_eq_getElem (by have:=HL1.out;omega)⟩
     obtain⟨b3,o3,rfl,hb3,hcell⟩:=((HC1.out.keep HB0.out).keep hbw).2 (by omega)
     have y0:wr.cell? ⟨b3,o3+k * 5,none⟩=some (.int .i64 x.a):=hcell k x hx 0 (by decide)
     have y1:wr.cell? ⟨b3,o3+k * 5+1,none⟩=some (.int .i64 x.b):=hcell k x hx 1 (by decide)
     have y2:wr.cell? ⟨b3,o3+k * 5+2,none⟩=some (.int .i64 x.c):=hcell k x hx 2 (by decide)
     have y3:wr.cell? ⟨b3,o3+k * 5+3,none⟩=some (.int .i64 x.d):=hcell k x hx 3 (by decide)
     have y4:wr.cell? ⟨b3,o3+k * 5+4,none⟩=some (.int .i64 x.e):=hcell k x hx 4 (by decide)
     have HTK:=Lib.hid (fun hn=>lk1_ff hx hno hn)
     have HHI:Hid (lk1 a b x=true→R=true):=Lib.hid (fun hh=>by
      have:r.loads.any (lk1 a b)=true:=List.any_eq_true.2 ⟨x,List.mem_of_getElem? hx,hh⟩
      rw[HRV.out,this];simp)
     obtain⟨xa,xb,xc,xd,xe⟩:=x
     unfold lk1 at HTK HHI
     dsimp only at y0 y1 y2 y3 y4 HTK HHI
     obtain⟨V1,hV1⟩:∃ V,V=wr.alloc (.cells #[.int .i64 xa,.int .i64 xb,.int .i64 xc,.int .i64 xd,.int .i64 xe] 69):=⟨_,rfl⟩
     obtain⟨p8,hp8⟩:∃ p,p=wr.heap.size:=⟨_,rfl⟩
     have HBV:Hid (Below W0.heap.size W0 V1):=Lib.hid (by rw[hV1];exact hbw.alloc hbw.size _)
     have hXN:Blk V1 p8 69 [.int .i64 xa,.int .i64 xb,.int .i64 xc,.int .i64 xd,.int .i64 xe]:=by rw[hV1,hp8];exact blk_new wr _ _
     have z0:=hXN.cell (i:=0) rfl
     have z1:=hXN.cell (i:=1) rfl
     have z4:=hXN.lt
     clear hXN hcell hx hno hbw
     go_upto_region 11 with fail
     rw[←hV1,←hp8]
     clear hV1 hp8 y0 y1 y2 y3 y4 q3 q4
     by_cases e1:xa=a
     ·have de1:(xa == a)=true:=by simpa using e1
      by_cases e2:xb=b
      ·have de2:(xb == b)=true:=by simpa using e2
       obtain rfl:R=true:=HHI.out (by simp only[Bool.or_eq_true,Bool.and_eq_true,decide_eq_true_eq];omega)
       clear HTK HHI e1 e2
       go_wp2_with fail
       go_ret
       exact⟨rfl,HB0.out.trans (HBV.out.mono HB0.out.size)⟩
      ·have de2:(xb == b)=false:=by simpa using e2
       by_cases e3:xa=b
       ·have de3:(xa == b)=true:=by simpa using e3
        by_cases e4:xb=a
        ·have de4:(xb == a)=true:=by simpa using e4
         exfalso;omega
        ·have de4:(xb == a)=false:=by simpa using e4
         have hKF:=Lib.hid (HTK.out (by rw[Bool.eq_false_iff];simp only[ne_eq,Bool.or_eq_true,Bool.and_eq_true,decide_eq_true_eq];omega))
         clear HTK HHI e1 e2 e3 e4
         go_wp2_with fail
         go_roundw
         case rel=>exact⟨k+1,hkl,by go_num,hKF.out,HBV.out⟩
         case measure=>simp[intOf];omega
       ·have de3:(xa == b)=false:=by simpa using e3
        have hKF:=Lib.hid (HTK.out (by rw[Bool.eq_false_iff];simp only[ne_eq,Bool.or_eq_true,Bool.and_eq_true,decide_eq_true_eq];omega))
        clear HTK HHI e1 e2 e3
        go_wp2_with fail
        go_roundw
        case rel=>exact⟨k+1,hkl,by go_num,hKF.out,HBV.out⟩
        case measure=>simp[intOf];omega
     ·have de1:(xa == a)=false:=by simpa using e1
      by_cases e3:xa=b
      ·have de3:(xa == b)=true:=by simpa using e3
       by_cases e4:xb=a
       ·have de4:(xb == a)=true:=by simpa using e4
        obtain rfl:R=true:=HHI.out (by simp only[Bool.or_eq_true,Bool.and_eq_true,decide_eq_true_eq];omega)
        clear HTK HHI e1 e3 e4
        go_wp2_with fail
        go_ret
        exact⟨rfl,HB0.out.trans (HBV.out.mono HB0.out.size)⟩
       ·have de4:(xb == a)=false:=by simpa using e4
        have hKF:=Lib.hid (HTK.out (by rw[Bool.eq_false_iff];simp only[ne_eq,Bool.or_eq_true,Bool.and_eq_true,decide_eq_true_eq];omega))
        clear HTK HHI e1 e3 e4
        go_wp2_with fail
        go_roundw
        case rel=>exact⟨k+1,hkl,by go_num,hKF.out,HBV.out⟩
        case measure=>simp[intOf];omega
      ·have de3:(xa == b)=false:=by simpa using e3
       have hKF:=Lib.hid (HTK.out (by rw[Bool.eq_false_iff];simp only[ne_eq,Bool.or_eq_true,Bool.and_eq_true,decide_eq_true_eq];omega))
       clear HTK HHI e1 e3
       go_wp2_with fail
       go_roundw
       case rel=>exact⟨k+1,hkl,by go_num,hKF.out,HBV.out⟩
       case measure=>simp[intOf];omega
    ·obtain rfl:k=n1:=by omega
     have j0:¬((k:Nat):Int)<(k:Int):=by omega
     rw[List.take_of_length_le (by rw[HL1.out];exact Nat.le_refl _)] at hno
     obtain rfl:R=false:=by rw[HRV.out,HNP.out,hno];rfl
     clear hno hbw
     go_wp2_with fail
     go_ret
     exact⟨rfl,HB0.out.trans (HBW.out.mono HB0.out.size)⟩
end Go.Proofs.YtjakdikhdndlgaaGreatDoor
namespace Go.Proofs.YtjakdikhdndlgaaGreatDoor
open Go.RowKit Go.Shelf
theorem iC_one (a:Int) (j:Nat) (_:j<1):(iC a j).oneCell'=true:=rfl
theorem flat_ints (xs:List Int):flat 1 iC xs=xs.map intV:=by
 induction xs with
 | nil=>rfl
 | cons x r ih=>have:flat 1 iC (x::r)=(List.range 1).map (iC x)++flat 1 iC r:=rfl;rw[this,ih];rfl
theorem rowS_1 {w:World} {B:Nat} {A:Option Addr} {n:Nat} {xs:List Int} (h:Row1 intV w B A n xs):RowS 1 iC w B A n xs:=
 ⟨h.1,fun hn=>by
  obtain⟨b,off,e,hb,hc⟩:=h.2 hn
  refine⟨b,off,e,hb,fun k x hx j hj=>?_⟩
  obtain rfl:j=0:=by omega
  rw[Nat.mul_one,Nat.add_zero];exact hc k x hx⟩
theorem add_nd {r:Rul} {v t:Int} {a:List Int} (h:a.Nodup):(addF r v a t).Nodup:=by
 unfold addF
 split
 ·rename_i hc
  rw[List.nodup_append]
  refine⟨h,by simp,fun x hx y hy=>?_⟩
  rw[List.mem_singleton] at hy
  subst hy
  rintro rfl
  have:=hc.2
  rw[hasL_mem,decide_eq_false_iff_not] at this
  exact this hx
 ·exact h
theorem add_at {r:Rul} {v t:Int} {a:List Int} {k:Nat} {x:Int} (h:a[k]?=some x):(addF r v a t)[k]?=some x:=by
 unfold addF
 split
 ·rw[List.getElem?_append_left (List.getElem?_eq_some_iff.1 h).1];exact h
 ·exact h
theorem add_sub {r:Rul} {v t:Int} {a set:List Int} (h:∀ x∈a,x∈set) (ht:t∈set):∀ x∈addF r v a t,x∈set:=by
 intro x hx
 unfold addF at hx
 split at hx
 ·rcases List.mem_append.1 hx with hx | hx
  ·exact h x hx
  ·rw[List.mem_singleton] at hx;subst hx;exact ht
 ·exact h x hx
theorem fold_snoc {r:Rul} {v t:Int} {set all:List Int} {j:Nat} (h:set[j]?=some t):(set.take (j+1)).foldl (addF r v) all=addF r v ((set.take j).foldl (addF r v) all) t:=by
 rw[List.take_add_one,h,Option.toList_some,List.foldl_append];rfl
def CompsRet (P:List (List Int)) (w:World) (e:Ending) (w':World):Prop:=∃(A:Option Addr) (c:Nat) (cs:List ((Option Addr×Nat×Nat)×List Int)),e=.returned (.slice A cs.length c)∧cs.map Prod.snd=P∧Hp w w w' (.row (.slice A cs.length c) 32 1 cs.length (cs.map fun x=>sv x.1)::exI cs) []
theorem refcomps_any (ps:PrbS) (A:Option Addr) (n c:Nat) (set:List Int) (w:World) (ds:List Dom) (r:Rul) (hpl:r.pairs.length≤100000) (hll:r.loads.length≤100000) (hm:n≤1000) (h:PrbAt w w.heap.size ps ds r) (hA:Row1 intV w w.heap.size A n set):
  Calls Tryz.prog 24 #[ps.val,.slice A n c] w (CompsRet (compF r set) w):=by
 have HLK:=Lib.hid (fun (a b:Int) (W:World) (hb:Below w.heap.size w W)=>linked_any ps a b W ds r hpl hll ⟨h.1.keep hb,h.2.keep hb⟩)
 have HHA:=Lib.hid (fun (A:Option Addr) (n c:Nat) (x:Int) (W:World) (l:List Int) (hn:n≤9223372036854775807) (hl:Row1 intV W W.heap.size A n l)=>rhas_any A n c x W l hn hl)
 have HAL:=Eqn.mk hA.1
 have HA:=Lib.hid hA
 obtain⟨i0,hi,hz0,hz1,hz2⟩:=info_parts int_info
 obtain⟨s0,si,sz0,sz1,sz2⟩:=info_parts ints_info
 have HCF:=Eqn.mk (show compF r set=cmGo (clsF r set) (set.drop 0) [] [] from rfl)
 obtain⟨R,hR⟩:∃ R,R=compF r set:=⟨_,rfl⟩
 rw[←hR] at HCF ⊢
 obtain⟨Ad,nd,cd,⟨A0,n0,c0,A1,n1,c1,A2,n2,c2⟩⟩:=ps
 unfold PrbS.val at *
 dsimp only at HLK ⊢
 clear h hpl hll hA hR
 obtain⟨W0,hW0⟩:∃ W0,W0=w.alloc (.cells #[.slice Ad nd cd,.slice A0 n0 c0,.slice A1 n1 c1,.slice A2 n2 c2] 29):=⟨_,rfl⟩
 have hP0:=(Hp.start w).alloc [.slice Ad nd cd,.slice A0 n0 c0,.slice A1 n1 c1,.slice A2 n2 c2] 29
 rw[show ([.slice Ad nd cd,.slice A0 n0 c0,.slice A1 n1 c1,.slice A2 n2 c2]:List Value).toArray=#[.slice Ad nd cd,.slice A0 n0 c0,.slice A1 n1 c1,.slice A2 n2 c2] from rfl,←hW0] at hP0
 have hP0:=(hP0.nil 32 1).nil 3 1
 have HP0:=Lib.hid hP0
 clear hP0
 go_enter Tryz.func24,Tryz.ntmps24
 go_upto_region 3 with fail
 rw[←hW0]
 clear hW0
 go_wp2_with fail
 go_loopw [5,6,7] (fun ov ev iv wr=>∃(k:Nat) (cs:List ((Option Addr×Nat×Nat)×List Int)) (seen:List Int),k≤n∧iv=.int .i64 k∧Eqn R (cmGo (clsF r set) (set.drop k) (cs.map Prod.snd) seen)∧(cs.length≤k∧seen.length≤k * 1000)∧Hp w w wr ([.blk w.heap.size 29 [.slice Ad nd cd,.slice A0 n0 c0,.slice A1 n1 c1,.slice A2 n2 c2],.row ov 32 1 cs.length (cs.map fun x=>sv x.1),.row ev 3 1 seen.length (seen.map intV)]++exI cs) []) (fun _ _ iv _=>n - (intOf iv).toNat)
 case atStart=>exact⟨0,[],[],Nat.zero_le _,rfl,HCF,⟨Nat.le_refl _,Nat.zero_le _⟩,HP0.out⟩
 case round=>
  clear HP0 HCF
  obtain⟨k,cs,seen,hk,rfl,HR,hbd,hP⟩:=hrel
  obtain⟨Ao,co,rfl⟩:=hP.form 1 rfl
  obtain⟨As,cse,rfl⟩:=hP.form 2 rfl
  by_cases hkl:k<n
  ·have j0:(k:Int)<(n:Int):=by omega
   obtain⟨s,hs⟩:∃ s,set[k]?=some s:=⟨_,List.getElem?_eq_getElem (by have:=HAL.out;omega)⟩
   have hdr:set.drop k=s::set.drop (k+1):=by
    obtain⟨h1,h2⟩:=List.getElem?_eq_some_iff.1 hs
    rw[List.drop_eq_getElem_cons h1,h2]
   have hRR:=HR.out
   rw[hdr,cmGo] at hRR
   have HRR:=Eqn.mk hRR
   have HSM:=Lib.hid (List.mem_of_getElem? hs)
   obtain⟨bA,oA,rfl,hbA,hcA⟩:=(HA.out.keep hP.below).2 (by omega)
   have e0:wr.cell? ⟨bA,oA+k,none⟩=some (.int .i64 s):=hcA k s hs
   have hrs:Row1 intV wr wr.heap.size As seen.length seen:=by
    obtain⟨A',c',e',hr⟩:=row1_of_own (hP.row 2 rfl)
    injection e' with e1 e2 e3
    subst e1 e3
    exact hr
   have hHS:=HHA.out As seen.length cse s wr seen (by omega) hrs
   have HP:=Lib.hid hP
   clear hP hs hdr hRR HR hcA hrs
   by_cases hse:s∈seen
   ·rw[hasL_mem,decide_eq_true hse] at hHS
    have HHS:=Lib.hid hHS
    have HR2:=Eqn.mk (HRR.out.trans (if_pos hse))
    clear hHS hse HRR
    go_wp2_with fail
    refine HHS.out.mono ?_
    rintro e w1 ⟨rfl,rfl⟩
    go_wp2_with fail
    go_roundw
    case rel=>exact⟨k+1,cs,seen,hkl,by go_num,HR2,⟨by omega,by omega⟩,HP.out⟩
    case measure=>simp[intOf];omega
   ·rw[hasL_mem,decide_eq_false hse] at hHS
    have HHS:=Lib.hid hHS
    have HR2:=Eqn.mk (HRR.out.trans (if_neg hse))
    clear hHS hse HRR
    have hPA:=((HP.out.alloc [.int .i64 s] 3).perm (perm_in _ _ _)).toRow 3 1 1 rfl rfl (by unfold maxLen;omega)
    obtain⟨V1,hV1⟩:∃ V,V=wr.alloc (.cells #[.int .i64 s] 3):=⟨_,rfl⟩
    rw[show ([.int .i64 s]:List Value).toArray=#[.int .i64 s] from rfl,←hV1] at hPA
    obtain⟨p8,hp8⟩:∃ p,p=wr.heap.size:=⟨_,rfl⟩
    rw[←hp8] at hPA
    have HPA:Hid (Hp w w V1 ([.blk w.heap.size 29 [.slice Ad nd cd,.slice A0 n0 c0,.slice A1 n1 c1,.slice A2 n2 c2],.row (.slice Ao cs.length co) 32 1 cs.length (cs.map fun x=>sv x.1),.row (.slice As seen.length cse) 3 1 seen.length (seen.map intV),.row (.slice (some ⟨p8,0,none⟩) 1 1) 3 1 [s].length ([s].map intV)]++exI cs) []):=Lib.hid hPA
    clear hPA
    go_wp2_with fail
    refine HHS.out.mono ?_
    rintro e w1 ⟨rfl,rfl⟩
    go_upto_region 8 with fail
    rw[←hV1,←hp8]
    clear hV1 hp8 e0 HHS HP
    obtain⟨wa,rfl⟩:∃ wo:World,wo=wr:=⟨_,rfl⟩
    go_wp2_with fail
    go_loopw [8,9] (fun av iv wr=>∃(all:List Int) (q f:Nat),iv=.int .i64 q∧q≤all.length∧Eqn (clF r set s) (clG r set f q all)∧f+q=n+1∧all.Nodup∧(∀ x∈all,x∈set)∧Hp w w wr ([.blk w.heap.size 29 [.slice Ad nd cd,.slice A0 n0 c0,.slice A1 n1 c1,.slice A2 n2 c2],.row (.slice Ao cs.length co) 32 1 cs.length (cs.map fun x=>sv x.1),.row (.slice As seen.length cse) 3 1 seen.length (seen.map intV),.row av 3 1 all.length (all.map intV)]++exI cs) []) (fun _ iv _=>n+1 - (intOf iv).toNat)
    case atStart=>exact⟨[s],0,n+1,rfl,Nat.zero_le _,by rw[←HAL.out];rfl,rfl,by simp,fun x hx=>by rw[List.mem_singleton] at hx;subst hx;exact HSM.out,HPA.out⟩
    case round=>
     clear HPA
     obtain⟨all,q,f,rfl,hq,HC,hf,hnd,hsub,hP⟩:=hrel
     obtain⟨Aa,ca,rfl⟩:=hP.form 3 rfl
     have hal:all.length≤n:=by have:=nodup_len hnd hsub;have:=HAL.out;omega
     by_cases hql:q<all.length
     ·have j1:(q:Int)<(all.length:Int):=by omega
      obtain⟨v,hv⟩:∃ v,all[q]?=some v:=⟨_,List.getElem?_eq_getElem hql⟩
      obtain⟨f,rfl⟩:∃ g,f=g+1:=⟨f - 1,by omega⟩
      have hCC:=HC.out
      rw[clG,hv] at hCC
      have HCC:=Eqn.mk (show clF r set s=clG r set f (q+1) (set.foldl (addF r v) all) from hCC)
      have HP:=Lib.hid hP
      have HND:=Lib.hid (And.intro hnd (And.intro hsub hv))
      clear hP hnd hsub hv hCC HC
      go_wp2_with fail
      obtain⟨wb,rfl⟩:∃ wo:World,wo=wr:=⟨_,rfl⟩
      go_loopw [8,10] (fun av jv wr=>∃(a2:List Int) (j:Nat),jv=.int .i64 j∧j≤n∧Eqn a2 ((set.take j).foldl (addF r v) all)∧(a2.Nodup∧(∀ x∈a2,x∈set)∧a2[q]?=some v)∧Hp w w wr ([.blk w.heap.size 29 [.slice Ad nd cd,.slice A0 n0 c0,.slice A1 n1 c1,.slice A2 n2 c2],.row (.slice Ao cs.length co) 32 1 cs.length (cs.map fun x=>sv x.1),.row (.slice As seen.length cse) 3 1 seen.length (seen.map intV),.row av 3 1 a2.length (a2.map intV)]++exI cs) []) (fun _ jv _=>n - (intOf jv).toNat)
      case atStart=>exact⟨all,0,rfl,Nat.zero_le _,rfl,HND.out,HP.out⟩
      case round=>
       obtain⟨a2,j,rfl,hj,HF,hnd,hP⟩:=hrel
       obtain⟨Ab,cb,rfl⟩:=hP.form 3 rfl
       have ha2:a2.length≤n:=by have:=nodup_len hnd.1 hnd.2.1;have:=HAL.out;omega
       by_cases hjl:j<n
       ·have j2:(j:Int)<(n:Int):=by omega
        have j3:(q:Int)<(a2.length:Int):=by have:=(List.getElem?_eq_some_iff.1 hnd.2.2).1;omega
        obtain⟨t,ht⟩:∃ t,set[j]?=some t:=⟨_,List.getElem?_eq_getElem (by have:=HAL.out;omega)⟩
        have hFS:(set.take (j+1)).foldl (addF r v) all=addF r v a2 t:=by rw[fold_snoc ht,HF.out]
        have hND2:(addF r v a2 t).Nodup∧(∀ x∈addF r v a2 t,x∈set)∧(addF r v a2 t)[q]?=some v:=⟨add_nd hnd.1,add_sub hnd.2.1 (List.mem_of_getElem? ht),add_at hnd.2.2⟩
        have HFS:=Eqn.mk hFS
        have HND2:=Lib.hid hND2
        have hPd:=hP.drew
        obtain⟨b7,o7,e7,hb7,hc7⟩:=(HA.out.keep hPd.below).2 (by omega)
        injection e7 with e7
        injection e7 with e7a e7b
        subst e7a e7b
        have y1:wr.drew.cell? ⟨bA,oA+j,none⟩=some (.int .i64 t):=hc7 j t ht
        obtain⟨gb,cb',eb,y2,_,lb⟩:=hPd.at 3 q rfl (show (a2.map intV)[q]?=some (.int .i64 v) by rw[List.getElem?_map,hnd.2.2];rfl)
        injection eb with eb _ ebc
        subst eb ebc
        have q0:=hPd.c 0 0 rfl rfl
        have q1:=hPd.c 0 1 rfl rfl
        have q2:=hPd.c 0 2 rfl rfl
        have q3:=hPd.c 0 3 rfl rfl
        have q4:=hPd.lt 0 rfl
        have hLK:=HLK.out v t wr.drew hPd.below
        have HPD:=Lib.hid hPd
        have hAF:addF r v a2 t=if linkF r v t=true∧hasL a2 t=false then a2++[t] else a2:=rfl
        clear hP hnd ht hFS hND2 hPd hc7 HF
        cases hlk:linkF r v t with
        | false=>
         rw[hlk] at hLK
         have HLK1:=Lib.hid hLK
         rw[hlk,if_neg (by simp)] at hAF
         have HAF:=Eqn.mk hAF
         clear hlk hAF hLK
         go_wp2_with fail
         refine Lx.region (C:=fun _=>True) (hs:=[]) (by kernel_rfl) (by kernel_rfl) trivial ?_
         repeat' (first|((first|refine Lx.ln (fun K hK=>?_) | (first|(refine Lx.lp (v:=?_) ?_ (fun K hK=>?_);rotate_left 1;intro w' hCw;try dsimp only at hCw) | (refine Lx.lr (v:=?_) ?_ (fun K hK=>?_);rotate_left 1));go_simp;first|done | with_reducible rfl);go_simp;refine hK _ ?_;clear hK K) | (refine Lx.le (fun K hK=>?_);go_simp;(first|(go_at_call 19;refine HLK1.out.mono ?_;rintro e w4 ⟨rfl,hb4⟩;have HP4:=Lib.hid (HPD.out.keep hb4);clear hb4) | skip);refine hK _ _ (trivial) ?_;clear hK K) | (refine Lx.lex_cases rfl rfl rfl (fun hgd K hK=>?_) (fun hgd K hK=>?_)<;>(try simp only[decide_eq_true_eq,decide_eq_false_iff_not] at hgd)<;>(first|(exfalso;omega) | (go_simp;refine hK _ ?_;clear hK K))))
         all_goals (refine Lx.lex_nil ?_)
         clear y1 y2 q0 q1 q2 q3 q4
         go_wp2_with fail
         go_roundw
         case rel=>exact⟨a2,j+1,by go_num,hjl,by rw[Eqn,HFS.out,HAF.out],by have:=HND2.out;rw[HAF.out] at this;exact this,HP4.out⟩
         case measure=>simp[intOf];omega
        | true=>
         rw[hlk] at hLK
         have HLK1:=Lib.hid hLK
         have HRB:=Lib.hid (fun (W:World) (hb:Below wr.drew.heap.size wr.drew W)=>(by
          obtain⟨A',c',e',hr⟩:=row1_of_own ((HPD.out.keep hb).row 3 rfl)
          injection e' with e1 e2 e3
          subst e1 e3
          obtain⟨b7,o7,e7,hb7,hc7⟩:=(HA.out.keep (HPD.out.keep hb).below).2 (by omega)
          injection e7 with e7
          injection e7 with e7a e7b
          subst e7a e7b
          exact⟨HHA.out _ a2.length cb t W a2 (by omega) hr,(hb.cell (p:=⟨bA,oA+j,none⟩) (by have:=(lt_of_cell y1).1;exact this)).trans y1⟩:Calls Tryz.prog 15 #[.slice (some ⟨gb,0,none⟩) a2.length cb,.int .i64 t] W (fun e w'=>e=.returned (.bool (hasL a2 t))∧W=w')∧W.cell? ⟨bA,oA+j,none⟩=some (.int .i64 t)))
         cases hha:hasL a2 t with
         | true=>
          rw[hha] at HRB
          rw[hlk,hha,if_neg (by simp)] at hAF
          have HAF:=Eqn.mk hAF
          clear hlk hha hAF hLK
          go_wp2_with fail
          refine Lx.region (C:=fun _=>True) (hs:=[]) (by kernel_rfl) (by kernel_rfl) trivial ?_
          repeat' (first|((first|refine Lx.ln (fun K hK=>?_) | (first|(refine Lx.lp (v:=?_) ?_ (fun K hK=>?_);rotate_left 1;intro w' hCw;try dsimp only at hCw) | (refine Lx.lr (v:=?_) ?_ (fun K hK=>?_);rotate_left 1));go_simp;first|done | with_reducible rfl);go_simp;refine hK _ ?_;clear hK K) | (refine Lx.le (fun K hK=>?_);go_simp;(first|(go_at_call 19;refine HLK1.out.mono ?_;rintro e w4 ⟨rfl,hb4⟩;have HP4:=Lib.hid (HPD.out.keep hb4);obtain⟨hh4,y4⟩:=HRB.out w4 hb4;have HH4:=Lib.hid hh4;clear hb4 hh4) | (go_at_call 15;refine HH4.out.mono ?_;rintro e w5 ⟨rfl,rfl⟩) | skip);refine hK _ _ (trivial) ?_;clear hK K) | (refine Lx.lex_cases rfl rfl rfl (fun hgd K hK=>?_) (fun hgd K hK=>?_)<;>(try simp only[decide_eq_true_eq,decide_eq_false_iff_not] at hgd)<;>(first|(exfalso;omega) | (go_simp;refine hK _ ?_;clear hK K))))
          all_goals (refine Lx.lex_nil ?_)
          clear y1 y2 y4 q0 q1 q2 q3 q4
          go_wp2_with fail
          go_roundw
          case rel=>exact⟨a2,j+1,by go_num,hjl,by rw[Eqn,HFS.out,HAF.out],by have:=HND2.out;rw[HAF.out] at this;exact this,HP4.out⟩
          case measure=>simp[intOf];omega
         | false=>
          rw[hha] at HRB
          rw[hlk,hha,if_pos ⟨rfl,rfl⟩] at hAF
          have HAF:=Eqn.mk hAF
          clear hlk hha hAF hLK
          go_wp2_with fail
          refine Lx.region (C:=fun _=>True) (hs:=[]) (by kernel_rfl) (by kernel_rfl) trivial ?_
          repeat' (first|((first|refine Lx.ln (fun K hK=>?_) | (first|(refine Lx.lp (v:=?_) ?_ (fun K hK=>?_);rotate_left 1;intro w' hCw;try dsimp only at hCw) | (refine Lx.lr (v:=?_) ?_ (fun K hK=>?_);rotate_left 1));go_simp;first|done | with_reducible rfl);go_simp;refine hK _ ?_;clear hK K) | (refine Lx.le (fun K hK=>?_);go_simp;(first|(go_at_call 19;refine HLK1.out.mono ?_;rintro e w4 ⟨rfl,hb4⟩;have HP4:=Lib.hid (HPD.out.keep hb4);obtain⟨hh4,y4⟩:=HRB.out w4 hb4;have HH4:=Lib.hid hh4;clear hb4 hh4) | (go_at_call 15;refine HH4.out.mono ?_;rintro e w5 ⟨rfl,rfl⟩) | skip);refine hK _ _ (trivial) ?_;clear hK K) | (refine Lx.lex_cases rfl rfl rfl (fun hgd K hK=>?_) (fun hgd K hK=>?_)<;>(try simp only[decide_eq_true_eq,decide_eq_false_iff_not] at hgd)<;>(first|(exfalso;omega) | (go_simp;refine hK _ ?_;clear hK K))))
          all_goals (refine Lx.lex_nil ?_)
          clear y1 y2 q0 q1 q2 q3 q4
          go_wp2_with (at_builtin;refine wpList_append_own_at _ rfl _ _ 32 rfl w.heap.size 3 i0 (.int .i64 0) 1 8 Tryz.underlying32 hi hz0 hz1 hz2 rfl (by decide) _ _ _ rfl ((HP4.out.row 3 rfl).alloc _) ⟨w4.heap.size,0,none⟩ 1 1 [.int .i64 (t)] rfl rfl (cell_one_new _ _ _) (by simp[Value.oneCell']) (by unfold maxLen;omega) (by omega) (by have:=HP4.out.below.size;simp;omega) ?_;intro v6 w6 hown' hgrow _ hat;have HP6:=Lib.hid ((HP4.out.alloc0 _).grow 3 rfl hgrow hown' hat);obtain⟨A6,cp6,rfl⟩:=HP6.out.form 3 rfl;clear hown' hgrow hat)
          go_roundw
          case rel=>
           refine⟨a2++[t],j+1,by go_num,hjl,by rw[Eqn,HFS.out,HAF.out],by have:=HND2.out;rw[HAF.out] at this;exact this,?_⟩
           rw[List.length_append,List.map_append]
           exact HP6.out
          case measure=>simp[intOf];omega
       ·obtain rfl:j=n:=by omega
        have j2:¬((j:Nat):Int)<(j:Int):=by omega
        have HPE:=Lib.hid hP
        have HNE:=Lib.hid hnd
        have hFE:a2=set.foldl (addF r v) all:=by rw[HF.out,List.take_of_length_le (by rw[HAL.out];exact Nat.le_refl _)]
        have HFE:=Eqn.mk hFE
        have hq2:q<a2.length:=(List.getElem?_eq_some_iff.1 hnd.2.2).1
        clear hP hnd hFE HF
        go_wp2_with fail
        go_roundw
        case rel=>exact⟨a2,q+1,f,by go_num,hq2,by rw[Eqn,HCC.out,HFE.out],by omega,HNE.out.1,HNE.out.2.1,HPE.out⟩
        case measure=>simp[intOf];omega
     ·obtain rfl:q=all.length:=by omega
      have j1:¬((all.length:Nat):Int)<(all.length:Int):=by omega
      obtain⟨f,rfl⟩:∃ g,f=g+1:=⟨f - 1,by omega⟩
      have hCE:clF r set s=all:=by
       rw[HC.out,clG,List.getElem?_eq_none (Nat.le_refl _)]
      have HCE:=Eqn.mk (show clsF r set s=set.filter (hasL all) by unfold clsF;rw[hCE])
      have HPN:=Lib.hid ((hP.nil 3 1).perm (perm_in _ _ _))
      clear hP hnd hsub hCE HC
      go_wp2_with fail
      obtain⟨wb,rfl⟩:∃ wo:World,wo=wr:=⟨_,rfl⟩
      go_loopw [11,12] (fun tv jv wr=>∃ j:Nat,jv=.int .i64 j∧j≤n∧Hp w w wr ([.blk w.heap.size 29 [.slice Ad nd cd,.slice A0 n0 c0,.slice A1 n1 c1,.slice A2 n2 c2],.row (.slice Ao cs.length co) 32 1 cs.length (cs.map fun x=>sv x.1),.row (.slice As seen.length cse) 3 1 seen.length (seen.map intV),.row (.slice Aa all.length ca) 3 1 all.length (all.map intV),.row tv 3 1 ((set.take j).filter (hasL all)).length (((set.take j).filter (hasL all)).map intV)]++exI cs) []) (fun _ jv _=>n - (intOf jv).toNat)
      case atStart=>exact⟨0,rfl,Nat.zero_le _,HPN.out⟩
      case round=>
       clear HPN
       obtain⟨j,rfl,hj,hP⟩:=hrel
       obtain⟨At,ct,rfl⟩:=hP.form 4 rfl
       have HP:=Lib.hid hP
       have hra:Row1 intV wr wr.heap.size Aa all.length all:=by
        obtain⟨A',c',e',hr⟩:=row1_of_own (hP.row 3 rfl)
        injection e' with e1 e2 e3
        subst e1 e3
        exact hr
       by_cases hjl:j<n
       ·have j2:(j:Int)<(n:Int):=by omega
        obtain⟨t,ht⟩:∃ t,set[j]?=some t:=⟨_,List.getElem?_eq_getElem (by have:=HAL.out;omega)⟩
        obtain⟨b7,o7,e7,hb7,hc7⟩:=(HA.out.keep hP.below).2 (by omega)
        injection e7 with e7
        injection e7 with e7a e7b
        subst e7a e7b
        have y1:wr.cell? ⟨bA,oA+j,none⟩=some (.int .i64 t):=hc7 j t ht
        have hHB:=HHA.out Aa all.length ca t wr all (by omega) hra
        have HSU:Hid ((set.take (j+1)).filter (hasL all)=(set.take j).filter (hasL all)++if hasL all t=true then [t] else []):=Lib.hid (by rw[List.take_add_one,ht,Option.toList_some,List.filter_append];simp[List.filter_cons])
        have hOl:((set.take j).filter (hasL all)).length≤j:=Nat.le_trans (List.length_filter_le _ _) (by rw[List.length_take];omega)
        clear hP hra ht hc7
        generalize (set.take j).filter (hasL all)=O at *
        cases hha:hasL all t with
        | false=>
         rw[hha] at hHB
         have HHB:=Lib.hid hHB
         have HS2:=Eqn.mk (show (set.take (j+1)).filter (hasL all)=O by rw[HSU.out,if_neg (by rw[hha];simp),List.append_nil])
         clear hha hHB HSU
         go_wp2_with fail
         refine HHB.out.mono ?_
         rintro e w5 ⟨rfl,rfl⟩
         go_wp2_with fail
         go_roundw
         case rel=>exact⟨j+1,by go_num,hjl,by rw[HS2.out];exact HP.out⟩
         case measure=>simp[intOf];omega
        | true=>
         rw[hha] at hHB
         have HHB:=Lib.hid hHB
         have HS2:=Eqn.mk (show (set.take (j+1)).filter (hasL all)=O++[t] by rw[HSU.out,if_pos hha])
         clear hha hHB HSU
         go_wp2_with fail
         refine HHB.out.mono ?_
         rintro e w5 ⟨rfl,rfl⟩
         go_wp2_with (at_builtin;refine wpList_append_own_at _ rfl _ _ 32 rfl w.heap.size 3 i0 (.int .i64 0) 1 8 Tryz.underlying32 hi hz0 hz1 hz2 rfl (by decide) _ _ _ rfl ((HP.out.row 4 rfl).alloc _) ⟨wr.heap.size,0,none⟩ 1 1 [.int .i64 (t)] rfl rfl (cell_one_new _ _ _) (by simp[Value.oneCell']) (by unfold maxLen;omega) (by omega) (by have:=HP.out.below.size;simp;omega) ?_;intro v6 w6 hown' hgrow _ hat;have HP6:=Lib.hid ((HP.out.alloc0 _).grow 4 rfl hgrow hown' hat);obtain⟨A6,cp6,rfl⟩:=HP6.out.form 4 rfl;clear hown' hgrow hat)
         go_roundw
         case rel=>exact⟨j+1,by go_num,hjl,by rw[HS2.out,List.length_append,List.map_append];exact HP6.out⟩
         case measure=>simp[intOf];omega
       ·obtain rfl:j=n:=by omega
        have j2:¬((j:Nat):Int)<(j:Int):=by omega
        have hOl:((set.take j).filter (hasL all)).length≤j:=Nat.le_trans (List.length_filter_le _ _) (by rw[List.length_take];omega)
        have HTE:=Eqn.mk (show clsF r set s=(set.take j).filter (hasL all) by rw[HCE.out,List.take_of_length_le (by rw[HAL.out];exact Nat.le_refl _)])
        generalize (set.take j).filter (hasL all)=O at *
        clear hP hra
        go_wp2_with (at_builtin;first
         | (refine wpList_append_own_at _ rfl _ _ 42 rfl w.heap.size 32 s0 (.slice none 0 0) 1 24 Tryz.underlying42 si sz0 sz1 sz2 rfl (by decide) _ _ _ rfl ((HP.out.row 1 rfl).alloc _) ⟨wr.heap.size,0,none⟩ 1 1 [.slice At O.length ct] rfl rfl (cells_newR wr [.slice At O.length ct] 32) (by simp[Value.oneCell']) (by unfold maxLen;omega) (by omega) (by have:=HP.out.below.size;simp;omega) ?_;intro v8 w8 hown' hgrow _ hat;have HP8:=Lib.hid ((HP.out.alloc0 _).grow 1 rfl hgrow hown' hat);obtain⟨A8,c8,rfl⟩:=HP8.out.form 1 rfl;clear hown' hgrow hat)
         | (refine wpList_append_rowR rfl _ _ 32 rfl (f:=iC) (by decide) iC_one w.heap.size 3 i0 (.int .i64 0) 8 Tryz.underlying32 hi hz0 hz1 hz2 rfl _ seen.length (seen.map intV) rfl (HP8.out.row 2 rfl) At O.length ct O w8.heap.size rfl (by obtain⟨A',c',e',hr⟩:=row1_of_own (HP8.out.row 4 rfl);injection e' with e1 e2 e3;subst e1 e3;exact rowS_1 hr) (by unfold maxLen;omega) (by omega) HP8.out.below.size ?_;intro v9 w9 hown' hgrow hat;rw[flat_ints] at hown';have HP9:=Lib.hid (HP8.out.grow 2 rfl hgrow (by rw[←List.map_append] at hown';exact hown':w9.ownsRow w.heap.size 3 1 v9 (seen.length+O.length) ((seen++O).map intV)) hat);obtain⟨A9,c9,rfl⟩:=HP9.out.form 2 rfl;clear hown' hgrow hat))
        go_roundw
        case rel=>
         refine⟨k+1,cs++[((At,O.length,ct),O)],seen++O,hkl,by go_num,by rw[Eqn,HR2.out,HTE.out,List.map_append];rfl,⟨by rw[List.length_append];simp;omega,by rw[List.length_append];omega⟩,?_⟩
         have h1:=HP9.out.sub (L':=([.blk w.heap.size 29 [.slice Ad nd cd,.slice A0 n0 c0,.slice A1 n1 c1,.slice A2 n2 c2],.row (.slice A8 (cs.length+1) c8) 32 1 (cs.length+1) ((cs.map fun x=>sv x.1)++[.slice At O.length ct]),.row (.slice A9 (seen.length+O.length) c9) 3 1 (seen.length+O.length) ((seen++O).map intV)]++[.row (.slice At O.length ct) 3 1 O.length (O.map intV)])++exI cs) (.cons_cons _ (.cons_cons _ (.cons_cons _ (.cons _ (List.Sublist.refl _)))))
         have h2:=h1.perm (perm_in _ _ _).symm
         rw[List.append_assoc] at h2
         rw[exI_snoc,List.length_append,List.length_append,List.map_append]
         exact h2
        case measure=>simp[intOf];omega
  ·obtain rfl:k=n:=by omega
   have j0:¬((k:Nat):Int)<(k:Int):=by omega
   have HRE:Hid (R=cs.map Prod.snd):=Lib.hid (by
    rw[HR.out,List.drop_eq_nil_of_le (by rw[HAL.out];exact Nat.le_refl _),cmGo])
   have HPE:=Lib.hid (hP.sub (L':=.row (.slice Ao cs.length co) 32 1 cs.length (cs.map fun x=>sv x.1)::exI cs) (.cons _ (.cons_cons _ (.cons _ (List.Sublist.refl _)))))
   clear hP HR
   go_wp2_with fail
   go_ret
   exact⟨Ao,co,cs,rfl,HRE.out.symm,HPE.out⟩
end Go.Proofs.YtjakdikhdndlgaaGreatDoor
namespace Go.Proofs.YtjakdikhdndlgaaGreatDoor
open Go.RowKit Go.Shelf Go.ChangeShapes Go.WideShapes Go.ChangeAt Go.Deep Go.Joins
theorem peel_both (D:Dms) (r:Rul):(peelF D r).1.length≤D.length∧(peelF D r).2.length≤D.length:=by
 refine⟨peel_len D r,?_⟩
 rw[core_list]
 exact Nat.le_trans (List.length_filter_le _ _) (by rw[List.length_map];exact Nat.le_refl _)
theorem row_sv {w:World} {base e n:Nat} {A:Option Addr} {c:Nat} {l:List Int} (h:w.ownsRow base e 1 (sv (A,n,c)) l.length (l.map intV)):n=l.length∧Row1 intV w w.heap.size A n l:=by
 obtain⟨A',c',e',hr⟩:=row1_of_own h
 unfold sv at e'
 dsimp only at e'
 injection e' with e1 e2 e3
 subst e1 e2
 exact⟨rfl,hr⟩
theorem parts_at {cs cs':Cs} {n k:Nat} {P:List (List Int)} (h:cs.map Prod.snd=P) (h':cs'.map Prod.snd=P) (hn:P.length=n) (hk:k<n):∃ a b l,cs[k]?=some (a,l)∧cs'[k]?=some (b,l):=by
 subst hn
 have hl:k<cs.length:=by rw[←h,List.length_map] at hk;exact hk
 have hl':k<cs'.length:=by rw[←h',List.length_map] at hk;exact hk
 have e1:(cs.map Prod.snd)[k]?=(cs'.map Prod.snd)[k]?:=by rw[h,h']
 rw[List.getElem?_map,List.getElem?_map,List.getElem?_eq_getElem hl,List.getElem?_eq_getElem hl'] at e1
 simp only[Option.map_some,Option.some.injEq] at e1
 exact⟨cs[k].1,cs'[k].1,cs[k].2,List.getElem?_eq_getElem hl,by rw[List.getElem?_eq_getElem hl',e1]⟩
theorem reducePeels_walk (w:World) (hT:Tab w) (ps:PrbS) (ds:List Dom) (r:Rul) (R0:PrbAt w w.heap.size ps ds r∧ps.nd≤9223372036854775807):
  Calls Tryz.prog 6 #[ps.val] w fun e W'=>e=.returned (.bool true)∧Below w.heap.size w W':=by
 have HSM:=Lib.hid (fun (W:World) (hb:Below w.heap.size w W)=>lsmall_any ps W ds r R0.2 ⟨R0.1.1.keep hb,R0.1.2.keep hb⟩)
 have hnl:ds.length=ps.nd:=R0.1.1.1.1
 have hdl:∀ d∈ds,d.len=d.chs.length:=fun d hd=>(R0.1.1.2 d hd).1.symm
 have HSP:Hid (smF ds r 10 40=true→ps.nd≤10∧(∀ d∈ds,d.len≤60)∧r.pairs.length≤40∧r.loads.length≤40∧r.caps.length≤40):=Lib.hid (fun h=>by
  obtain⟨h1,h2,h3,h4,h5⟩:=smF_spec (by decide) h
  exact⟨by omega,h2,by omega,by omega,by omega⟩)
 have HVA:=Lib.hid (fun (W:World) (hb:Below w.heap.size w W)=>rvalid_any ps W ds r R0.2 ⟨R0.1.1.keep hb,R0.1.2.keep hb⟩)
 rw[←valid_eq hdl] at HVA
 have HKN:=Lib.hid (fun (W:World) (hb:Below w.heap.size w W)=>known_any W (hT.keep hb))
 have HPB:=Lib.hid (fun (W:World) (hb:Below w.heap.size w W)=>(⟨R0.1.1.keep hb,R0.1.2.keep hb⟩:PrbAt W W.heap.size ps ds r))
 have HDL:=Lib.hid hdl
 have HNL:=Eqn.mk hnl
 have HTW:=Lib.hid hT
 have HND:=Lib.hid R0.2
 have HVL:Hid (validP ds r=true→(peelF (ds.map Dom.say) r).2.Pairwise (·<·)∧ps.nd≤512):=Lib.hid (fun hv=>by
  obtain⟨h1,h2,h3⟩:=prij hv
  refine⟨by rw[core_list];exact h3.filter _,?_⟩
  have:=h1.len
  rw[List.length_map,hnl] at this
  exact this)
 obtain⟨L1,e1,hR1⟩:∃ L1 e1,peelR ds r=(L1,e1):=⟨_,_,rfl⟩
 obtain⟨L2,e2,hR2⟩:∃ L2 e2,coreR ds r=(L2,e2):=⟨_,_,rfl⟩
 obtain⟨P3,e3,hR3⟩:∃ P3 e3,cmpR ds r=(P3,e3):=⟨_,_,rfl⟩
 obtain⟨m1,hm1⟩:∃ m1,L1.length=m1:=⟨_,rfl⟩
 obtain⟨m2,hm2⟩:∃ m2,L2.length=m2:=⟨_,rfl⟩
 obtain⟨m3,hm3⟩:∃ m3,P3.length=m3:=⟨_,rfl⟩
 have HPE:=Lib.hid (fun (hd:∀ d∈ds,d.len≤9223372036854775807) (W:World) (hb:Below w.heap.size w W)=>((rpeel_any ps W (HTW.out.keep hb) ds r HND.out hd (HPB.out W hb)).mono (fun e w' hh=>(by
  obtain⟨A,c,h1,h2,_,h3⟩:=lp_form (L:=L1) (k:=e1) (by rw[hR1] at hh;exact hh)
  rw[hm1] at h1 h2
  exact⟨A,c,h1,h2,h3⟩:∃ A c,e=.returned (.tuple #[.slice A m1 c,.int .i64 e1])∧Row1 intV w' w'.heap.size A m1 L1∧Below W.heap.size W w'))))
 have HCO:=Lib.hid (fun (hd:∀ d∈ds,d.len≤9223372036854775807) (W:World) (hb:Below w.heap.size w W)=>((rcore_any ps W (HTW.out.keep hb) ds r HND.out hd (HPB.out W hb)).mono (fun e w' hh=>(by
  obtain⟨A,c,h1,h2,_,h3⟩:=lp_form (L:=L2) (k:=e2) (by rw[hR2] at hh;exact hh)
  rw[hm2] at h1 h2
  exact⟨A,c,h1,h2,h3⟩:∃ A c,e=.returned (.tuple #[.slice A m2 c,.int .i64 e2])∧Row1 intV w' w'.heap.size A m2 L2∧Below W.heap.size W w'))))
 have HCM:=Lib.hid (fun (hd:∀ d∈ds,d.len≤9223372036854775807) (W:World) (hb:Below w.heap.size w W)=>((rcomps_any ps W (HTW.out.keep hb) ds r HND.out hd (HPB.out W hb)).mono (fun e w' hh=>(by
  rw[hR3] at hh
  obtain⟨A,c,cs,h1,h2,h3⟩:=hh
  dsimp only at h2
  have h4:cs.length=m3:=by rw[←hm3,←h2,List.length_map]
  rw[h4] at h1 h3
  exact⟨A,c,cs,h1,h2,h3⟩:∃ A c cs,e=.returned (.tuple #[.slice A m3 c,.int .i64 e3])∧cs.map Prod.snd=P3∧Hp W W w' (.row (.slice A m3 c) 32 1 m3 (cs.map fun x=>sv x.1)::exI cs) []))))
 have HNO:Hid (validP ds r=false→m1=0∧e1=2∧m2=0∧e2=2∧m3=0∧e3=2):=Lib.hid (fun h=>by
  unfold peelR at hR1
  unfold coreR at hR2
  unfold cmpR at hR3
  rw[h] at hR1 hR2 hR3
  obtain⟨h1,h2⟩:=Prod.mk.inj hR1
  obtain⟨h3,h4⟩:=Prod.mk.inj hR2
  obtain⟨h5,h6⟩:=Prod.mk.inj hR3
  refine⟨by rw[←hm1,←h1];rfl,h2.symm,by rw[←hm2,←h3];rfl,h4.symm,by rw[←hm3,←h5];rfl,h6.symm⟩)
 have HYE:Hid (validP ds r=true→e1=0∧e2=0∧e3=0∧L1=(peelF (ds.map Dom.say) r).1∧L2=(peelF (ds.map Dom.say) r).2∧P3=compF r L2):=Lib.hid (fun h=>by
  unfold peelR at hR1
  unfold coreR at hR2
  unfold cmpR at hR3
  rw[h] at hR1 hR2 hR3
  obtain⟨h1,h2⟩:=Prod.mk.inj hR1
  obtain⟨h3,h4⟩:=Prod.mk.inj hR2
  obtain⟨h5,h6⟩:=Prod.mk.inj hR3
  exact⟨h2.symm,h4.symm,h6.symm,h1.symm,h3.symm,by rw[←h5,←h3]⟩)
 have HRP:=Lib.hid (fun (hv:validP ds r=true) (hn:ps.nd≤10) (hd:∀ d∈ds,d.len≤60) (hp:r.pairs.length≤40∧r.loads.length≤40∧r.caps.length≤40) (W:World) (hb:Below w.heap.size w W)=>(refpeel_any ps W ds r (by omega) (by omega) (by omega) (by omega) (fun d h=>by have:=hd d h;have:=HDL.out d h;omega) (HPB.out W hb)).mono (fun e w' hh=>(by
  obtain⟨_,_,_,h4,h5,_⟩:=HYE.out hv
  rw[←h4,←h5] at hh
  obtain⟨v1,v2,rfl,ho1,ho2,hb⟩:=hh
  obtain⟨A,c,rfl,hr1,_⟩:=own_form ho1
  obtain⟨A',c',rfl,hr2,_⟩:=own_form ho2
  rw[hm1] at hr1 ⊢
  rw[hm2] at hr2 ⊢
  exact⟨A,c,A',c',rfl,hr1,hr2,hb⟩:∃ A c A' c',e=.returned (.tuple #[.slice A m1 c,.slice A' m2 c'])∧Row1 intV w' w'.heap.size A m1 L1∧Row1 intV w' w'.heap.size A' m2 L2∧Below W.heap.size W w')))
 have HRC:=Lib.hid (fun (hv:validP ds r=true) (hp:r.pairs.length≤40∧r.loads.length≤40∧r.caps.length≤40) (hm:m2≤10) (A:Option Addr) (c:Nat) (W:World) (hb:Below w.heap.size w W) (hA:Row1 intV W W.heap.size A m2 L2)=>(refcomps_any ps A m2 c L2 W ds r (by omega) (by omega) (by omega) (HPB.out W hb) hA).mono (fun e w' hh=>(by
  obtain⟨_,_,_,_,_,h6⟩:=HYE.out hv
  rw[←h6] at hh
  obtain⟨A,c,cs,h1,h2,h3⟩:=hh
  have h4:cs.length=m3:=by rw[←hm3,←h2,List.length_map]
  rw[h4] at h1 h3
  exact⟨A,c,cs,h1,h2,h3⟩:∃ A c cs,e=.returned (.slice A m3 c)∧cs.map Prod.snd=P3∧Hp W W w' (.row (.slice A m3 c) 32 1 m3 (cs.map fun x=>sv x.1)::exI cs) [])))
 have HME:Hid (validP ds r=true→m1≤ps.nd∧m2≤ps.nd):=Lib.hid (fun hv=>by
  obtain⟨_,_,_,h4,h5,_⟩:=HYE.out hv
  have:=peel_both (ds.map Dom.say) r
  rw[←h4,←h5,List.length_map,hnl,hm1,hm2] at this
  exact this)
 have HPL:=Eqn.mk hm3
 have HPM:Hid (validP ds r=true→m3≤512):=Lib.hid (fun hv=>by
  obtain⟨_,_,_,h4,h5,h6⟩:=HYE.out hv
  have h7:=HVL.out hv
  obtain⟨h8,_⟩:=h7
  have:(compF r L2).length≤L2.length:=by rw[comp_eq (inc_nodup (h5 ▸ h8)),List.length_map];exact List.length_filter_le _ _
  rw[←h6,hm3,hm2] at this
  have:=HME.out hv
  have:=HVL.out hv
  omega)
 have HLL:Hid (validP ds r=true→∀(k:Nat) (l:List Int),P3[k]?=some l→l.length≤100000):=Lib.hid (fun hv k l hl=>by
  obtain⟨_,_,_,h4,h5,h6⟩:=HYE.out hv
  obtain⟨h8,h9⟩:=HVL.out hv
  rw[h6] at hl
  have h10:=(comp_sub (inc_nodup (h5 ▸ h8)) (List.mem_of_getElem? hl)).length_le
  have:=HME.out hv
  omega)
 have HHS:=Lib.hid (fun (A B:Option Addr) (n c d:Nat) (l:List Int) (W:World) (D:Nat) (hn:n≤100000) (ha:Row1 intV W D A n l) (hb:Row1 intV W D B n l)=>(sameInts_any A B n c n d W D l l hn ha hb).mono (fun e w' hh=>(by
  rw[sameL_refl] at hh
  exact hh:e=.returned (.bool true)∧Below D W w')))
 clear hR1 hR2 hR3 hm1 hm2 hm3
 obtain⟨W0,hW0⟩:∃ W0,W0=w.alloc (.cells #[.slice ps.ad ps.nd ps.cd,.slice ps.rs.a0 ps.rs.n0 ps.rs.c0,.slice ps.rs.a1 ps.rs.n1 ps.rs.c1,.slice ps.rs.a2 ps.rs.n2 ps.rs.c2] 29):=⟨_,rfl⟩
 have HX0:Hid (Blk W0 w.heap.size 29 [.slice ps.ad ps.nd ps.cd,.slice ps.rs.a0 ps.rs.n0 ps.rs.c0,.slice ps.rs.a1 ps.rs.n1 ps.rs.c1,.slice ps.rs.a2 ps.rs.n2 ps.rs.c2]):=Lib.hid (by rw[hW0];exact blk_new w _ _)
 have hB0:Below w.heap.size w W0:=by rw[hW0];exact(Below.refl _ w).alloc (Nat.le_refl _) _
 have HQ:=Lib.hid (fun (W:World) (hb:Below W0.heap.size W0 W)=>(by
  have hx:=HX0.out.keep hb
  exact⟨hx.cell (i:=0) rfl,hx.cell (i:=1) rfl,hx.cell (i:=2) rfl,hx.cell (i:=3) rfl,hx.lt⟩:W.cell? ⟨w.heap.size,0,none⟩=some (.slice ps.ad ps.nd ps.cd)∧W.cell? ⟨w.heap.size,1,none⟩=some (.slice ps.rs.a0 ps.rs.n0 ps.rs.c0)∧W.cell? ⟨w.heap.size,2,none⟩=some (.slice ps.rs.a1 ps.rs.n1 ps.rs.c1)∧W.cell? ⟨w.heap.size,3,none⟩=some (.slice ps.rs.a2 ps.rs.n2 ps.rs.c2)∧w.heap.size<W.heap.size))
 have HB0:=Lib.hid hB0
 have HS0:=Lib.hid (HSM.out W0 hB0)
 obtain⟨q0,q1,q2,q3,q4⟩:=HQ.out W0 (Below.refl _ _)
 unfold PrbS.val at *
 clear R0 hnl hdl hT hB0 HSM
 generalize hsm:smF ds r 10 40=sm at *
 clear hsm
 go_enter Tryz.func6,Tryz.ntmps6
 go_upto_region 1 with fail
 rw[←hW0]
 clear hW0
 go_wp2_with fail
 refine HS0.out.mono ?_
 rintro e W1 ⟨rfl,hb1⟩
 have HF1:=Lib.hid hb1
 have HB1:=Lib.hid (HB0.out.trans (hb1.mono HB0.out.size))
 clear hb1 q0 q1 q2 q3 q4 HS0
 cases sm with
 | false=>
  go_wp2_with fail
  refine(HKN.out _ HB1.out).mono ?_
  rintro e W9 ⟨rfl,hb9⟩
  have HB9:=Lib.hid (Below.trans HB1.out (hb9.mono (Below.size HB1.out)))
  clear hb9
  go_wp2_with fail
  go_ret
  exact⟨rfl,HB9.out⟩
 | true=>
  obtain⟨hn10,hd60,hp40,hl40,hc40⟩:=HSP.out rfl
  have hd6:∀ d∈ds,d.len≤9223372036854775807:=fun d hd=>by have:=hd60 d hd;omega
  replace HPE:=Lib.hid (HPE.out hd6)
  replace HCO:=Lib.hid (HCO.out hd6)
  replace HCM:=Lib.hid (HCM.out hd6)
  replace HRP:=Lib.hid (fun hv=>HRP.out hv hn10 hd60 ⟨hp40,hl40,hc40⟩)
  replace HRC:=Lib.hid (fun hv=>HRC.out hv ⟨hp40,hl40,hc40⟩)
  have HN10:=Lib.hid hn10
  obtain⟨q0,q1,q2,q3,q4⟩:=HQ.out W1 HF1.out
  clear hn10 hd60 hp40 hl40 hc40 hd6 HSP
  generalize validP ds r=vv at *
  go_wp2_with fail
  refine(HPE.out W1 HB1.out).mono ?_
  rintro e W2 ⟨A1,c1,rfl,hr1,hb2⟩
  have HR1:=Lib.hid hr1
  clear hr1
  have HF2:=Lib.hid (HF1.out.trans (hb2.mono HF1.out.size))
  have HB2:=Lib.hid (HB1.out.trans (hb2.mono HB1.out.size))
  clear hb2 q0 q1 q2 q3 q4
  obtain⟨q0,q1,q2,q3,q4⟩:=HQ.out W2 HF2.out
  go_wp2_with fail
  refine(HCO.out W2 HB2.out).mono ?_
  rintro e W3 ⟨A2,c2,rfl,hr2,hb3⟩
  replace HR1:=Lib.hid (HR1.out.keep hb3)
  have HR2:=Lib.hid hr2
  clear hr2
  have HF3:=Lib.hid (HF2.out.trans (hb3.mono HF2.out.size))
  have HB3:=Lib.hid (HB2.out.trans (hb3.mono HB2.out.size))
  clear hb3 q0 q1 q2 q3 q4
  obtain⟨q0,q1,q2,q3,q4⟩:=HQ.out W3 HF3.out
  go_wp2_with fail
  refine(HCM.out W3 HB3.out).mono ?_
  rintro e W4 ⟨A3,c3,cs,rfl,hcs,hP⟩
  have hb4:=hP.below
  replace HR1:=Lib.hid (HR1.out.keep hb4)
  replace HR2:=Lib.hid (HR2.out.keep hb4)
  have HP4:=Lib.hid hP
  have HCS:=Eqn.mk hcs
  clear hcs hP
  have HF4:=Lib.hid (HF3.out.trans (hb4.mono HF3.out.size))
  have HB4:=Lib.hid (HB3.out.trans (hb4.mono HB3.out.size))
  clear hb4 q0 q1 q2 q3 q4
  obtain⟨q0,q1,q2,q3,q4⟩:=HQ.out W4 HF4.out
  go_wp2_with fail
  refine(HVA.out W4 HB4.out).mono ?_
  rintro e W5 ⟨rfl,hb5⟩
  replace HR1:=Lib.hid (HR1.out.keep hb5)
  replace HR2:=Lib.hid (HR2.out.keep hb5)
  have HP5:=Lib.hid (HP4.out.keep (hb5.mono (Nat.le_refl _)))
  clear HP4
  have HF5:=Lib.hid (HF4.out.trans (hb5.mono HF4.out.size))
  have HB5:=Lib.hid (HB4.out.trans (hb5.mono HB4.out.size))
  clear hb5 q0 q1 q2 q3 q4
  obtain⟨q0,q1,q2,q3,q4⟩:=HQ.out W5 HF5.out
  cases vv with
  | false=>
   obtain⟨rfl,rfl,rfl,rfl,rfl,rfl⟩:=HNO.out rfl
   clear q0 q1 q2 q3 q4
   go_wp2_with fail
   refine(HKN.out _ HB5.out).mono ?_
   rintro e W9 ⟨rfl,hb9⟩
   have HB9:=Lib.hid (Below.trans HB5.out (hb9.mono (Below.size HB5.out)))
   clear hb9
   go_wp2_with fail
   go_ret
   exact⟨rfl,HB9.out⟩
  | true=>
   obtain⟨rfl,rfl,rfl,_,_,_⟩:=HYE.out rfl
   obtain⟨hm1,hm2⟩:=HME.out rfl
   have HM12:=Lib.hid (And.intro (show m1≤10 from Nat.le_trans hm1 HN10.out) (show m2≤10 from Nat.le_trans hm2 HN10.out))
   have hm3:=HPM.out rfl
   replace HRC:=Lib.hid (HRC.out rfl)
   replace HRP:=Lib.hid (HRP.out rfl)
   replace HLL:=Lib.hid (HLL.out rfl)
   clear HNO HYE HME HPM HVL hm1 hm2
   go_wp2_with fail
   refine(HRP.out W5 HB5.out).mono ?_
   rintro e W6 ⟨A6,c6,A7,c7,rfl,hr6,hr7,hb6⟩
   replace HR1:=Lib.hid (HR1.out.keep hb6)
   replace HR2:=Lib.hid (HR2.out.keep hb6)
   have HR6:=Lib.hid hr6
   have HR7:=Lib.hid hr7
   have HP6:=Lib.hid (HP5.out.keep hb6)
   clear hr6 hr7 HP5
   have HF6:=Lib.hid (HF5.out.trans (hb6.mono HF5.out.size))
   have HB6:=Lib.hid (HB5.out.trans (hb6.mono HB5.out.size))
   clear hb6 q0 q1 q2 q3 q4
   obtain⟨q0,q1,q2,q3,q4⟩:=HQ.out W6 HF6.out
   go_wp2_with fail
   refine(HRC.out HM12.out.2 A7 c7 W6 HB6.out HR7.out).mono ?_
   rintro e W7 ⟨A8,c8,cs',rfl,hcs',hP8⟩
   have hb7:=hP8.below
   replace HR1:=Lib.hid (HR1.out.keep hb7)
   replace HR2:=Lib.hid (HR2.out.keep hb7)
   replace HR6:=Lib.hid (HR6.out.keep hb7)
   replace HR7:=Lib.hid (HR7.out.keep hb7)
   have HP7:=Lib.hid (HP6.out.keep hb7)
   have HPR:=Lib.hid hP8
   have HCR:=Eqn.mk hcs'
   clear hP8 hcs' HP6
   have HF7:=Lib.hid (HF6.out.trans (hb7.mono HF6.out.size))
   have HB7:=Lib.hid (HB6.out.trans (hb7.mono HB6.out.size))
   clear hb7 q0 q1 q2 q3 q4
   obtain⟨q0,q1,q2,q3,q4⟩:=HQ.out W7 HF7.out
   clear q0 q1 q2 q3 q4
   go_wp2_with fail
   refine(HHS.out A1 A6 m1 c1 c6 L1 W7 _ (by have:=HM12.out.1;omega) HR1.out HR6.out).mono ?_
   rintro e W8 ⟨rfl,hb8⟩
   have HB8:=Lib.hid (HB7.out.trans (hb8.mono HB7.out.size))
   replace HR2:=Lib.hid (HR2.out.keep hb8)
   replace HR7:=Lib.hid (HR7.out.keep hb8)
   have HP8:=Lib.hid (HP7.out.keep hb8)
   have HQ8:=Lib.hid (HPR.out.keep hb8)
   clear hb8 HP7 HPR
   go_wp2_with fail
   refine(HHS.out A2 A7 m2 c2 c7 L2 W8 _ (by have:=HM12.out.2;omega) HR2.out HR7.out).mono ?_
   rintro e W9 ⟨rfl,hb9⟩
   have HB9:=Lib.hid (HB8.out.trans (hb9.mono HB8.out.size))
   have HP9:=Lib.hid (HP8.out.keep hb9)
   have HQ9:=Lib.hid (HQ8.out.keep hb9)
   clear hb9 HP8 HQ8
   go_wp2_with fail
   go_loopw [12] (fun i wr=>∃ k:Nat,i=.int .i64 k∧k≤m3∧Below W9.heap.size W9 wr) (fun i _=>m3 - (intOf i).toNat)
   case atStart=>exact⟨0,rfl,Nat.zero_le _,Below.refl _ _⟩
   case round=>
    obtain⟨k,rfl,hk,hbk⟩:=hrel
    by_cases hkl:k<m3
    ·have j1:(k:Int)<(m3:Int):=by omega
     obtain⟨a,b,l,ha,hb⟩:=parts_at HCS.out HCR.out HPL.out hkl
     obtain⟨⟨aA,an,ac⟩,rfl⟩:∃ a',a'=a:=⟨_,rfl⟩
     obtain⟨⟨bA,bn,bc⟩,rfl⟩:∃ b',b'=b:=⟨_,rfl⟩
     have HPK:=Lib.hid (HP9.out.keep hbk.drew)
     have HQK:=Lib.hid (HQ9.out.keep hbk.drew)
     obtain⟨g1,d1,f1,y1,_,_⟩:=HPK.out.at 0 k rfl (show (cs.map fun x=>sv x.1)[k]?=some (.slice aA an ac) by rw[List.getElem?_map,ha];rfl)
     obtain⟨g2,d2,f2,y2,_,_⟩:=HQK.out.at 0 k rfl (show (cs'.map fun x=>sv x.1)[k]?=some (.slice bA bn bc) by rw[List.getElem?_map,hb];rfl)
     injection f1 with f1 _ f1c
     injection f2 with f2 _ f2c
     subst f1 f1c f2 f2c
     obtain⟨rfl,hra⟩:=row_sv (l:=l) (A:=aA) (n:=an) (c:=ac) (HPK.out.row (1+k) (exI_at (L:=[_]) rfl ha))
     obtain⟨rfl,hrb⟩:=row_sv (l:=l) (A:=bA) (n:=bn) (c:=bc) (HQK.out.row (1+k) (exI_at (L:=[_]) rfl hb))
     have hll:l.length≤100000:=HLL.out k l (by have:=congrArg (fun x=>x[k]?) HCS.out;rw[List.getElem?_map,ha] at this;exact this.symm)
     have HSX:=Lib.hid (HHS.out aA bA l.length ac bc l wr.drew wr.drew.heap.size hll hra hrb)
     have HBK:=Lib.hid hbk.drew
     clear hbk hra hrb ha hb hll
     go_wp2_with fail
     refine Lx.region (C:=fun _=>True) (hs:=[]) (by kernel_rfl) (by kernel_rfl) trivial ?_
     repeat' (first|((first|refine Lx.ln (fun K hK=>?_) | (first|(refine Lx.lp (v:=?_) ?_ (fun K hK=>?_);rotate_left 1;intro w' hCw;try dsimp only at hCw) | (refine Lx.lr (v:=?_) ?_ (fun K hK=>?_);rotate_left 1));go_simp;first|done | with_reducible rfl);go_simp;refine hK _ ?_;clear hK K) | (refine Lx.le (fun K hK=>?_);go_simp;(first|(go_at_call 17;refine HSX.out.mono ?_;rintro e w4 ⟨rfl,hb4⟩;have HB4:=Lib.hid (HBK.out.trans (hb4.mono HBK.out.size));clear hb4) | skip);refine hK _ _ (trivial) ?_;clear hK K) | (refine Lx.lex_cases rfl rfl rfl (fun hgd K hK=>?_) (fun hgd K hK=>?_)<;>(try simp only[decide_eq_true_eq,decide_eq_false_iff_not] at hgd)<;>(first|(exfalso;omega) | (go_simp;refine hK _ ?_;clear hK K))))
     all_goals (refine Lx.lex_nil ?_)
     clear y1 y2
     go_wp2_with fail
     go_roundw
     case rel=>exact⟨k+1,by go_num,hkl,HB4.out⟩
     case measure=>simp[intOf];omega
    ·obtain rfl:k=m3:=by omega
     have j1:¬((k:Nat):Int)<(k:Int):=by omega
     have HBX:=Lib.hid (HB9.out.trans (hbk.mono HB9.out.size))
     clear hbk
     go_wp2_with fail
     refine(HKN.out _ HBX.out).mono ?_
     rintro e W9 ⟨rfl,hb9⟩
     have HB9:=Lib.hid (Below.trans HBX.out (hb9.mono (Below.size HBX.out)))
     clear hb9
     go_wp2_with fail
     go_ret
     exact⟨rfl,HB9.out⟩
theorem reducePeels_lifted (os:Os) (started:os.Started) (H:Type) (enc:TypeId×Value→H):
  ReturnsInHanded {} Tryz.checked os 6 .any (fun w args=>(Rows.reducePeelsSpec.pre enc Tryz.prog Tryz.f6 [] false w args∧laidMetH Tryz.prog laid07 w)∧sizedMet enc Tryz.prog Tryz.f6 (OpenSpec.ofChange Rows.reducePeelsSpec) false w args) (Rows.reducePeelsSpec.post enc Tryz.prog Tryz.f6 false true false false):=by
 refine handed_laid (C:=Tryz.checked) (laid:=laid07) own started (by kernel_rfl) Tryz.func6
  (ChangeSpec.witness_shaped (enc:=enc) (C:=Tryz.checked) (os:=os) (X:=fun w _=>laidMetH Tryz.prog laid07 w) false (World.laidAll Tryz.prog os laid07) #[.agg #[.slice none 0 0,.slice none 0 0,.slice none 0 0,.slice none 0 0]] 8 (World.laidAll_os _ _ _) (World.shaped_of_ZipB (by kernel_rfl) (by kernel_rfl)) (by kernel_rfl) (by kernel_rfl) (by kernel_rfl) (laidHold os _)) ?_
 intro W base args ds gs before hval0 hW hL hsh
 have hTab:=tab_of hL hsh
 have hval:∀(j:Nat) t v,Tryz.f6.params[j]?=some t→args[j]?=some v→Value.okWide Tryz.prog W .any base t v:=hval0
 have hW':=hW
 obtain⟨p,q,hA0,hV,rfl,hfz,hnd⟩:=hW
 have hA:DataW.TrodAll enc Tryz.prog W 0 (fun _=>true) true Tryz.f6.params.toList args.toList ds p:=hA0
 rw[Tryz.params6] at hA hval
 obtain⟨v0,vs0,d0,ds0,p0,q0,hargs,rfl,rfl,h0,r0⟩:=trodAll_cons hA
 obtain⟨rfl,rfl,rfl⟩:=trodAll_nil r0
 obtain rfl:args=#[v0]:=by cases args;simp_all
 obtain⟨rfl,rfl⟩:=trodVars_none hV
 have k0:=h0
 have lt0:∀ x∈p0,x.block<W.heap.size:=by obtain⟨m,hm⟩:=k0;exact DataW.trod_lt m _ _ _ hm
 obtain⟨s0,ds0,x0,rfl,R0⟩:=arg_prb (hval 0 29 _ rfl rfl) h0
 clear hA0 hval0
 refine(reducePeels_walk W hTab s0 ds0 x0 R0).mono fun e W' ⟨he,bel⟩=>?_
 subst he
 exact⟨_,rfl,_,_,_,[],_,[],hW',trodAll_mk1 (shut_bool Tryz.underlying4 _),(trodAll_cons_mk (Below.trod laidOut (by kernel_rfl) (of_decide_eq_true (by kernel_rfl)) k0 bel lt0) trodAll_mk0),rfl,bel.frame _,fun h=>by cases h⟩
theorem reducePeels_over:Rows.reducePeelsRow.holds Tryz.pinned (OpenSpec.ofChange Rows.reducePeelsSpec):=
 OpenClaim.holds_of_wide 6 Tryz.f6 rfl rfl rfl rfl rfl rfl rfl ⟨rfl,rfl,rfl,rfl,rfl⟩ rfl rfl rfl rfl rfl (by kernel_rfl) Tryz.func6 (by kernel_rfl)
  (of_decide_eq_true (by kernel_rfl)) (by unfold Func.isWrapper;first|(rw[if_pos (by decide +kernel)];kernel_rfl) | (rw[if_neg (by decide +kernel)];exact⟨rfl,rfl⟩))
  (fun os started H enc _=>reducePeels_lifted os started H enc)
theorem reducePeelsCard_holds:Rows.ReducePeelsCardSaid:=
 Claim7.holds_tied_plain_at .later [] [.data] true (true, "60866ed61efe1440238383c15dd6059d6e8c591d87e8f8b121f25048c3dbf775") false
  reducePeels_over (fun _ h=>by cases h) (by kernel_rfl) (fun _ h=>by cases h) reducePeels_row_tie rfl ⟨rfl,rfl⟩ (by kernel_rfl) rfl
  (fun f fn hf hfn=>by
   obtain rfl : f = 6 := Option.some.inj ((show Tryz.prog.funcNamed "bandplan/bandplanlaw19.ReducePeels" = some 6 by kernel_rfl).symm.trans hf) |>.symm
   obtain rfl:fn=Tryz.f6:=(Option.some.inj (Tryz.func6.symm.trans hfn)).symm
   exact⟨by kernel_rfl,fun j t ht=>by
    rw[Tryz.params6] at ht
    rcases j with _ | j
    ·obtain rfl:t=29:=by simpa using ht.symm
     exact(show Tryz.prog.wantsStandIn 29=false by kernel_rfl)
    ·simp at ht⟩)
  (by kernel_rfl)
#print axioms reducePeelsCard_holds
end Go.Proofs.YtjakdikhdndlgaaGreatDoor
