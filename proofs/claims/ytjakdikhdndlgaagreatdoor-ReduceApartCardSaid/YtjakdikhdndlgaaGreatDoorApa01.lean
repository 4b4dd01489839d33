/- REDUCE APART: for every problem,the law ReduceApart returns true,and the input reads as it did. Conditions: none beyond the card's own. Printed by genlaw19d.py. -/
import Derived.Test.YtjakdikhdndlgaaGreatDoorBas31
set_option maxRecDepth 100000
set_option maxHeartbeats 80000000
namespace Go.Proofs.YtjakdikhdndlgaaGreatDoor
open Go.RowKit
theorem comp_is {r:Rul} {set:List Int} (hn:set.Nodup) {p:List Int} (hp:p∈compF r set) {x:Int} (hx:x∈p):p=clsF r set x:=by
 obtain⟨s,hs,rfl,_⟩:=comp_part hn hp
 exact((cls_ok hn).same s hs x hx).symm
theorem comp_link {r:Rul} {set:List Int} (hn:set.Nodup) {p q:List Int} (hp:p∈compF r set) (hq:q∈compF r set) {x y:Int} (hx:x∈p) (hy:y∈q) (h:linkF r x y=true):p=q:=by
 rw[comp_is hn hp hx,comp_is hn hq hy]
 have hxs:=(comp_sub hn hp).subset hx
 have hys:=(comp_sub hn hq).subset hy
 exact((cls_ok hn).same x hxs y ((cls_mem hxs y).2 (.step .refl h hys))).symm
theorem comp_joined {r:Rul} {set:List Int} (hn:set.Nodup) {p:List Int} (hp:p∈compF r set) {x:Int} (hx:x∈p) (h1:p.length≠1):∃ y∈p,linkF r x y=true:=by
 have hxs:=(comp_sub hn hp).subset hx
 have hpn:=hn.sublist (comp_sub hn hp)
 obtain⟨y,hy,hne⟩:∃ y∈p,y≠x:=by
  cases p with
  | nil=>cases hx
  | cons a u=>
   cases u with
   | nil=>exact absurd rfl h1
   | cons b v=>
    rw[List.nodup_cons] at hpn
    by_cases ha:a=x
    ·exact⟨b,by simp,fun e=>hpn.1 (by rw[ha,←e];simp)⟩
    ·exact⟨a,by simp,ha⟩
 have hc:=comp_is hn hp hx
 have hrc:Rc r set x y:=(cls_mem hxs y).1 (hc ▸ hy)
 -- the first step of the way from x to y
 have key:∀ z,Rc r set x z→z≠x→∃ v∈set,linkF r x v=true:=by
  intro z hz
  induction hz with
  | refl=>intro h;exact absurd rfl h
  | @step v t hv h3 h4 ih=>
   intro _
   by_cases hvx:v=x
   ·exact⟨t,h4,hvx ▸ h3⟩
   ·exact ih hvx
 obtain⟨v,hv,hl⟩:=key y hrc hne
 exact⟨v,by rw[hc];exact(cls_mem hxs v).2 (.step .refl hl hv),hl⟩
theorem comp_heads {r:Rul} {set:List Int} (hi:set.Pairwise (·<·)):(compF r set).Pairwise (fun p q=>∀ x y,p.head?=some x→q.head?=some y→x<y):=by
 rw[comp_eq (inc_nodup hi),List.pairwise_map,List.pairwise_filter]
 refine hi.imp (fun {a b} hab h1 h2 x y hx hy=>?_)
 unfold isMin at h1 h2
 rw[of_decide_eq_true h1] at hx
 rw[of_decide_eq_true h2] at hy
 simp only[Option.some.injEq] at hx hy
 omega
theorem comp_apart {r:Rul} {set:List Int} (hi:set.Pairwise (·<·)) {i k:Nat} {p q:List Int} (hp:(compF r set)[i]?=some p) (hq:(compF r set)[k]?=some q) (hik:i≠k):∀ x∈p,x∉q:=by
 intro x hx hy
 have hn:=inc_nodup hi
 have hpm:=List.mem_of_getElem? hp
 have hqm:=List.mem_of_getElem? hq
 have e:p=q:=(comp_is hn hpm hx).trans (comp_is hn hqm hy).symm
 obtain⟨s,_,_,hh⟩:=comp_part hn hpm
 obtain⟨h1,e1⟩:=List.getElem?_eq_some_iff.1 hp
 obtain⟨h2,e2⟩:=List.getElem?_eq_some_iff.1 hq
 rcases Nat.lt_or_ge i k with hlt | hge
 ·have:=List.pairwise_iff_getElem.1 (comp_heads hi) i k h1 h2 hlt s s (by rw[e1];exact hh) (by rw[e2,←e];exact hh)
  omega
 ·have:=List.pairwise_iff_getElem.1 (comp_heads hi) k i h2 h1 (by omega) s s (by rw[e2,←e];exact hh) (by rw[e1];exact hh)
  omega
end Go.Proofs.YtjakdikhdndlgaaGreatDoor
namespace Go.Proofs.YtjakdikhdndlgaaGreatDoor
open Go.RowKit Go.Shelf Go.ChangeShapes Go.WideShapes Go.ChangeAt Go.Deep Go.Joins
structure PartsI (r:Rul) (P:List (List Int)):Prop where
 up:∀(k:Nat) (p:List Int),P[k]?=some p→p.Pairwise (·<·)
 ne:∀(k:Nat) (p:List Int),P[k]?=some p→0<p.length
 le:∀(k:Nat) (p:List Int),P[k]?=some p→p.length≤512
 hd:∀(i j:Nat) (p q:List Int) (x y:Int),P[i]?=some p→P[j]?=some q→i<j→p[0]?=some x→q[0]?=some y→x<y
 lk:∀(i j:Nat) (p q:List Int) (x y:Int),P[i]?=some p→P[j]?=some q→x∈p→y∈q→linkF r x y=true→i=j
 jn:∀(i:Nat) (p:List Int) (x:Int),P[i]?=some p→x∈p→p.length≠1→∃ y∈p,linkF r x y=true
theorem parts_ok {r:Rul} {C:List Int} (hi:C.Pairwise (·<·)) (hl:C.length≤512):PartsI r (compF r C):=by
 have hn:=inc_nodup hi
 refine⟨fun k p hp=>?_,fun k p hp=>?_,fun k p hp=>?_,fun i j p q x y hp hq hij hx hy=>?_,fun i j p q x y hp hq hx hy h=>?_,fun i p x hp hx h1=>?_⟩
 ·exact hi.sublist (comp_sub hn (List.mem_of_getElem? hp))
 ·obtain⟨s,_,_,h⟩:=comp_part hn (List.mem_of_getElem? hp)
  cases p with
  | nil=>cases h
  | cons a b=>simp
 ·exact Nat.le_trans (comp_sub hn (List.mem_of_getElem? hp)).length_le hl
 ·obtain⟨h1,h2⟩:=List.getElem?_eq_some_iff.1 hp
  obtain⟨h3,h4⟩:=List.getElem?_eq_some_iff.1 hq
  have h:=List.pairwise_iff_getElem.1 (comp_heads (r:=r) hi) i j h1 h3 hij
  rw[h2,h4] at h
  exact h x y (by rw[List.head?_eq_getElem?];exact hx) (by rw[List.head?_eq_getElem?];exact hy)
 ·have e:=comp_link hn (List.mem_of_getElem? hp) (List.mem_of_getElem? hq) hx hy h
  by_cases hij:i=j
  ·exact hij
  ·exact absurd (e ▸ hx) (comp_apart hi hp hq hij x hx)
 ·exact comp_joined hn (List.mem_of_getElem? hp) hx h1
def JnI (r:Rul) (P:List (List Int)) (x:Int) (n k:Nat) (b:Bool):Prop:=(n=1→b=true)∧∀(j:Nat) (p:List Int),j<k→P[j]?=some p→∀ y∈p,linkF r x y=true→b=true
theorem JnI.done {r:Rul} {P:List (List Int)} {x:Int} {i:Nat} {p:List Int} {b:Bool} (hP:PartsI r P) (hp:P[i]?=some p) (hx:x∈p) (h:JnI r P x p.length P.length b):b=true:=by
 by_cases h1:p.length=1
 ·exact h.1 h1
 ·obtain⟨y,hy,hl⟩:=hP.jn i p x hp hx h1
  exact h.2 i p (List.getElem?_eq_some_iff.1 hp).1 hp y hy hl
def JnJ (r:Rul) (P:List (List Int)) (x:Int) (n k:Nat) (q:List Int) (c:Nat) (b:Bool):Prop:=JnI r P x n k b∧∀(j:Nat) (y:Int),j<c→q[j]?=some y→linkF r x y=true→b=true
theorem JnJ.step {r:Rul} {P:List (List Int)} {x y:Int} {n k c:Nat} {q:List Int} {b:Bool} (h:JnJ r P x n k q c b) (hy:q[c]?=some y):JnJ r P x n k q (c+1) (b||linkF r x y):=by
 obtain⟨⟨h1,h2⟩,h3⟩:=h
 refine⟨⟨fun e=>by rw[h1 e];rfl,fun j p hj hp z hz hl=>by rw[h2 j p hj hp z hz hl];rfl⟩,fun j z hj hz hl=>?_⟩
 by_cases e:j=c
 ·subst e;rw[hy] at hz;cases hz;rw[hl,Bool.or_true]
 ·rw[h3 j z (by omega) hz hl];rfl
theorem JnJ.done {r:Rul} {P:List (List Int)} {x:Int} {n k:Nat} {q:List Int} {b:Bool} (hq:P[k]?=some q) (h:JnJ r P x n k q q.length b):JnI r P x n (k+1) b:=by
 refine⟨h.1.1,fun j p hj hp y hy hl=>?_⟩
 by_cases e:j=k
 ·subst e
  rw[hq] at hp;cases hp
  obtain⟨m,hm,e⟩:=List.mem_iff_getElem.1 hy
  exact h.2 m y hm (by rw[List.getElem?_eq_getElem hm,e]) hl
 ·exact h.1.2 j p (by omega) hp y hy hl
def RowsAt (W:World) (g:Nat) (cs:Cs):Prop:=∀(k:Nat) (A:Option Addr) (n c:Nat) (l:List Int),cs[k]?=some ((A,n,c),l)→n=l.length∧W.cell? ⟨g,k,none⟩=some (.slice A n c)∧Row1 intV W W.heap.size A n l
theorem rows_at {w u W:World} {g n c:Nat} {cs:Cs} (h:Hp w u W (.row (.slice (some ⟨g,0,none⟩) n c) 32 1 n (cs.map fun x=>sv x.1)::exI cs) []):RowsAt W g cs:=by
 intro k A n c l hk
 obtain⟨g1,c1,e1,y1,_,_⟩:=h.at 0 k rfl (show (cs.map fun x=>sv x.1)[k]?=some (.slice A n c) by rw[List.getElem?_map,hk];rfl)
 injection e1 with e1 _ _
 injection e1 with e1
 injection e1 with e1
 subst e1
 have h2:=row_sv (l:=l) (A:=A) (n:=n) (c:=c) (h.row (1+k) (exI_at (L:=[_]) rfl hk))
 exact⟨h2.1,y1,h2.2⟩
theorem reduceApart_walk (w:World) (hT:Tab w) (ps:PrbS) (ds:List Dom) (r:Rul) (R0:PrbAt w w.heap.size ps ds r∧ps.nd≤9223372036854775807):
  Calls Tryz.prog 4 #[ps.val] w fun e W'=>e=.returned (.bool true)∧Below w.heap.size w W':=by
 have HSM:=Lib.hid (fun (W:World) (hb:Below w.heap.size w W)=>lsmall_any ps W ds r R0.2 ⟨R0.1.1.keep hb,R0.1.2.keep hb⟩)
 have hnl:ds.length=ps.nd:=R0.1.1.1.1
 have hdl:∀ d∈ds,d.len=d.chs.length:=fun d hd=>(R0.1.1.2 d hd).1.symm
 have HSP:Hid (smF ds r 10 40=true→ps.nd≤10∧(∀ d∈ds,d.len≤60)∧r.pairs.length≤40∧r.loads.length≤40∧r.caps.length≤40):=Lib.hid (fun h=>by
  obtain⟨h1,h2,h3,h4,h5⟩:=smF_spec (by decide) h
  exact⟨by omega,h2,by omega,by omega,by omega⟩)
 have HVA:=Lib.hid (fun (W:World) (hb:Below w.heap.size w W)=>rvalid_any ps W ds r R0.2 ⟨R0.1.1.keep hb,R0.1.2.keep hb⟩)
 rw[←valid_eq hdl] at HVA
 have HKN:=Lib.hid (fun (W:World) (hb:Below w.heap.size w W)=>known_any W (hT.keep hb))
 have HPB:=Lib.hid (fun (W:World) (hb:Below w.heap.size w W)=>(⟨R0.1.1.keep hb,R0.1.2.keep hb⟩:PrbAt W W.heap.size ps ds r))
 have HDL:=Lib.hid hdl
 have HNL:=Eqn.mk hnl
 have HTW:=Lib.hid hT
 have HND:=Lib.hid R0.2
 obtain⟨P3,e3,hR3⟩:∃ P3 e3,cmpR ds r=(P3,e3):=⟨_,_,rfl⟩
 obtain⟨m3,hm3⟩:∃ m3,P3.length=m3:=⟨_,rfl⟩
 have HCM:=Lib.hid (fun (hd:∀ d∈ds,d.len≤9223372036854775807) (W:World) (hb:Below w.heap.size w W)=>((rcomps_any ps W (HTW.out.keep hb) ds r HND.out hd (HPB.out W hb)).mono (fun e w' hh=>(by
  rw[hR3] at hh
  obtain⟨A,c,cs,h1,h2,h3⟩:=hh
  dsimp only at h2
  have h4:cs.length=m3:=by rw[←hm3,←h2,List.length_map]
  rw[h4] at h1 h3
  exact⟨A,c,cs,h1,h2,h3⟩:∃ A c cs,e=.returned (.tuple #[.slice A m3 c,.int .i64 e3])∧cs.map Prod.snd=P3∧Hp W W w' (.row (.slice A m3 c) 32 1 m3 (cs.map fun x=>sv x.1)::exI cs) []))))
 have HYE:Hid (validP ds r=true→e3=0∧PartsI r P3∧m3≤512):=Lib.hid (fun hv=>by
  unfold cmpR at hR3
  rw[hv] at hR3
  obtain⟨h5,h6⟩:=Prod.mk.inj hR3
  obtain⟨h1,h2,h3⟩:=prij hv
  have hi:(peelF (ds.map Dom.say) r).2.Pairwise (·<·):=by rw[core_list];exact h3.filter _
  have hl:(peelF (ds.map Dom.say) r).2.length≤512:=by
   have h8:=h1.len
   have:=(peel_both (ds.map Dom.say) r).2
   omega
  refine⟨h6.symm,by rw[←h5];exact parts_ok hi hl,?_⟩
  rw[←hm3,←h5,comp_eq (inc_nodup hi),List.length_map]
  exact Nat.le_trans (List.length_filter_le _ _) hl)
 have HPL:=Eqn.mk hm3
 have HLK:=Lib.hid (fun (hp:r.pairs.length≤40∧r.loads.length≤40) (a b:Int) (W:World) (hb:Below w.heap.size w W)=>linked_any ps a b W ds r (by omega) (by omega) (HPB.out W hb))
 clear hR3 hm3
 obtain⟨W0,hW0⟩:∃ W0,W0=w.alloc (.cells #[.slice ps.ad ps.nd ps.cd,.slice ps.rs.a0 ps.rs.n0 ps.rs.c0,.slice ps.rs.a1 ps.rs.n1 ps.rs.c1,.slice ps.rs.a2 ps.rs.n2 ps.rs.c2] 29):=⟨_,rfl⟩
 have HX0:Hid (Blk W0 w.heap.size 29 [.slice ps.ad ps.nd ps.cd,.slice ps.rs.a0 ps.rs.n0 ps.rs.c0,.slice ps.rs.a1 ps.rs.n1 ps.rs.c1,.slice ps.rs.a2 ps.rs.n2 ps.rs.c2]):=Lib.hid (by rw[hW0];exact blk_new w _ _)
 have hB0:Below w.heap.size w W0:=by rw[hW0];exact(Below.refl _ w).alloc (Nat.le_refl _) _
 have HQ:=Lib.hid (fun (W:World) (hb:Below W0.heap.size W0 W)=>(by
  have hx:=HX0.out.keep hb
  exact⟨hx.cell (i:=0) rfl,hx.cell (i:=1) rfl,hx.cell (i:=2) rfl,hx.cell (i:=3) rfl,hx.lt⟩:W.cell? ⟨w.heap.size,0,none⟩=some (.slice ps.ad ps.nd ps.cd)∧W.cell? ⟨w.heap.size,1,none⟩=some (.slice ps.rs.a0 ps.rs.n0 ps.rs.c0)∧W.cell? ⟨w.heap.size,2,none⟩=some (.slice ps.rs.a1 ps.rs.n1 ps.rs.c1)∧W.cell? ⟨w.heap.size,3,none⟩=some (.slice ps.rs.a2 ps.rs.n2 ps.rs.c2)∧w.heap.size<W.heap.size))
 have HB0:=Lib.hid hB0
 have HS0:=Lib.hid (HSM.out W0 hB0)
 obtain⟨q0,q1,q2,q3,q4⟩:=HQ.out W0 (Below.refl _ _)
 unfold PrbS.val at *
 clear R0 hnl hdl hT hB0 HSM
 generalize hsm:smF ds r 10 40=sm at *
 clear hsm
 go_enter Tryz.func4,Tryz.ntmps4
 go_upto_region 1 with fail
 rw[←hW0]
 clear hW0
 go_wp2_with fail
 refine HS0.out.mono ?_
 rintro e W1 ⟨rfl,hb1⟩
 have HF1:=Lib.hid hb1
 have HB1:=Lib.hid (HB0.out.trans (hb1.mono HB0.out.size))
 clear hb1 q0 q1 q2 q3 q4 HS0
 cases sm with
 | false=>
  go_wp2_with fail
  refine(HKN.out _ HB1.out).mono ?_
  rintro e W9 ⟨rfl,hb9⟩
  have HB9:=Lib.hid (Below.trans HB1.out (hb9.mono (Below.size HB1.out)))
  clear hb9
  go_wp2_with fail
  go_ret
  exact⟨rfl,HB9.out⟩
 | true=>
  obtain⟨hn10,hd60,hp40,hl40,hc40⟩:=HSP.out rfl
  have hd6:∀ d∈ds,d.len≤9223372036854775807:=fun d hd=>by have:=hd60 d hd;omega
  replace HCM:=Lib.hid (HCM.out hd6)
  replace HLK:=Lib.hid (HLK.out ⟨hp40,hl40⟩)
  clear hn10 hd60 hp40 hl40 hc40 hd6 HSP
  obtain⟨q0,q1,q2,q3,q4⟩:=HQ.out W1 HF1.out
  generalize validP ds r=vv at *
  go_wp2_with fail
  refine(HVA.out W1 HB1.out).mono ?_
  rintro e W2 ⟨rfl,hb2⟩
  have HF2:=Lib.hid (HF1.out.trans (hb2.mono HF1.out.size))
  have HB2:=Lib.hid (HB1.out.trans (hb2.mono HB1.out.size))
  clear hb2 q0 q1 q2 q3 q4
  obtain⟨q0,q1,q2,q3,q4⟩:=HQ.out W2 HF2.out
  cases vv with
  | false=>
   clear q0 q1 q2 q3 q4
   go_wp2_with fail
   refine(HKN.out _ HB2.out).mono ?_
   rintro e W9 ⟨rfl,hb9⟩
   have HB9:=Lib.hid (Below.trans HB2.out (hb9.mono (Below.size HB2.out)))
   clear hb9
   go_wp2_with fail
   go_ret
   exact⟨rfl,HB9.out⟩
  | true=>
   obtain⟨rfl,hPI,hm3⟩:=HYE.out rfl
   have HPI:=Lib.hid hPI
   clear HYE hPI
   go_wp2_with fail
   refine(HCM.out W2 HB2.out).mono ?_
   rintro e W3 ⟨A3,c3,cs,rfl,hcs,hP⟩
   have hb3:=hP.below
   have HP3:=Lib.hid hP
   have HCS:=Eqn.mk hcs
   clear hcs hP HCM
   have HF3:=Lib.hid (HF2.out.trans (hb3.mono HF2.out.size))
   have HB3:=Lib.hid (HB2.out.trans (hb3.mono HB2.out.size))
   clear hb3 q0 q1 q2 q3 q4
   obtain⟨q0,q1,q2,q3,q4⟩:=HQ.out W3 HF3.out
   clear q0 q1 q2 q3 q4
   go_wp2_with fail
   go_loopw [5] (fun i wr=>∃ k:Nat,i=.int .i64 k∧k≤m3∧Below W3.heap.size W3 wr) (fun i _=>m3 - (intOf i).toNat)
   case atStart=>exact⟨0,rfl,Nat.zero_le _,Below.refl _ _⟩
   case round=>
    obtain⟨i,rfl,hi,hbi⟩:=hrel
    have HBI:=Lib.hid hbi
    by_cases hil:i<m3
    ·have j1:(i:Int)<(m3:Int):=by omega
     obtain⟨⟨⟨aA,an,ac⟩,l⟩,ha⟩:∃ x,cs[i]?=some x:=⟨_,List.getElem?_eq_getElem (by have h1:=HCS.out;have h2:=HPL.out;rw[←h1,List.length_map] at h2;omega)⟩
     obtain⟨g1,d1,f1,_,_,_⟩:=HP3.out.at 0 i rfl (show (cs.map fun x=>sv x.1)[i]?=some (.slice aA an ac) by rw[List.getElem?_map,ha];rfl)
     injection f1 with f1 _ f1c
     subst f1 f1c
     have HRW:=Lib.hid (fun (W:World) (hb:Below W3.heap.size W3 W)=>rows_at (HP3.out.keep hb))
     obtain⟨rfl,_,_⟩:=HRW.out _ (Below.refl _ _) i _ _ _ _ ha
     have hPl:P3[i]?=some l:=by rw[←HCS.out,List.getElem?_map,ha];rfl
     have HPl:=Lib.hid hPl
     have hll:l.length≤512:=HPI.out.le i l hPl
     have HAT:=Lib.hid (fun (W:World) (hb:Below W3.heap.size W3 W)=>(HRW.out W hb i _ _ _ _ ha).2)
     clear ha hPl hbi
     go_wp2_with fail
     obtain⟨wb,rfl⟩:∃ wo:World,wo=wr:=⟨_,rfl⟩
     go_loopw [6] (fun av wr=>∃ a:Nat,av=.int .i64 a∧a≤l.length∧Below W3.heap.size W3 wr) (fun av _=>l.length - (intOf av).toNat)
     case atStart=>exact⟨0,rfl,Nat.zero_le _,HBI.out⟩
     case round=>
      clear HBI
      obtain⟨a,rfl,ha,hba⟩:=hrel
      have HBA:=Lib.hid hba
      by_cases hal:a<l.length
      ·have j2:(a:Int)<(l.length:Int):=by omega
       obtain⟨x,hx⟩:∃ x,l[a]?=some x:=⟨_,List.getElem?_eq_getElem hal⟩
       have HX:=Lib.hid hx
       obtain⟨y1,hra⟩:=HAT.out _ hba
       obtain⟨bA,oA,rfl,_,_⟩:=hra.2 (by omega)
       obtain⟨J,hJ⟩:∃ J:Bool,J=decide (l.length=1):=⟨_,rfl⟩
       have HJ0:Hid (JnI r P3 x l.length 0 (decide (l.length=1))):=Lib.hid ⟨fun h=>by simp[h],fun _ _ hj=>absurd hj (Nat.not_lt_zero _)⟩
       have hJ1:((l.length:Int) == 1)=J:=by rw[hJ];by_cases h:l.length=1<;>simp[h]<;>omega
       rw[←hJ] at HJ0
       clear hba hx hra hJ
       go_wp2_with fail
       obtain⟨wc,rfl⟩:∃ wo:World,wo=wr:=⟨_,rfl⟩
       go_loopw [7,8] (fun jv kv wr=>∃(J:Bool) (k:Nat),jv=.bool J∧kv=.int .i64 k∧k≤m3∧JnI r P3 x l.length k J∧Below W3.heap.size W3 wr) (fun _ kv _=>m3 - (intOf kv).toNat)
       case atStart=>exact⟨_,0,rfl,rfl,Nat.zero_le _,HJ0.out,HBA.out⟩
       case round=>
        clear HJ0 HBA hJ1 y1
        obtain⟨J,k,rfl,rfl,hk,hJn,hbk⟩:=hrel
        have HBK:=Lib.hid hbk
        have HJN:=Lib.hid hJn
        by_cases hkl:k<m3
        ·have j3:(k:Int)<(m3:Int):=by omega
         obtain⟨⟨⟨kA,kn,kc⟩,q⟩,hq⟩:∃ x,cs[k]?=some x:=⟨_,List.getElem?_eq_getElem (by have h1:=HCS.out;have h2:=HPL.out;rw[←h1,List.length_map] at h2;omega)⟩
         obtain⟨rfl,_,_⟩:=HRW.out _ (Below.refl _ _) k _ _ _ _ hq
         have hPq:P3[k]?=some q:=by rw[←HCS.out,List.getElem?_map,hq];rfl
         have HPq:=Lib.hid hPq
         have hql:q.length≤512:=HPI.out.le k q hPq
         have HKT:=Lib.hid (fun (W:World) (hb:Below W3.heap.size W3 W)=>(HRW.out W hb k _ _ _ _ hq).2)
         have HJ1:Hid (JnJ r P3 x l.length k q 0 J):=Lib.hid ⟨hJn,fun _ _ h=>absurd h (Nat.not_lt_zero _)⟩
         clear hq hPq hbk hJn HJN
         go_wp2_with fail
         obtain⟨wd,rfl⟩:∃ wo:World,wo=wr:=⟨_,rfl⟩
         go_loopw [7,9] (fun jv bv wr=>∃(J:Bool) (b:Nat),jv=.bool J∧bv=.int .i64 b∧b≤q.length∧JnJ r P3 x l.length k q b J∧Below W3.heap.size W3 wr) (fun _ bv _=>q.length - (intOf bv).toNat)
         case atStart=>exact⟨_,0,rfl,rfl,Nat.zero_le _,HJ1.out,HBK.out⟩
         case round=>
          clear HJ1 HBK
          obtain⟨J,b,rfl,rfl,hb,hJb,hbb⟩:=hrel
          obtain⟨y3,hrk⟩:=HKT.out _ hbb
          by_cases hbl:b<q.length
          ·have j4:(b:Int)<(q.length:Int):=by omega
           obtain⟨y,hy⟩:∃ y,q[b]?=some y:=⟨_,List.getElem?_eq_getElem hbl⟩
           have HJS:=Lib.hid (hJb.step hy)
           obtain⟨y3,hrk⟩:=HKT.out _ hbb.drew
           obtain⟨bK,oK,rfl,_,hcK⟩:=hrk.2 (by omega)
           obtain⟨y1,hra⟩:=HAT.out _ hbb.drew
           obtain⟨b7,o7,f7,_,hcA⟩:=hra.2 (by omega)
           injection f7 with f7
           injection f7 with f7a f7b
           subst f7a f7b
           have y2:=hcA a x HX.out
           have y4:=hcK b y hy
           simp only[intV] at y2 y4
           have HFB:=Lib.hid (HF3.out.trans (hbb.drew.mono HF3.out.size))
           have HBB:=Lib.hid (HB3.out.trans (hbb.drew.mono HB3.out.size))
           obtain⟨q0,q1,q2,q3,q4⟩:=HQ.out _ HFB.out
           have HLX:=Lib.hid (HLK.out x y _ HBB.out)
           have HEQ:Hid (linkF r x y=true→i=k):=Lib.hid (fun h=>HPI.out.lk i k l q x y HPl.out HPq.out (List.mem_of_getElem? HX.out) (List.mem_of_getElem? hy) h)
           have HBD:=Lib.hid hbb.drew
           generalize linkF r x y=lk at *
           clear hcA hcK hra hrk hbb hJb hy
           go_wp2_with fail
           refine Lx.region (C:=fun _=>True) (hs:=[]) (by kernel_rfl) (by kernel_rfl) trivial ?_
           repeat' (first|((first|refine Lx.ln (fun K hK=>?_) | (first|(refine Lx.lp (v:=?_) ?_ (fun K hK=>?_);rotate_left 1;intro w' hCw;try dsimp only at hCw) | (refine Lx.lr (v:=?_) ?_ (fun K hK=>?_);rotate_left 1));go_simp;first|done | with_reducible rfl);go_simp;refine hK _ ?_;clear hK K) | (refine Lx.le (fun K hK=>?_);go_simp;(first|(go_at_call 19;refine HLX.out.mono ?_;rintro e w4 ⟨rfl,hb4⟩;have HB4:=Lib.hid (HBD.out.trans (hb4.mono HBD.out.size));clear hb4) | skip);refine hK _ _ (trivial) ?_;clear hK K) | (refine Lx.lex_cases rfl rfl rfl (fun hgd K hK=>?_) (fun hgd K hK=>?_)<;>(try simp only[decide_eq_true_eq,decide_eq_false_iff_not] at hgd)<;>(first|(exfalso;omega) | (go_simp;refine hK _ ?_;clear hK K))))
           all_goals (refine Lx.lex_nil ?_)
           clear y1 y2 y3 y4 q0 q1 q2 q3 q4
           cases lk with
           | true=>
            obtain rfl:=HEQ.out rfl
            have e7:((i:Int) != (i:Int))=false:=by simp
            cases J with
            | true=>
             go_wp2_with fail
             go_roundw
             case rel=>exact⟨_,b+1,rfl,by go_num,hbl,HJS.out,HB4.out⟩
             case measure=>simp[intOf];omega
            | false=>
             go_wp2_with fail
             go_roundw
             case rel=>exact⟨_,b+1,rfl,by go_num,hbl,HJS.out,HB4.out⟩
             case measure=>simp[intOf];omega
           | false=>
            cases J with
            | true=>
             go_wp2_with fail
             go_roundw
             case rel=>exact⟨_,b+1,rfl,by go_num,hbl,HJS.out,HB4.out⟩
             case measure=>simp[intOf];omega
            | false=>
             go_wp2_with fail
             go_roundw
             case rel=>exact⟨_,b+1,rfl,by go_num,hbl,HJS.out,HB4.out⟩
             case measure=>simp[intOf];omega
          ·obtain rfl:b=q.length:=by omega
           have j4:¬((q.length:Nat):Int)<(q.length:Int):=by omega
           have HJE:=Lib.hid (hJb.done HPq.out)
           have HBE:=Lib.hid hbb
           clear hrk hbb hJb
           go_wp2_with fail
           go_roundw
           case rel=>exact⟨J,k+1,rfl,by go_num,hkl,HJE.out,HBE.out⟩
           case measure=>simp[intOf];omega
        ·obtain rfl:m3=k:=by omega
         have j3:¬((m3:Nat):Int)<(m3:Int):=by omega
         obtain rfl:J=true:=by have h:=hJn;rw[←HPL.out] at h;exact h.done HPI.out HPl.out (List.mem_of_getElem? HX.out)
         obtain⟨y1,hra⟩:=HAT.out _ hbk.drew
         obtain⟨b7,o7,f7,_,hcA⟩:=hra.2 (by omega)
         injection f7 with f7
         injection f7 with f7a f7b
         subst f7a f7b
         have HBD:=Lib.hid hbk.drew
         have y2:=hcA a x HX.out
         have y3:=hcA 0 (l[0]'(by omega)) (List.getElem?_eq_getElem _)
         simp only[intV,Nat.add_zero] at y2 y3
         generalize hh0:l[0]'(by omega)=x0 at *
         obtain⟨i',hi'⟩:∃ i',i - 1=i':=⟨_,rfl⟩
         obtain⟨a',ha'⟩:∃ a',a - 1=a':=⟨_,rfl⟩
         obtain⟨pA,pc,p,z,z5,z6,z7,z8⟩:∃(pA:Addr) (pc:Nat) (p:List Int) (z:Int),(0<i→wr.drew.cell? ⟨g1,i',none⟩=some (.slice (some pA) p.length pc))∧(0<i→wr.drew.cell? pA=some (.int .i64 z))∧(0<i→0<p.length)∧(0<i→¬x0≤z):=by
          by_cases h0:0<i
          ·obtain⟨⟨⟨pA,pn,pc⟩,p⟩,hp⟩:∃ x,cs[i']?=some x:=⟨_,List.getElem?_eq_getElem (by have h1:=HCS.out;have h2:=HPL.out;rw[←h1,List.length_map] at h2;omega)⟩
           obtain⟨rfl,y5,hrp⟩:=HRW.out _ hbk.drew i' _ _ _ _ hp
           have hPp:P3[i']?=some p:=by rw[←HCS.out,List.getElem?_map,hp];rfl
           have hnp:=HPI.out.ne i' p hPp
           obtain⟨bP,oP,rfl,_,hcP⟩:=hrp.2 (by omega)
           have y6:=hcP 0 (p[0]'hnp) (List.getElem?_eq_getElem _)
           have hlt:=HPI.out.hd i' i p l _ _ hPp HPl.out (by omega) (List.getElem?_eq_getElem hnp) (List.getElem?_eq_getElem (show 0<l.length by omega))
           rw[hh0] at hlt
           exact⟨⟨bP,oP,none⟩,pc,p,p[0]'hnp,fun _=>y5,fun _=>y6,fun _=>hnp,fun _=>by omega⟩
          ·exact⟨⟨0,0,none⟩,0,[],0,fun h=>absurd h h0,fun h=>absurd h h0,fun h=>absurd h h0,fun h=>absurd h h0⟩
         obtain⟨v,v5,v6⟩:∃ v:Int,(0<a→wr.drew.cell? ⟨bA,oA+a',none⟩=some (.int .i64 v))∧(0<a→¬x≤v):=by
          by_cases h0:0<a
          ·have hx2:=HX.out
           obtain⟨h1,h2⟩:=List.getElem?_eq_some_iff.1 hx2
           have h3:=hcA a' (l[a']'(by omega)) (List.getElem?_eq_getElem _)
           have h4:=List.pairwise_iff_getElem.1 (HPI.out.up i l HPl.out) a' a (by omega) h1 (by omega)
           exact⟨l[a']'(by omega),fun _=>h3,fun _=>by omega⟩
          ·exact⟨0,fun h=>absurd h h0,fun h=>absurd h h0⟩
         have Z5:=Lib.hid z5
         have Z6:=Lib.hid z6
         have Z7:=Lib.hid z7
         have Z8:=Lib.hid z8
         have V5:=Lib.hid v5
         have V6:=Lib.hid v6
         have l0:(0:Int)<(l.length:Int):=by omega
         have l1:0<l.length:=by omega
         clear hra hcA hbk hJn HJN z5 z6 z7 z8 v5 v6 hh0
         obtain⟨pb,po,ps'⟩:=pA
         by_cases h0:0<i
         ·have z5:=Z5.out h0
          have z6:=Z6.out h0
          have z7:=Z7.out h0
          have z8:=Z8.out h0
          have k1:decide ((0:Int)<(i:Int))=true:=decide_eq_true (by omega)
          have k5:decide (0<i)=true:=decide_eq_true h0
          have e1:IntKind.i64.wrap ((i:Int) - 1)=(i':Int):=by rw[IntWalk.i64_in _ (by omega)];omega
          have e3:(i:Int) - 1=(i':Int):=by omega
          have e9:IntKind.i64.wrap (i':Int)=(i':Int):=by rw[IntWalk.i64_in _ (by omega)]
          have e4:(0:Int)≤(i':Int):=by omega
          have e5:(i':Int)<(m3:Int):=by omega
          have e6:(0:Int)<(p.length:Int):=by omega
          have e7:decide (x0≤z)=false:=decide_eq_false z8
          by_cases h1:0<a
          ·have v5:=V5.out h1
           have v6:=V6.out h1
           have k2:decide ((0:Int)<(a:Int))=true:=decide_eq_true (by omega)
           have k6:decide (0<a)=true:=decide_eq_true h1
           have s1:IntKind.i64.wrap ((a:Int) - 1)=(a':Int):=by rw[IntWalk.i64_in _ (by omega)];omega
           have s3:(a:Int) - 1=(a':Int):=by omega
           have s9:IntKind.i64.wrap (a':Int)=(a':Int):=by rw[IntWalk.i64_in _ (by omega)]
           have s4:(0:Int)≤(a':Int):=by omega
           have s5:(a':Int)<(l.length:Int):=by omega
           have s7:decide (x≤v)=false:=decide_eq_false v6
           go_wp2_with fail
           refine Lx.region (C:=fun _=>True) (hs:=[]) (by kernel_rfl) (by kernel_rfl) trivial ?_
           repeat' (first|((first|refine Lx.ln (fun K hK=>?_) | (first|(refine Lx.lp (v:=?_) ?_ (fun K hK=>?_);rotate_left 1;intro w' hCw;try dsimp only at hCw) | (refine Lx.lr (v:=?_) ?_ (fun K hK=>?_);rotate_left 1));go_simp;first|done | with_reducible rfl);go_simp;refine hK _ ?_;clear hK K) | (refine Lx.le (fun K hK=>?_);go_simp;(first|fail);refine hK _ _ (trivial) ?_;clear hK K))
           all_goals (refine Lx.lex_nil ?_)
           clear e1 e3 e9 s1 s3 s9
           go_wp2_with fail
           go_roundw
           case rel=>exact⟨a+1,by go_num,hal,HBD.out⟩
           case measure=>simp[intOf];omega
          ·have k2:decide ((0:Int)<(a:Int))=false:=decide_eq_false (by omega)
           have k6:decide (0<a)=false:=decide_eq_false h1
           go_wp2_with fail
           refine Lx.region (C:=fun _=>True) (hs:=[]) (by kernel_rfl) (by kernel_rfl) trivial ?_
           repeat' (first|((first|refine Lx.ln (fun K hK=>?_) | (first|(refine Lx.lp (v:=?_) ?_ (fun K hK=>?_);rotate_left 1;intro w' hCw;try dsimp only at hCw) | (refine Lx.lr (v:=?_) ?_ (fun K hK=>?_);rotate_left 1));go_simp;first|done | with_reducible rfl);go_simp;refine hK _ ?_;clear hK K) | (refine Lx.le (fun K hK=>?_);go_simp;(first|fail);refine hK _ _ (trivial) ?_;clear hK K))
           all_goals (refine Lx.lex_nil ?_)
           clear e1 e3 e9
           go_wp2_with fail
           go_roundw
           case rel=>exact⟨a+1,by go_num,hal,HBD.out⟩
           case measure=>simp[intOf];omega
         ·have k1:decide ((0:Int)<(i:Int))=false:=decide_eq_false (by omega)
          have k5:decide (0<i)=false:=decide_eq_false h0
          by_cases h1:0<a
          ·have v5:=V5.out h1
           have v6:=V6.out h1
           have k2:decide ((0:Int)<(a:Int))=true:=decide_eq_true (by omega)
           have k6:decide (0<a)=true:=decide_eq_true h1
           have s1:IntKind.i64.wrap ((a:Int) - 1)=(a':Int):=by rw[IntWalk.i64_in _ (by omega)];omega
           have s3:(a:Int) - 1=(a':Int):=by omega
           have s9:IntKind.i64.wrap (a':Int)=(a':Int):=by rw[IntWalk.i64_in _ (by omega)]
           have s4:(0:Int)≤(a':Int):=by omega
           have s5:(a':Int)<(l.length:Int):=by omega
           have s7:decide (x≤v)=false:=decide_eq_false v6
           go_wp2_with fail
           refine Lx.region (C:=fun _=>True) (hs:=[]) (by kernel_rfl) (by kernel_rfl) trivial ?_
           repeat' (first|((first|refine Lx.ln (fun K hK=>?_) | (first|(refine Lx.lp (v:=?_) ?_ (fun K hK=>?_);rotate_left 1;intro w' hCw;try dsimp only at hCw) | (refine Lx.lr (v:=?_) ?_ (fun K hK=>?_);rotate_left 1));go_simp;first|done | with_reducible rfl);go_simp;refine hK _ ?_;clear hK K) | (refine Lx.le (fun K hK=>?_);go_simp;(first|fail);refine hK _ _ (trivial) ?_;clear hK K))
           all_goals (refine Lx.lex_nil ?_)
           clear s1 s3 s9
           go_wp2_with fail
           go_roundw
           case rel=>exact⟨a+1,by go_num,hal,HBD.out⟩
           case measure=>simp[intOf];omega
          ·have k2:decide ((0:Int)<(a:Int))=false:=decide_eq_false (by omega)
           have k6:decide (0<a)=false:=decide_eq_false h1
           go_wp2_with fail
           refine Lx.region (C:=fun _=>True) (hs:=[]) (by kernel_rfl) (by kernel_rfl) trivial ?_
           repeat' (first|((first|refine Lx.ln (fun K hK=>?_) | (first|(refine Lx.lp (v:=?_) ?_ (fun K hK=>?_);rotate_left 1;intro w' hCw;try dsimp only at hCw) | (refine Lx.lr (v:=?_) ?_ (fun K hK=>?_);rotate_left 1));go_simp;first|done | with_reducible rfl);go_simp;refine hK _ ?_;clear hK K) | (refine Lx.le (fun K hK=>?_);go_simp;(first|fail);refine hK _ _ (trivial) ?_;clear hK K))
           all_goals (refine Lx.lex_nil ?_)
           go_wp2_with fail
           go_roundw
           case rel=>exact⟨a+1,by go_num,hal,HBD.out⟩
           case measure=>simp[intOf];omega
      ·obtain rfl:a=l.length:=by omega
       have j2:¬((l.length:Nat):Int)<(l.length:Int):=by omega
       obtain⟨y1,_⟩:=HAT.out _ hba
       have hne:=HPI.out.ne i l HPl.out
       clear hba
       by_cases h0:0<i
       ·obtain⟨i',rfl⟩:∃ i',i=i'+1:=⟨i - 1,by omega⟩
        obtain⟨⟨⟨pA,pn,pc⟩,p⟩,hp⟩:∃ x,cs[i']?=some x:=⟨_,List.getElem?_eq_getElem (by have h1:=HCS.out;have h2:=HPL.out;rw[←h1,List.length_map] at h2;omega)⟩
        obtain⟨rfl,y5,_⟩:=HRW.out _ HBA.out i' _ _ _ _ hp
        have hPp:P3[i']?=some p:=by rw[←HCS.out,List.getElem?_map,hp];rfl
        have hnp:=HPI.out.ne i' p hPp
        have k1:(0:Int)<((i'+1:Nat):Int):=by omega
        have e1:IntKind.i64.wrap (((i'+1:Nat):Int) - 1)=(i':Int):=by rw[IntWalk.i64_in _ (by omega)];omega
        have e2:¬((p.length:Nat):Int)=0:=by omega
        have e3:p.length≠0:=by omega
        have e5:(i':Int)<(m3:Int):=by omega
        have e6:((p.length:Int) == 0)=false:=by simpa using e3
        have e7:decide ((0:Int)<((i'+1:Nat):Int))=true:=decide_eq_true k1
        clear hp hPp hnp hne
        go_wp2_with fail
        clear e1
        go_roundw
        case rel=>exact⟨i'+1+1,by go_num,hil,HBA.out⟩
        case measure=>simp[intOf];omega
       ·obtain rfl:i=0:=by omega
        go_wp2_with fail
        go_roundw
        case rel=>exact⟨0+1,by go_num,hil,HBA.out⟩
        case measure=>simp[intOf];omega
    ·obtain rfl:i=m3:=by omega
     have j1:¬((i:Nat):Int)<(i:Int):=by omega
     have HBX:=Lib.hid (HB3.out.trans (HBI.out.mono HB3.out.size))
     clear hbi HBI
     go_wp2_with fail
     refine(HKN.out _ HBX.out).mono ?_
     rintro e W9 ⟨rfl,hb9⟩
     have HB9:=Lib.hid (Below.trans HBX.out (hb9.mono (Below.size HBX.out)))
     clear hb9
     go_wp2_with fail
     go_ret
     exact⟨rfl,HB9.out⟩
theorem reduceApart_lifted (os:Os) (started:os.Started) (H:Type) (enc:TypeId×Value→H):
  ReturnsInHanded {} Tryz.checked os 4 .any (fun w args=>(Rows.reduceApartSpec.pre enc Tryz.prog Tryz.f4 [] false w args∧laidMetH Tryz.prog laid07 w)∧sizedMet enc Tryz.prog Tryz.f4 (OpenSpec.ofChange Rows.reduceApartSpec) false w args) (Rows.reduceApartSpec.post enc Tryz.prog Tryz.f4 false true false false):=by
 refine handed_laid (C:=Tryz.checked) (laid:=laid07) own started (by kernel_rfl) Tryz.func4
  (ChangeSpec.witness_shaped (enc:=enc) (C:=Tryz.checked) (os:=os) (X:=fun w _=>laidMetH Tryz.prog laid07 w) false (World.laidAll Tryz.prog os laid07) #[.agg #[.slice none 0 0,.slice none 0 0,.slice none 0 0,.slice none 0 0]] 8 (World.laidAll_os _ _ _) (World.shaped_of_ZipB (by kernel_rfl) (by kernel_rfl)) (by kernel_rfl) (by kernel_rfl) (by kernel_rfl) (laidHold os _)) ?_
 intro W base args ds gs before hval0 hW hL hsh
 have hTab:=tab_of hL hsh
 have hval:∀(j:Nat) t v,Tryz.f4.params[j]?=some t→args[j]?=some v→Value.okWide Tryz.prog W .any base t v:=hval0
 have hW':=hW
 obtain⟨p,q,hA0,hV,rfl,hfz,hnd⟩:=hW
 have hA:DataW.TrodAll enc Tryz.prog W 0 (fun _=>true) true Tryz.f4.params.toList args.toList ds p:=hA0
 rw[Tryz.params4] at hA hval
 obtain⟨v0,vs0,d0,ds0,p0,q0,hargs,rfl,rfl,h0,r0⟩:=trodAll_cons hA
 obtain⟨rfl,rfl,rfl⟩:=trodAll_nil r0
 obtain rfl:args=#[v0]:=by cases args;simp_all
 obtain⟨rfl,rfl⟩:=trodVars_none hV
 have k0:=h0
 have lt0:∀ x∈p0,x.block<W.heap.size:=by obtain⟨m,hm⟩:=k0;exact DataW.trod_lt m _ _ _ hm
 obtain⟨s0,ds0,x0,rfl,R0⟩:=arg_prb (hval 0 29 _ rfl rfl) h0
 clear hA0 hval0
 refine(reduceApart_walk W hTab s0 ds0 x0 R0).mono fun e W' ⟨he,bel⟩=>?_
 subst he
 exact⟨_,rfl,_,_,_,[],_,[],hW',trodAll_mk1 (shut_bool Tryz.underlying4 _),(trodAll_cons_mk (Below.trod laidOut (by kernel_rfl) (of_decide_eq_true (by kernel_rfl)) k0 bel lt0) trodAll_mk0),rfl,bel.frame _,fun h=>by cases h⟩
theorem reduceApart_over:Rows.reduceApartRow.holds Tryz.pinned (OpenSpec.ofChange Rows.reduceApartSpec):=
 OpenClaim.holds_of_wide 4 Tryz.f4 rfl rfl rfl rfl rfl rfl rfl ⟨rfl,rfl,rfl,rfl,rfl⟩ rfl rfl rfl rfl rfl (by kernel_rfl) Tryz.func4 (by kernel_rfl)
  (of_decide_eq_true (by kernel_rfl)) (by unfold Func.isWrapper;first|(rw[if_pos (by decide +kernel)];kernel_rfl) | (rw[if_neg (by decide +kernel)];exact⟨rfl,rfl⟩))
  (fun os started H enc _=>reduceApart_lifted os started H enc)
theorem reduceApartCard_holds:Rows.ReduceApartCardSaid:=
 Claim7.holds_tied_plain_at .later [] [.data] true (true, "60866ed61efe1440238383c15dd6059d6e8c591d87e8f8b121f25048c3dbf775") false
  reduceApart_over (fun _ h=>by cases h) (by kernel_rfl) (fun _ h=>by cases h) reduceApart_row_tie rfl ⟨rfl,rfl⟩ (by kernel_rfl) rfl
  (fun f fn hf hfn=>by
   obtain rfl : f = 4 := Option.some.inj ((show Tryz.prog.funcNamed "bandplan/bandplanlaw19.ReduceApart" = some 4 by kernel_rfl).symm.trans hf) |>.symm
   obtain rfl:fn=Tryz.f4:=(Option.some.inj (Tryz.func4.symm.trans hfn)).symm
   exact⟨by kernel_rfl,fun j t ht=>by
    rw[Tryz.params4] at ht
    rcases j with _ | j
    ·obtain rfl:t=29:=by simpa using ht.symm
     exact(show Tryz.prog.wantsStandIn 29=false by kernel_rfl)
    ·simp at ht⟩)
  (by kernel_rfl)
#print axioms reduceApartCard_holds
end Go.Proofs.YtjakdikhdndlgaaGreatDoor
