/- The reference of layer 19: Extend. -/
import Derived.Test.YtjakdikhdndlgaaGreatDoorBas16
set_option maxRecDepth 100000
set_option maxHeartbeats 40000000
namespace Go.Proofs.YtjakdikhdndlgaaGreatDoor
open Go.RowKit
theorem rhas_any (A:Option Addr) (n c:Nat) (x:Int) (w:World) (l:List Int) (hn:n≤9223372036854775807) (hl:Row1 intV w w.heap.size A n l):
  Calls Tryz.prog 15 #[.slice A n c,.int .i64 x] w fun e w'=>e=.returned (.bool (hasL l x))∧w=w':=by
 have Hl:=Lib.hid hl
 have Hlen:=Eqn.mk hl.1
 clear hl
 go_enter Tryz.func15,Tryz.ntmps15
 go_wp2_with fail
 go_loopw [5] (fun i wr=>∃ k:Nat,k≤n∧i=.int .i64 k∧Eqn (hasL l x) (hasL (l.drop k) x)∧w=wr) (fun i _=>n - (intOf i).toNat)
 case atStart=>exact⟨0,Nat.zero_le _,rfl,rfl,rfl⟩
 case round=>
  obtain⟨k,hk,rfl,HR,rfl⟩:=hrel
  by_cases hlt:k<n
  ·obtain⟨p,hp,hpd⟩:=drop_at (xs:=l) (k:=k) (by rw[Hlen.out];exact hlt)
   obtain⟨b,off,hA,hbl,hc⟩:=Hl.out.2 (by omega)
   subst hA
   have c0:=hc k p hp
   simp only[intV] at c0
   have HR2:=HR.out
   rw[hpd,hasL] at HR2
   have HRR:=Eqn.mk HR2
   have j0:(k:Int)<(n:Int):=by omega
   clear hc hp hpd HR HR2
   by_cases he:p=x
   ·have HE:=Eqn.mk (HRR.out.trans (if_pos he))
    have hd:(p == x)=true:=by simpa using he
    clear HRR he
    go_wp2_with fail
    go_ret
    exact⟨ret_bool HE.out.symm,rfl⟩
   ·have HE:=Eqn.mk (HRR.out.trans (if_neg he))
    have hd:(p == x)=false:=by simpa using he
    clear HRR he
    go_wp2_with fail
    go_roundw
    case rel=>exact⟨k+1,by omega,by go_num,HE,trivial⟩
    case measure=>simp[intOf];omega
  ·obtain rfl:k=n:=by omega
   go_wp2_with fail
   go_ret
   exact⟨ret_bool (by rw[HR.out,drop_end (by rw[Hlen.out];omega)];rfl),rfl⟩
theorem rstations_any (s:PrbS) (w:World) (ds:List Dom) (hn:s.nd≤100000) (hl:RowS 2 Dom.cell w w.heap.size s.ad s.nd ds):
  Calls Tryz.prog 53 #[s.val] w (NewInts (ds.map Dom.st) w):=by
 obtain⟨A,n,c,⟨A0,n0,c0,A1,n1,c1,A2,n2,c2⟩⟩:=s
 obtain⟨i0,hi,hz0,hz1,hz2⟩:=info_parts int_info
 obtain⟨W0,hW0⟩:∃ W0,W0=w.alloc (.cells #[.slice A n c,.slice A0 n0 c0,.slice A1 n1 c1,.slice A2 n2 c2] 29):=⟨_,rfl⟩
 have hB0:Below w.heap.size w W0:=by rw[hW0];exact(Below.refl _ w).alloc (Nat.le_refl _) _
 have hs0:W0.heap.size=w.heap.size+1:=by rw[hW0];simp
 have hX:Blk W0 w.heap.size 29 [.slice A n c,.slice A0 n0 c0,.slice A1 n1 c1,.slice A2 n2 c2]:=by rw[hW0];exact blk_new w _ _
 have HQ:Hid (∀ W,Below W0.heap.size W0 W→W.cell? ⟨w.heap.size,0,none⟩=some (.slice A n c)∧w.heap.size<W.heap.size):=Lib.hid (fun W hb=>⟨(hX.keep hb).cell rfl,by have:=hb.size;omega⟩)
 dsimp only at hn hl
 have Hl:=Lib.hid (hl.keep hB0)
 have Hlen:=Eqn.mk hl.1
 have HB0:=Lib.hid hB0
 unfold PrbS.val
 dsimp only
 clear hl hB0 hX
 go_enter Tryz.func53,Tryz.ntmps53
 go_upto_region 1 with fail
 rw[←hW0]
 clear hW0
 go_wp2_with fail
 go_loopw [3,4] (fun v i wr=>∃ k:Nat,k≤n∧i=.int .i64 k∧wr.ownsRow W0.heap.size 3 1 v k (((ds.take k).map Dom.st).map intV)∧Below W0.heap.size W0 wr) (fun _ i _=>n - (intOf i).toNat)
 case atStart=>exact⟨0,Nat.zero_le _,rfl,World.ownsRow_nil _ _ _ _,Below.refl _ _⟩
 case round=>
  obtain⟨k,hk,rfl,hO,hB⟩:=hrel
  have hbs:=hB.size
  obtain⟨q0,q1⟩:=HQ.out _ hB
  by_cases hlt:k<n
  ·obtain⟨p,hp,_⟩:=drop_at (xs:=ds) (k:=k) (by rw[Hlen.out];exact hlt)
   obtain⟨b,off,hA,hbl,hc⟩:=(Hl.out.below hB).2 (by omega)
   subst hA
   have c0:=hc k p hp 0 (by omega)
   simp only[Dom.cell,Nat.add_zero] at c0
   have HT:Eqn (((ds.take (k+1)).map Dom.st).map intV) (((ds.take k).map Dom.st).map intV++[.int .i64 p.st]):=by rw[Eqn,List.take_add_one,hp];simp[intV]
   have H1:=Lib.hid (And.intro hO hB)
   have j0:(k:Int)<(n:Int):=by omega
   have hbw:b<wr.heap.size:=by omega
   obtain⟨A1',c1',rfl,_⟩:=row1_of_own hO
   clear hc hp hO hB
   go_wp2_with (at_builtin;refine wpList_append_own_at _ rfl _ _ 32 rfl W0.heap.size 3 i0 (.int .i64 0) 1 8 Tryz.underlying32 hi hz0 hz1 hz2 rfl (by decide) _ _ _ rfl (H1.out.1.alloc _) ⟨wr.heap.size,0,none⟩ 1 1 [.int .i64 p.st] rfl rfl (cell_one_new _ _ _) (by simp[Value.oneCell']) (by unfold maxLen;omega) (by omega) (by simp;omega) ?_;intro v' w3 hown' hgrow hnil hat;have H3:Hid (w3.ownsRow W0.heap.size 3 1 v' (k+1) (((ds.take k).map Dom.st).map intV++[.int .i64 p.st])∧Below W0.heap.size W0 w3):=Lib.hid ⟨hown',(H1.out.2.alloc (by omega) _).grown hgrow (by simp;omega) (fun g hg=>own_ge H1.out.1 g hg)⟩;clear hown' hgrow hnil hat)
   go_roundw
   case rel=>exact⟨k+1,by omega,by go_num,by rw[HT.out];exact H3.out.1,H3.out.2⟩
   case measure=>simp[intOf];omega
  ·obtain rfl:k=n:=by omega
   have hT:ds.take k=ds:=List.take_of_length_le (by rw[Hlen.out];omega)
   rw[hT] at hO
   have HE:=Lib.hid (And.intro hO hB)
   clear hO hB
   go_wp2_with fail
   go_ret
   exact⟨_,rfl,by rw[List.length_map,Hlen.out];exact own_low HE.out.1 (by omega),HB0.out.trans (HE.out.2.mono (by omega))⟩
theorem filter_ne_len {l:List Int} {s:Int} (h:s∈l):(l.filter fun x=>!decide (x=s)).length<l.length:=by
 rw[List.length_filter_lt_length_iff_exists]
 exact⟨s,h,by simp⟩
end Go.Proofs.YtjakdikhdndlgaaGreatDoor
namespace Go.Proofs.YtjakdikhdndlgaaGreatDoor
open Go.RowKit Go.Shelf
theorem sum_snoc {f:Int→Nat} {l:List Int} {k:Nat} {x:Int} (h:l[k]?=some x):((l.take (k+1)).map f).sum=((l.take k).map f).sum+f x:=by
 rw[List.take_add_one,h,Option.toList_some,List.map_append,List.sum_append];simp
theorem sum_le_mul (f:Int→Nat) (b:Nat):∀ l:List Int,(∀ x∈l,f x≤b)→(l.map f).sum≤b * l.length
 | [],_=>by simp
 | x::q,h=>by
  rw[List.map_cons,List.sum_cons,List.length_cons,Nat.mul_succ]
  have:=sum_le_mul f b q (fun y hy=>h y (List.mem_cons_of_mem _ hy))
  have:=h x (List.mem_cons_self ..)
  omega
theorem refeasy_any (ps:PrbS) (A:Option Addr) (n c:Nat) (set:List Int) (s:Int) (w:World) (ds:List Dom) (r:Rul) (hn:ps.nd≤100000) (hpl:r.pairs.length≤100000) (hll:r.loads.length≤100000) (hcl:r.caps.length≤100000) (hch:∀ d∈ds,d.chs.length≤1000) (hm:n≤1000) (hset:∀ x∈set,x∈ds.map Dom.st) (hs:s∈ds.map Dom.st) (h:PrbAt w w.heap.size ps ds r) (hA:Row1 intV w w.heap.size A n set):
  Calls Tryz.prog 54 #[ps.val,.slice A n c,.int .i64 s] w (RetPost (.bool (easyF (ds.map Dom.say) r set s)) w.heap.size w):=by
 have HBK:=Lib.hid (fun (t:Int) (ht:t∈ds.map Dom.st) (W:World) (hb:Below w.heap.size w W)=>refblocks_any ps s t W ds r hn hpl hll hcl hch hs ht ⟨h.1.keep hb,h.2.keep hb⟩)
 obtain⟨i,di,hi1,hi2,hi3,hi4⟩:=findD_ex s ds 0 hs
 have hi2:findD s 0 ds=(i:Int):=by rw[hi2];simp
 have HFS:=Lib.hid (fun (W:World) (hb:Below w.heap.size w W)=>rfind_any ps s W ds (by omega) (h.1.keep hb))
 rw[hi2] at HFS
 have hdl:ds.length=ps.nd:=h.1.1.1
 have k0:(i:Int)<(ps.nd:Int):=by have:=(List.getElem?_eq_some_iff.1 hi1).1;omega
 have HRI:=Lib.hid (h.1.2 di (List.mem_of_getElem? hi1))
 have hil:di.len≤1000:=by have:=HRI.out.1;have:=hch di (List.mem_of_getElem? hi1);omega
 have HBL:Hid (∀ x,blN (ds.map Dom.say) r s x≤1000):=Lib.hid (fun x=>Nat.le_trans (blk_le _ _ _ _) (by rw[hi4];exact hch di (List.mem_of_getElem? hi1)))
 have HEF:Hid (easyF (ds.map Dom.say) r set s=decide ((set.map (blN (ds.map Dom.say) r s)).sum<di.len)):=Lib.hid (by unfold easyF;rw[hi4,HRI.out.1])
 obtain⟨R,hR⟩:∃ R,R=easyF (ds.map Dom.say) r set s:=⟨_,rfl⟩
 rw[←hR] at HEF ⊢
 obtain⟨bD,oD,hAD,hbD,hcD⟩:=h.1.1.2 (by omega)
 have m1:w.cell? ⟨bD,oD+i * 2+1,none⟩=some (.slice di.adr di.len di.cap):=hcD i di hi1 1 (by decide)
 obtain⟨Ad,nd,cd,⟨A0,n0,c0,A1,n1,c1,A2,n2,c2⟩⟩:=ps
 obtain rfl:Ad=some ⟨bD,oD,none⟩:=hAD
 unfold PrbS.val at *
 dsimp only at HBK HFS k0 hn hbD hdl ⊢
 obtain⟨ist,iA,il,ic,iC⟩:=di
 dsimp only at HRI hil HEF m1
 have HSE:=Lib.hid hset
 have HA:=Lib.hid hA
 have HAL:=Eqn.mk hA.1
 generalize blN (ds.map Dom.say) r s=B at *
 clear h hs hi1 hi2 hi3 hi4 hR hcD hdl hch hpl hll hcl hset hA
 obtain⟨W0,hW0⟩:∃ W0,W0=w.alloc (.cells #[.slice (some ⟨bD,oD,none⟩) nd cd,.slice A0 n0 c0,.slice A1 n1 c1,.slice A2 n2 c2] 29):=⟨_,rfl⟩
 have hB0:Below w.heap.size w W0:=by rw[hW0];exact(Below.refl _ w).alloc (Nat.le_refl _) _
 have HX0:Hid (Blk W0 w.heap.size 29 [.slice (some ⟨bD,oD,none⟩) nd cd,.slice A0 n0 c0,.slice A1 n1 c1,.slice A2 n2 c2]):=Lib.hid (by rw[hW0];exact blk_new w _ _)
 have HB0:=Lib.hid hB0
 have HM:=Lib.hid (fun (W:World) (hb:Below w.heap.size w W)=>(hb.cell (p:=⟨bD,oD+i * 2+1,none⟩) hbD).trans m1)
 have HQ:=Lib.hid (fun (W:World) (hb:Below W0.heap.size W0 W)=>(by
  have hx:=HX0.out.keep hb
  exact⟨hx.cell (i:=0) rfl,hx.cell (i:=1) rfl,hx.cell (i:=2) rfl,hx.cell (i:=3) rfl,hx.lt⟩:W.cell? ⟨w.heap.size,0,none⟩=some (.slice (some ⟨bD,oD,none⟩) nd cd)∧W.cell? ⟨w.heap.size,1,none⟩=some (.slice A0 n0 c0)∧W.cell? ⟨w.heap.size,2,none⟩=some (.slice A1 n1 c1)∧W.cell? ⟨w.heap.size,3,none⟩=some (.slice A2 n2 c2)∧w.heap.size<W.heap.size))
 clear hB0 m1
 go_enter Tryz.func54,Tryz.ntmps54
 go_upto_region 2 with fail
 rw[←hW0]
 clear hW0
 go_wp2_with fail
 go_loopw [7,8] (fun mv iv wr=>∃(k M:Nat),k≤n∧iv=.int .i64 k∧mv=.int .i64 (M:Nat)∧Eqn M ((set.take k).map B).sum∧Below W0.heap.size W0 wr) (fun _ iv _=>n - (intOf iv).toNat)
 case atStart=>exact⟨0,0,Nat.zero_le _,rfl,rfl,rfl,Below.refl _ _⟩
 case round=>
  obtain⟨k,M,hk,rfl,rfl,HM0,hb⟩:=hrel
  have HBW:=Lib.hid hb
  have hMl:M≤1000000:=by
   have h1:=HM0.out
   have h2:=sum_le_mul B 1000 (set.take k) (fun x _=>HBL.out x)
   rw[List.length_take] at h2
   omega
  have HWB:=Lib.hid (HB0.out.trans (hb.mono HB0.out.size))
  obtain⟨q0,q1,q2,q3,q4⟩:=HQ.out wr hb
  by_cases hkl:k<n
  ·have j0:(k:Int)<(n:Int):=by omega
   obtain⟨x,hx⟩:∃ x,set[k]?=some x:=⟨_,List.getElem?_eq_getElem (by have:=HAL.out;omega)⟩
   have HMS:=Lib.hid (sum_snoc (f:=B) hx)
   obtain⟨b5,o5,rfl,hb5,hc5⟩:=(HA.out.keep HWB.out).2 (by omega)
   have e5:wr.cell? ⟨b5,o5+k,none⟩=some (.int .i64 x):=hc5 k x hx
   have HCB:=Lib.hid (HBK.out x (HSE.out x (List.mem_of_getElem? hx)) wr.drew HWB.out.drew)
   have hBx:=HBL.out x
   generalize B x=y at *
   have f1:IntKind.i64.wrap ((M:Int)+(y:Int))=(M:Int)+(y:Int):=IntWalk.i64_in _ (by omega)
   clear hb hx hc5
   go_wp2_with fail
   refine Lx.region (C:=fun _=>True) (hs:=[]) (by kernel_rfl) (by kernel_rfl) trivial ?_
   repeat' (first|((first|refine Lx.ln (fun K hK=>?_) | (first|(refine Lx.lp (v:=?_) ?_ (fun K hK=>?_);rotate_left 1;intro w' hCw;try dsimp only at hCw) | (refine Lx.lr (v:=?_) ?_ (fun K hK=>?_);rotate_left 1));go_simp;first|done | with_reducible rfl);go_simp;refine hK _ ?_;clear hK K) | (refine Lx.le (fun K hK=>?_);go_simp;(first|(go_at_call 22;refine HCB.out.mono ?_;rintro e w4 ⟨rfl,hb4⟩;have HB4:=Lib.hid (HBW.out.drew.trans (hb4.mono HBW.out.drew.size));clear hb4) | skip);refine hK _ _ (trivial) ?_;clear hK K) | (refine Lx.lex_cases rfl rfl rfl (fun hgd K hK=>?_) (fun hgd K hK=>?_)<;>(try simp only[decide_eq_true_eq,decide_eq_false_iff_not] at hgd)<;>(first|(exfalso;omega) | (go_simp;refine hK _ ?_;clear hK K))))
   all_goals (refine Lx.lex_nil ?_)
   clear e5 q0 q1 q2 q3 q4 f1
   go_wp2_with fail
   go_roundw
   case rel=>exact⟨k+1,M+y,hkl,by go_num,rfl,by rw[Eqn,HMS.out,HM0.out],HB4.out⟩
   case measure=>simp[intOf];omega
  ·obtain rfl:k=n:=by omega
   have j0:¬((k:Nat):Int)<(k:Int):=by omega
   have HRE:Hid (R=decide (M<il)):=Lib.hid (by
    have e1:(set.map B).sum=M:=by rw[HM0.out,List.take_of_length_le (by rw[HAL.out];exact Nat.le_refl _)]
    rw[HEF.out,e1])
   have HDR:=Lib.hid (HWB.out.drew)
   have HDR0:=Lib.hid (HBW.out.drew)
   have HFC:=Lib.hid (HFS.out wr.drew HWB.out.drew)
   clear hb HM0
   go_wp2_with fail
   refine Lx.region (C:=fun Z=>Z.cell? ⟨w.heap.size,0,none⟩=some (.slice (some ⟨bD,oD,none⟩) nd cd)) (hs:=[2]) (by kernel_rfl) (by kernel_rfl) q0 ?_
   repeat' (first|((first|refine Lx.ln (fun K hK=>?_) | (first|(refine Lx.lp (v:=?_) ?_ (fun K hK=>?_);rotate_left 1;intro w' hCw;try dsimp only at hCw) | (refine Lx.lr (v:=?_) ?_ (fun K hK=>?_);rotate_left 1));go_simp;first|done | with_reducible rfl);go_simp;refine hK _ ?_;clear hK K) | (refine Lx.le (fun K hK=>?_);go_simp;(first|(go_at_call 21;refine HFC.out.mono ?_;rintro e w4 ⟨rfl,hb4⟩;have HB4:=Lib.hid (HDR.out.trans (hb4.mono HDR.out.size));have z1:=HM.out _ HB4.out;obtain⟨y0,y1,y2,y3,y4⟩:=HQ.out _ (HDR0.out.trans (hb4.mono HDR0.out.size));clear hb4) | skip);refine hK _ _ (by first|exact q0 | exact y0) ?_;clear hK K) | (refine Lx.lex_cases rfl rfl rfl (fun hgd K hK=>?_) (fun hgd K hK=>?_)<;>(try simp only[decide_eq_true_eq,decide_eq_false_iff_not] at hgd)<;>(first|(exfalso;omega) | (go_simp;refine hK _ ?_;clear hK K))))
   all_goals (refine Lx.lex_nil ?_)
   go_wp2_with fail
   go_ret
   exact⟨ret_bool (by rw[HRE.out]),HB4.out⟩
theorem refwithout_any (A:Option Addr) (n c:Nat) (x:Int) (w:World) (l:List Int) (hn:n≤100000) (hl:Row1 intV w w.heap.size A n l):
  Calls Tryz.prog 55 #[.slice A n c,.int .i64 x] w (NewInts (l.filter fun y=>!decide (y=x)) w):=by
 obtain⟨i0,hi,hz0,hz1,hz2⟩:=info_parts int_info
 have Hl:=Lib.hid hl
 have Hlen:=Eqn.mk hl.1
 clear hl
 go_enter Tryz.func55,Tryz.ntmps55
 go_wp2_with fail
 go_loopw [5,6] (fun v i wr=>∃ k:Nat,k≤n∧i=.int .i64 k∧Hp w w wr [.row v 3 1 ((l.take k).filter fun y=>!decide (y=x)).length (((l.take k).filter fun y=>!decide (y=x)).map intV)] []) (fun _ i _=>n - (intOf i).toNat)
 case atStart=>exact⟨0,Nat.zero_le _,rfl,(Hp.start w).nil 3 1⟩
 case round=>
  obtain⟨k,hk,rfl,hP⟩:=hrel
  have HP:=Lib.hid hP
  obtain⟨A1,c1,rfl⟩:=hP.form 0 rfl
  by_cases hlt:k<n
  ·have j0:(k:Int)<(n:Int):=by omega
   obtain⟨y,hy⟩:∃ y,l[k]?=some y:=⟨_,List.getElem?_eq_getElem (by rw[Hlen.out];exact hlt)⟩
   have HSU:Hid ((l.take (k+1)).filter (fun y=>!decide (y=x))=(l.take k).filter (fun y=>!decide (y=x))++if (!decide (y=x))=true then [y] else []):=Lib.hid (by rw[List.take_add_one,hy,Option.toList_some,List.filter_append];simp[List.filter_cons])
   have hOl:((l.take k).filter fun y=>!decide (y=x)).length≤k:=Nat.le_trans (List.length_filter_le _ _) (by rw[List.length_take];omega)
   obtain⟨b,off,rfl,hbw,hcell⟩:=(Hl.out.below hP.below).2 (by omega)
   have y0:wr.cell? ⟨b,off+k,none⟩=some (.int .i64 y):=hcell k y hy
   generalize (l.take k).filter (fun y=>!decide (y=x))=O at *
   clear hP hy hcell hbw
   by_cases he:y=x
   ·have d0:((y:Int) != (x:Int))=false:=by simp[he]
    have HS2:=Eqn.mk (show (l.take (k+1)).filter (fun y=>!decide (y=x))=O by rw[HSU.out,if_neg (by simp[he]),List.append_nil])
    clear HSU he
    go_wp2_with fail
    go_roundw
    case rel=>exact⟨k+1,hlt,by go_num,by rw[HS2.out];exact HP.out⟩
    case measure=>simp[intOf];omega
   ·have d0:((y:Int) != (x:Int))=true:=by simp[he]
    have HS2:=Eqn.mk (show (l.take (k+1)).filter (fun y=>!decide (y=x))=O++[y] by rw[HSU.out,if_pos (by simp[he])])
    clear HSU he
    go_wp2_with (at_builtin;refine wpList_append_own_at _ rfl _ _ 32 rfl w.heap.size 3 i0 (.int .i64 0) 1 8 Tryz.underlying32 hi hz0 hz1 hz2 rfl (by decide) _ _ _ rfl ((HP.out.row 0 rfl).alloc _) ⟨wr.heap.size,0,none⟩ 1 1 [.int .i64 (y)] rfl rfl (cell_one_new _ _ _) (by simp[Value.oneCell']) (by unfold maxLen;omega) (by omega) (by have:=HP.out.below.size;simp;omega) ?_;intro v6 w6 hown' hgrow _ hat;have HP6:=Lib.hid ((HP.out.alloc0 _).grow 0 rfl hgrow hown' hat);obtain⟨A6,cp6,rfl⟩:=HP6.out.form 0 rfl;clear hown' hgrow hat)
    go_roundw
    case rel=>exact⟨k+1,hlt,by go_num,by rw[HS2.out,List.map_append,List.length_append];exact HP6.out.sub (by simp[intV])⟩
    case measure=>simp[intOf];omega
  ·obtain rfl:k=n:=by omega
   rw[List.take_of_length_le (by rw[Hlen.out];exact Nat.le_refl _)] at hP ⊢
   have HP:=Lib.hid hP
   clear hP
   go_wp2_with fail
   go_ret
   exact⟨_,rfl,HP.out.row 0 rfl,HP.out.below⟩
structure PzI (D:Dms) (r:Rul) (out set:List Int) (b:Bool):Prop where
 sub:∀ x∈set,x∈D.map Prod.fst
 len:out.length+set.length≤D.length
 go:b=true→∃ f,set.length≤f∧peelF D r=peelG D r f out set
 done:b=false→peelF D r=(out,set)
theorem PzI.start (D:Dms) (r:Rul):PzI D r [] (D.map Prod.fst) true:=
 ⟨fun _ h=>h,by simp,fun _=>⟨D.length,by rw[List.length_map];exact Nat.le_refl _,rfl⟩,fun h=>by cases h⟩
theorem PzI.no {D:Dms} {r:Rul} {out set:List Int} (h:PzI D r out set true) (hn:∀ x∈set,easyF D r set x=false):PzI D r out set false:=by
 obtain⟨f,_,hf⟩:=h.go rfl
 exact⟨h.sub,h.len,fun e=>(by cases e),fun _=>by rw[hf,peelG_none hn]⟩
theorem find_at {p:Int→Bool} {l:List Int} {k:Nat} {s:Int} (hk:l[k]?=some s) (hn:∀ x∈l.take k,p x=false) (he:p s=true):l.find? p=some s:=by
 obtain⟨h1,h2⟩:=List.getElem?_eq_some_iff.1 hk
 rw[←List.take_append_drop k l,List.drop_eq_getElem_cons h1,h2,List.find?_append,List.find?_eq_none.2 (fun x hx=>by rw[hn x hx];simp),Option.none_or,List.find?_cons,he]
theorem PzI.take {D:Dms} {r:Rul} {out set:List Int} (h:PzI D r out set true) {k:Nat} {s:Int} (hk:set[k]?=some s) (hn:∀ x∈set.take k,easyF D r set x=false) (he:easyF D r set s=true):PzI D r (out++[s]) (set.filter fun y=>!decide (y=s)) true∧(set.filter fun y=>!decide (y=s)).length<set.length:=by
 obtain⟨f,hf1,hf⟩:=h.go rfl
 have hm:=List.mem_of_getElem? hk
 have hl:=filter_ne_len hm
 have h0:=h.len
 obtain⟨f,rfl⟩:∃ q,f=q+1:=⟨f - 1,by have:=List.length_pos_of_mem hm;omega⟩
 refine⟨⟨fun x hx=>h.sub x (List.mem_filter.1 hx).1,by rw[List.length_append];simp only[List.length_singleton];omega,fun _=>⟨f,by omega,?_⟩,fun e=>(by cases e)⟩,hl⟩
 rw[hf,peelG,find_at hk hn he]
theorem take_ff {p:Int→Bool} {l:List Int} {k:Nat} {s:Int} (hk:l[k]?=some s) (hn:∀ x∈l.take k,p x=false) (he:p s=false):∀ x∈l.take (k+1),p x=false:=fun x hx=>by
 rw[List.take_add_one,hk,Option.toList_some] at hx
 rcases List.mem_append.1 hx with h | h
 ·exact hn x h
 ·rw[List.mem_singleton] at h;subst h;exact he
def PeelRet (L1 L2:List Int) (w:World) (e:Ending) (w':World):Prop:=∃ v1 v2,e=.returned (.tuple #[v1,v2])∧w'.ownsRow w.heap.size 3 1 v1 L1.length (L1.map intV)∧w'.ownsRow w.heap.size 3 1 v2 L2.length (L2.map intV)∧Below w.heap.size w w'
theorem refpeel_any (ps:PrbS) (w:World) (ds:List Dom) (r:Rul) (hn:ps.nd≤1000) (hpl:r.pairs.length≤100000) (hll:r.loads.length≤100000) (hcl:r.caps.length≤100000) (hch:∀ d∈ds,d.chs.length≤1000) (h:PrbAt w w.heap.size ps ds r):
  Calls Tryz.prog 23 #[ps.val] w (PeelRet (peelF (ds.map Dom.say) r).1 (peelF (ds.map Dom.say) r).2 w):=by
 have hnl:ds.length=ps.nd:=h.1.1.1
 have HES:=Lib.hid (fun (A:Option Addr) (n c:Nat) (set:List Int) (s:Int) (W:World) (hb:Below w.heap.size w W) (hm:n≤1000) (hset:∀ x∈set,x∈(ds.map Dom.say).map Prod.fst) (hs:s∈(ds.map Dom.say).map Prod.fst) (hA:Row1 intV W W.heap.size A n set)=>refeasy_any ps A n c set s W ds r (by omega) hpl hll hcl hch hm (by rw[say_st] at hset;exact hset) (by rw[say_st] at hs;exact hs) ⟨h.1.keep hb,h.2.keep hb⟩ hA)
 have HSTN:=Lib.hid (fun (W:World) (hb:Below w.heap.size w W)=>rstations_any ps W ds (by omega) (h.1.keep hb).1)
 rw[←say_st] at HSTN
 have hDl:(ds.map Dom.say).length≤1000:=by rw[List.length_map];omega
 obtain⟨i0,hi,hz0,hz1,hz2⟩:=info_parts int_info
 generalize ds.map Dom.say=D at *
 obtain⟨Ad,nd,cd,⟨A0,n0,c0,A1,n1,c1,A2,n2,c2⟩⟩:=ps
 unfold PrbS.val at *
 dsimp only at HES HSTN ⊢
 obtain⟨L0,hL0⟩:∃ L0,L0=D.map Prod.fst:=⟨_,rfl⟩
 have HI0:Hid (PzI D r [] L0 true):=Lib.hid (by rw[hL0];exact PzI.start D r)
 rw[←hL0] at HSTN
 clear h hn hpl hll hcl hch hnl hL0
 obtain⟨W0,hW0⟩:∃ W0,W0=w.alloc (.cells #[.slice Ad nd cd,.slice A0 n0 c0,.slice A1 n1 c1,.slice A2 n2 c2] 29):=⟨_,rfl⟩
 have hP0:=(Hp.start w).alloc [.slice Ad nd cd,.slice A0 n0 c0,.slice A1 n1 c1,.slice A2 n2 c2] 29
 rw[show ([.slice Ad nd cd,.slice A0 n0 c0,.slice A1 n1 c1,.slice A2 n2 c2]:List Value).toArray=#[.slice Ad nd cd,.slice A0 n0 c0,.slice A1 n1 c1,.slice A2 n2 c2] from rfl,←hW0] at hP0
 have hP0:=hP0.nil 3 1
 have HP0:=Lib.hid hP0
 have q0:=hP0.c 0 0 rfl rfl
 have q1:=hP0.c 0 1 rfl rfl
 have q2:=hP0.c 0 2 rfl rfl
 have q3:=hP0.c 0 3 rfl rfl
 have q4:=hP0.lt 0 rfl
 clear hP0
 go_enter Tryz.func23,Tryz.ntmps23
 go_upto_region 2 with fail
 rw[←hW0]
 clear hW0
 go_wp2_with fail
 refine(HSTN.out _ HP0.out.below).mono ?_
 rintro e W1 ⟨v5,rfl,hown,hb1⟩
 have hP1:=HP0.out.pushRow hb1 hown
 obtain⟨A5,c5,rfl⟩:=hP1.form 2 rfl
 have HP1:=Lib.hid hP1
 clear hown hb1 hP1 HP0 HSTN q0 q1 q2 q3 q4
 go_wp2_with fail
 go_loopw [4,5,6] (fun ov sv av wr=>∃(out set:List Int) (b:Bool),av=.bool b∧PzI D r out set b∧Hp w w wr [.blk w.heap.size 29 [.slice Ad nd cd,.slice A0 n0 c0,.slice A1 n1 c1,.slice A2 n2 c2],.row ov 3 1 out.length (out.map intV),.row sv 3 1 set.length (set.map intV)] []) (fun _ sv av _=>lenOf sv+(match av with | .bool true=>1 | _=>0))
 case atStart=>exact⟨[],L0,true,rfl,HI0.out,HP1.out⟩
 case round=>
  clear HP1 HI0
  obtain⟨out,set,b,rfl,hI,hP⟩:=hrel
  have HP:=Lib.hid hP
  have HI:=Lib.hid hI
  obtain⟨A4,c4,rfl⟩:=hP.form 1 rfl
  obtain⟨A5,c5,rfl⟩:=hP.form 2 rfl
  clear hP hI
  cases b with
  | false=>
   have HE:=Eqn.mk (HI.out.done rfl)
   go_wp2_with fail
   refine bodyPost_ret (v:=.tuple #[.slice A4 out.length c4,.slice A5 set.length c5]) (by simp[results,Tryz.results23,go_sem]) rfl ?_
   rw[HE.out]
   exact⟨_,_,rfl,HP.out.row 1 rfl,HP.out.row 2 rfl,HP.out.below⟩
  | true=>
   have hsl:set.length≤1000:=by have:=HI.out.len;omega
   have hol:out.length≤1000:=by have:=HI.out.len;omega
   go_wp2_with fail
   obtain⟨wo,rfl⟩:∃ wo:World,wo=wr:=⟨_,rfl⟩
   go_loopw [4,5,6,7] (fun ov sv av iv wr=>∃(o2 s2:List Int) (b:Bool) (k:Nat),av=.bool b∧iv=.int .i64 k∧k≤set.length∧((b=false∧o2=out∧s2=set∧∀ x∈set.take k,easyF D r set x=false)∨(b=true∧PzI D r o2 s2 true∧s2.length<set.length))∧Hp w w wr [.blk w.heap.size 29 [.slice Ad nd cd,.slice A0 n0 c0,.slice A1 n1 c1,.slice A2 n2 c2],.row ov 3 1 o2.length (o2.map intV),.row sv 3 1 s2.length (s2.map intV)] []) (fun _ sv av iv _=>match av with | .bool true=>0 | _=>lenOf sv+1 - (intOf iv).toNat)
   case atStart=>exact⟨out,set,false,0,rfl,rfl,Nat.zero_le _,.inl ⟨rfl,rfl,rfl,fun x hx=>(by cases hx)⟩,HP.out⟩
   case round=>
    obtain⟨o2,s2,b,k,rfl,rfl,hk,hor,hP⟩:=hrel
    obtain⟨Ao,co,rfl⟩:=hP.form 1 rfl
    obtain⟨As,cs,rfl⟩:=hP.form 2 rfl
    rcases hor with ⟨rfl,rfl,rfl,hno⟩ | ⟨rfl,hI2,hlt⟩
    ·have HNO:=Lib.hid hno
     have HP2:=Lib.hid hP
     by_cases hkl:k<s2.length
     ·have j0:(k:Int)<(s2.length:Int):=by omega
      obtain⟨x,hx⟩:∃ x,s2[k]?=some x:=⟨_,List.getElem?_eq_getElem hkl⟩
      have HX:=Lib.hid hx
      have hxr:(s2.map intV)[k]?=some (.int .i64 x):=by rw[List.getElem?_map,hx];rfl
      obtain⟨gs,cs',e5,y5,_,l5⟩:=hP.at 2 k rfl hxr
      injection e5 with e5 _ e5c
      subst e5 e5c
      have hrow:∀ W L',Hp w w W ([.blk w.heap.size 29 [.slice Ad nd cd,.slice A0 n0 c0,.slice A1 n1 c1,.slice A2 n2 c2],L',.row (.slice (some ⟨gs,0,none⟩) s2.length cs) 3 1 s2.length (s2.map intV)]:List Ent) []→Row1 intV W W.heap.size (some ⟨gs,0,none⟩) s2.length s2∧W.cell? ⟨gs,k,none⟩=some (.int .i64 x):=fun W L' hW=>by
       obtain⟨A',c',e',hr⟩:=row1_of_own (hW.row 2 rfl)
       injection e' with e1 e2 e3
       subst e1 e3
       obtain⟨g',c',e',hc,_⟩:=hW.at 2 k rfl hxr
       injection e' with e1 _ _
       injection e1 with e1
       injection e1 with e1
       subst e1
       exact⟨hr,hc⟩
      have HROW:=Lib.hid hrow
      have HCE:=HES.out (some ⟨gs,0,none⟩) s2.length cs s2 x wr.drew hP.drew.below hsl HI.out.sub (HI.out.sub x (List.mem_of_getElem? hx)) (hrow _ _ hP.drew).1
      have q0:=hP.c 0 0 rfl rfl
      have q1:=hP.c 0 1 rfl rfl
      have q2:=hP.c 0 2 rfl rfl
      have q3:=hP.c 0 3 rfl rfl
      have q4:=hP.lt 0 rfl
      cases hea:easyF D r s2 x with
      | false=>
       rw[hea] at HCE
       have HCE:=Lib.hid HCE
       have HN2:=Lib.hid (take_ff hx hno hea)
       clear hx hxr hrow hno hP hea
       go_wp2_with fail
       refine Lx.region (C:=fun _=>True) (hs:=[]) (by kernel_rfl) (by kernel_rfl) trivial ?_
       repeat' (first|((first|refine Lx.ln (fun K hK=>?_) | (first|(refine Lx.lp (v:=?_) ?_ (fun K hK=>?_);rotate_left 1;intro w' hCw;try dsimp only at hCw) | (refine Lx.lr (v:=?_) ?_ (fun K hK=>?_);rotate_left 1));go_simp;first|done | with_reducible rfl);go_simp;refine hK _ ?_;clear hK K) | (refine Lx.le (fun K hK=>?_);go_simp;(first|(go_at_call 54;refine HCE.out.mono ?_;rintro e w4 ⟨rfl,hb4⟩;have HP4:=Lib.hid (HP2.out.drew.keep hb4);clear hb4) | skip);refine hK _ _ (trivial) ?_;clear hK K) | (refine Lx.lex_cases rfl rfl rfl (fun hgd K hK=>?_) (fun hgd K hK=>?_)<;>(try simp only[decide_eq_true_eq,decide_eq_false_iff_not] at hgd)<;>(first|(exfalso;omega) | (go_simp;refine hK _ ?_;clear hK K))))
       all_goals (refine Lx.lex_nil ?_)
       clear q0 q1 q2 q3 q4 y5 l5
       go_wp2_with fail
       go_roundw
       case rel=>exact⟨o2,s2,false,k+1,rfl,by go_num,hkl,.inl ⟨rfl,rfl,rfl,HN2.out⟩,HP4.out⟩
       case measure=>simp[intOf,lenOf];omega
      | true=>
       rw[hea] at HCE
       have HCE:=Lib.hid HCE
       have HT:=Lib.hid (HI.out.take hx hno hea)
       clear hx hxr hrow hno hP hea
       go_wp2_with fail
       refine Lx.region (C:=fun _=>True) (hs:=[]) (by kernel_rfl) (by kernel_rfl) trivial ?_
       repeat' (first|((first|refine Lx.ln (fun K hK=>?_) | (first|(refine Lx.lp (v:=?_) ?_ (fun K hK=>?_);rotate_left 1;intro w' hCw;try dsimp only at hCw) | (refine Lx.lr (v:=?_) ?_ (fun K hK=>?_);rotate_left 1));go_simp;first|done | with_reducible rfl);go_simp;refine hK _ ?_;clear hK K) | (refine Lx.le (fun K hK=>?_);go_simp;(first|(go_at_call 54;refine HCE.out.mono ?_;rintro e w4 ⟨rfl,hb4⟩;have HP4:=Lib.hid (HP2.out.drew.keep hb4);clear hb4) | skip);refine hK _ _ (trivial) ?_;clear hK K) | (refine Lx.lex_cases rfl rfl rfl (fun hgd K hK=>?_) (fun hgd K hK=>?_)<;>(try simp only[decide_eq_true_eq,decide_eq_false_iff_not] at hgd)<;>(first|(exfalso;omega) | (go_simp;refine hK _ ?_;clear hK K))))
       all_goals (refine Lx.lex_nil ?_)
       clear q0 q1 q2 q3 q4 y5 l5
       obtain⟨hr4,y5⟩:=HROW.out _ _ HP4.out
       have HA4:=Lib.hid (fun o=>(HROW.out _ _ (HP4.out.drew.alloc0 o)).2)
       have HPD:=Lib.hid HP4.out.drew
       clear hr4
       go_wp2_with fail
       refine Lx.region (C:=fun Z=>Z.cell? ⟨gs,k,none⟩=some (.int .i64 x)) (hs:=[4,11]) (by kernel_rfl) (by kernel_rfl) y5 ?_
       repeat' (first|((first|refine Lx.ln (fun K hK=>?_) | (first|(refine Lx.lp (v:=?_) ?_ (fun K hK=>?_);rotate_left 1;intro w' hCw;try dsimp only at hCw) | (refine Lx.lr (v:=?_) ?_ (fun K hK=>?_);rotate_left 1));go_simp;first|done | with_reducible rfl);go_simp;refine hK _ ?_;clear hK K) | (refine Lx.le (fun K hK=>?_);go_simp;(first|fail | skip);refine hK _ _ (HA4.out _) ?_;clear hK K))
       refine Lx.lex_append rfl rfl _ _ 32 rfl w.heap.size 3 i0 (.int .i64 0) 1 8 Tryz.underlying32 hi hz0 hz1 hz2 rfl (by decide) _ _ _ rfl ((HPD.out.row 1 rfl).alloc _) ⟨w4.heap.size,0,none⟩ 1 1 [.int .i64 x] rfl rfl (cell_one_new _ _ _) (by simp[Value.oneCell']) (by unfold maxLen;omega) (by omega) (by have:=HPD.out.below.size;simp at this ⊢;omega) ?_
       intro v' w5 hown' hgrow hor
       have hP5:=(HPD.out.alloc0 _).grow 1 rfl hgrow hown' hor
       have HP5:=Lib.hid hP5
       obtain⟨A6,c6,rfl⟩:=hP5.form 1 rfl
       obtain⟨hr5,y6⟩:=HROW.out _ _ hP5
       have HW:=Lib.hid (refwithout_any (some ⟨gs,0,none⟩) s2.length cs x w5 s2 (by omega) hr5)
       refine⟨y6,?_⟩
       clear hown' hgrow hor hP5 hr5
       repeat' (first|((first|refine Lx.ln (fun K hK=>?_) | (first|(refine Lx.lp (v:=?_) ?_ (fun K hK=>?_);rotate_left 1;intro w' hCw;try dsimp only at hCw) | (refine Lx.lr (v:=?_) ?_ (fun K hK=>?_);rotate_left 1));go_simp;first|done | with_reducible rfl);go_simp;refine hK _ ?_;clear hK K) | (refine Lx.le (fun K hK=>?_);go_simp;(first|(go_at_call 55;refine HW.out.mono ?_;rintro e w6 ⟨v6,rfl,hown6,hb6⟩;have hP6:=HP5.out.pushRow hb6 hown6;obtain⟨A7,c7,rfl⟩:=hP6.form 3 rfl;have y7:=(HROW.out _ _ (HP5.out.keep hb6)).2;have HP6:=Lib.hid hP6;clear hown6 hb6 hP6) | skip);refine hK _ _ (by first|exact y7 | exact y6) ?_;clear hK K))
       all_goals (refine Lx.lex_nil ?_)
       clear y5 y6 y7
       go_wp2_with fail
       go_roundw
       case rel=>
        refine⟨o2++[x],s2.filter (fun y=>!decide (y=x)),true,k+1,rfl,by go_num,hkl,.inr ⟨rfl,HT.out.1,HT.out.2⟩,?_⟩
        rw[List.length_append,List.map_append]
        exact HP6.out.sub (.cons_cons _ (.cons_cons _ (.cons _ (List.Sublist.refl _))))
       case measure=>simp[intOf,lenOf];omega
     ·obtain rfl:k=s2.length:=by omega
      have j0:¬((s2.length:Nat):Int)<(s2.length:Int):=by omega
      have HIN:=Lib.hid (HI.out.no (by rw[List.take_of_length_le (Nat.le_refl _)] at hno;exact hno))
      clear hno hP
      go_wp2_with fail
      go_roundw
      case rel=>exact⟨o2,s2,false,rfl,HIN.out,HP2.out⟩
      case measure=>simp[lenOf]
    ·have HP2:=Lib.hid hP
     have HI2:=Lib.hid hI2
     clear hP hI2
     by_cases hkl:k<s2.length
     ·have j0:(k:Int)<(s2.length:Int):=by omega
      go_wp2_with fail
      go_roundw
      case rel=>exact⟨o2,s2,true,rfl,HI2.out,HP2.out⟩
      case measure=>simp[lenOf];omega
     ·have j0:¬(k:Int)<(s2.length:Int):=by omega
      go_wp2_with fail
      go_roundw
      case rel=>exact⟨o2,s2,true,rfl,HI2.out,HP2.out⟩
      case measure=>simp[lenOf];omega
end Go.Proofs.YtjakdikhdndlgaaGreatDoor
namespace Go.Proofs.YtjakdikhdndlgaaGreatDoor
open Go.RowKit
theorem flat_lenR {α:Type} (sz:Nat) (f:α→Nat→Value) (ys:List α):(flat sz f ys).length=ys.length * sz:=by
 induction ys with
 | nil=>simp[flat]
 | cons y ys ih=>
  have:flat sz f (y::ys)=(List.range sz).map (f y)++flat sz f ys:=rfl
  rw[this,List.length_append,ih,List.length_cons,Nat.succ_mul];simp;omega
section
variable {P : Program}
theorem run_append_rowR {α:Type} {sz:Nat} {f:α→Nat→Value} (hsz:0<sz) (hf:∀ a j,j<sz→(f a j).oneCell'=true) (w:World) (base:Nat) (t ty e:TypeId) (i:TypeInfo) (z:Value) (bytes:Nat) (ht:P.underlying t=some (.slice e)) (hi:P.info? e=some i) (hz:i.zero=some z)
  (hsize:i.size=sz) (hby:i.bytes=bytes) (hzs:z.cells.size=sz) (v:Value) (n:Nat) (xs:List Value) (hown:w.ownsRow base e sz v n xs) (A:Option Addr) (m c:Nat) (ys:List α) (D:Nat) (hy:RowS sz f w D A m ys)
  (h63:n+m≤maxLen) (hbytes:(n+m) * bytes≤140737488355328) (hbase:base≤w.heap.size):
  ∃ v' w',(Builtin.append_ #[t,t] ty #[v,.slice A m c]).run P w=.ok v' w'∧w'.ownsRow base e sz v' (n+m) (xs++flat sz f ys)∧w.grownBy w' v.ownBlock∧(v'.ownBlock=v.ownBlock∨v'.ownBlock=some w.heap.size):=by
 cases A with
 | none=>
  have hn0:m=0:=by
   rcases Nat.eq_zero_or_pos m with h | h
   ·exact h
   ·obtain⟨_,_,h1,_⟩:=hy.2 h;cases h1
  have hxs:ys=[]:=List.eq_nil_of_length_eq_zero (by have:=hy.1;omega)
  subst hn0 hxs
  refine⟨v,w,?_,by simpa[flat] using hown,⟨rfl,rfl,rfl,Nat.le_refl _,fun _ _ _=>rfl⟩,.inl rfl⟩
  rcases hown.2 with ⟨rfl,rfl⟩ | ⟨g,cap,cur,rfl,hbg,hg,hnc,hcm,hcs,htake⟩
  ·simp[Builtin.append_,run_underlying ht,sizeOf,typeInfo,hi,Builtin.lenOf,Builtin.firstCells]
  ·simp[Builtin.append_,run_underlying ht,sizeOf,typeInfo,hi,Builtin.lenOf,Builtin.firstCells,loadCells,storeCells,hnc]
 | some ad=>
  have hlen:=hy.1
  have hcells:∀ j u,(flat sz f ys)[j]?=some u→w.cell? (ad.add j)=some u:=by
   intro j u hu
   have hj:=(List.getElem?_eq_some_iff.1 hu).1
   rw[flat_lenR,hlen] at hj
   have hm:0<m:=by
    rcases Nat.eq_zero_or_pos m with h | h
    ·subst h;simp at hj
    ·exact h
   obtain⟨b,off,h1,_,h3⟩:=hy.2 hm
   injection h1 with h1
   subst h1
   have hk:j / sz<ys.length:=by rw[hlen];exact Nat.div_lt_of_lt_mul (by rw[Nat.mul_comm];exact hj)
   have hx:=List.getElem?_eq_getElem hk
   have hj':j / sz * sz+j % sz=j:=by rw[Nat.mul_comm];exact Nat.div_add_mod j sz
   have h4:=h3 (j / sz) _ hx (j % sz) (Nat.mod_lt _ hsz)
   have h5:=flat_at sz f ys (j / sz) _ hx (j % sz) (Nat.mod_lt _ hsz)
   rw[hj',hu] at h5
   rw[Nat.add_assoc,hj',←h5] at h4
   unfold Addr.add
   by_cases hj0:j=0
   ·subst hj0;simpa using h4
   ·rw[if_neg hj0];exact h4
  obtain⟨v',w',hr,h2,h3,_,h5⟩:=run_append_own_at (P:=P) w base t ty e i z sz bytes ht hi hz hsize hby hzs hsz v n xs hown ad m c (flat sz f ys) (by rw[flat_lenR,hlen]) hcells
   (by
    intro u hu
    obtain⟨y,_,hy2⟩:=List.mem_flatMap.1 hu
    obtain⟨j,hj,rfl⟩:=List.mem_map.1 hy2
    exact hf y j (List.mem_range.1 hj)) h63 hbytes hbase
  exact⟨v',w',hr,h2,h3,h5⟩
theorem wpList_append_rowR {w:World} {ops:Array Oper} {rest:List Oper} {o:Oper} {a:Act} {Q:Exit→Act→World→Prop} (hgd:o.guard=none) (s x:Operand) (t:TypeId)
  (ho:o.op=.call { callee:=.builtin .append,args:=#[s,x],argTypes:=#[t,t] })
  {α:Type} {sz:Nat} {f:α→Nat→Value} (hsz:0<sz) (hf:∀ a j,j<sz→(f a j).oneCell'=true) (base:Nat) (e:TypeId) (i:TypeInfo) (z:Value) (bytes:Nat) (ht:P.underlying t=some (.slice e)) (hi:P.info? e=some i) (hz:i.zero=some z)
  (hsize:i.size=sz) (hby:i.bytes=bytes) (hzs:z.cells.size=sz)
  (v:Value) (n:Nat) (xs:List Value) (hs:a.eval s=v) (hown:w.ownsRow base e sz v n xs) (A:Option Addr) (m c:Nat) (ys:List α) (D:Nat) (hx:a.eval x=.slice A m c) (hy:RowS sz f w D A m ys)
  (h63:n+m≤maxLen) (hbytes:(n+m) * bytes≤140737488355328) (hbase:base≤w.heap.size)
  (h:∀ v' w',w'.ownsRow base e sz v' (n+m) (xs++flat sz f ys)→w.grownBy w' v.ownBlock→(v'.ownBlock=v.ownBlock∨v'.ownBlock=some w.heap.size)→wpList P ops Q rest (a.put o.dst v') w'):
  wpList P ops Q (o::rest) a w:=by
 refine wpList_plain hgd fun K hK=>?_
 obtain⟨v',w',hr,h2,h3,h5⟩:=run_append_rowR (P:=P) hsz hf w base t o.type e i z bytes ht hi hz hsize hby hzs v n xs hown A m c ys D hy h63 hbytes hbase
 unfold Oper.wp execOp
 simp only[ho,resolve,invoke,builtin,Sem.run_bind,Sem.run_pure,Result.andThen_ok,List.map_toArray,List.map_cons,List.map_nil,hs,hx,hr]
 exact hK _ _ (h v' w' h2 h3 h5)
end
end Go.Proofs.YtjakdikhdndlgaaGreatDoor
namespace Go.Proofs.YtjakdikhdndlgaaGreatDoor
open Go.RowKit Go.Shelf
theorem peel_len (D:Dms) (r:Rul):(peelF D r).1.length≤D.length:=by
 have h:∀(f:Nat) (out set:List Int),(peelG D r f out set).1.length+(peelG D r f out set).2.length≤out.length+set.length:=by
  intro f
  induction f with
  | zero=>intro out set;exact Nat.le_refl _
  | succ f ih=>
   intro out set
   rw[peelG]
   split
   ·exact Nat.le_refl _
   ·rename_i s hs
    have h1:=ih (out++[s]) (set.filter fun x=>!decide (x=s))
    have h2:=filter_ne_len (List.mem_of_find?_eq_some hs)
    rw[List.length_append] at h1
    simp only[List.length_singleton] at h1
    omega
 have:=h D.length [] (D.map Prod.fst)
 rw[List.length_map] at this
 unfold peelF
 simp only[List.length_nil] at this
 omega
end Go.Proofs.YtjakdikhdndlgaaGreatDoor
