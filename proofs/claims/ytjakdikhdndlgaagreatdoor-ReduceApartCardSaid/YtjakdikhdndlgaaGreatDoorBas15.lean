/- Lemmas of the proof, part 15. Conditions: none. -/
import Derived.Test.YtjakdikhdndlgaaGreatDoorBas14
set_option maxRecDepth 100000
set_option maxHeartbeats 4000000
namespace Go.Proofs.YtjakdikhdndlgaaGreatDoor
open Go.RowKit
def spN (lo hi:Int):Nat:=2 ^ (hi+1).toNat - 2 ^ lo.toNat
theorem sp_tb {lo hi:Int} (h:0≤lo∧lo≤hi) (k:Nat):(spN lo hi).testBit k=(decide (lo≤(k:Int))&&decide ((k:Int)≤hi)):=by
 have hab:lo.toNat≤(hi+1).toNat:=by omega
 obtain⟨e,he⟩:∃ e,(hi+1).toNat=lo.toNat+e:=⟨(hi+1).toNat - lo.toNat,by omega⟩
 have hx:spN lo hi=2 ^ lo.toNat * (2 ^ e - 1)+0:=by
  unfold spN
  rw[he,Nat.pow_add,Nat.mul_sub,Nat.mul_one,Nat.add_zero]
 rw[hx,Nat.testBit_two_pow_mul_add _ (Nat.two_pow_pos _),Nat.testBit_two_pow_sub_one,Nat.zero_testBit]
 by_cases h1:k<lo.toNat
 ·rw[if_pos h1,decide_eq_false (show ¬lo≤(k:Int) by omega)];rfl
 ·rw[if_neg h1,decide_eq_true (show lo≤(k:Int) by omega),Bool.true_and,decide_eq_decide];omega
theorem sp_lt {lo hi:Int} (hh:2≤hi∧hi≤51):spN lo hi<18446744073709551616:=by
 exact Nat.lt_of_le_of_lt (Nat.sub_le _ _) (pow_lt64 (k:=(hi+1).toNat) (by omega))
theorem span_any (lo hi:Int) (w:World) (h:2≤lo∧lo≤hi∧hi≤51):Calls Tryz.prog 87 #[.int .i64 lo,.int .i64 hi] w (RetPost (.int .u64 (spN lo hi)) w.heap.size w):=by
 obtain⟨a,rfl⟩:∃ a:Nat,lo=(a:Int):=⟨lo.toNat,by omega⟩
 obtain⟨b,rfl⟩:∃ b:Nat,hi=(b:Int):=⟨hi.toNat,by omega⟩
 have e1:IntKind.i64.wrap ((b:Int)+1)=((b+1:Nat):Int):=by rw[IntWalk.i64_in _ (by omega)];omega
 have e2:=wrap_pow (j:=b+1) (by omega)
 have e3:=wrap_pow (j:=a) (by omega)
 have HV:Hid ((IntKind.u64.wrap ((2:Int) ^ (b+1) - 2 ^ a))=((spN (a:Int) (b:Int):Nat):Int)):=Lib.hid (by
  have h1:=pow_lt64 (k:=b+1) (by omega)
  have h2:2 ^ a≤2 ^ (b+1):=Nat.pow_le_pow_right (by decide) (by omega)
  rw[pow_cast,pow_cast]
  unfold spN
  rw[show ((b:Int)+1).toNat=b+1 by omega,Int.toNat_natCast]
  generalize 2 ^ a=x at *
  generalize 2 ^ (b+1)=y at *
  rw[IntWalk.u64_in _ (by omega)]
  omega)
 have j1:b+1<64:=by omega
 have j2:a<64:=by omega
 clear h
 go_enter Tryz.func87,Tryz.ntmps87
 go_wp2_with fail
 refine Lx.region (C:=fun _=>True) (hs:=[]) (by kernel_rfl) (by kernel_rfl) trivial ?_
 repeat' (first|((first|refine Lx.ln (fun K hK=>?_) | (first|(refine Lx.lp (v:=?_) ?_ (fun K hK=>?_);rotate_left 1;intro w' hCw;try dsimp only at hCw) | (refine Lx.lr (v:=?_) ?_ (fun K hK=>?_);rotate_left 1));go_simp;first|done | with_reducible rfl);go_simp;refine hK _ ?_;clear hK K) | (refine Lx.le (fun K hK=>?_);go_simp;(first|fail | skip);refine hK _ _ (trivial) ?_;clear hK K) | (refine Lx.lex_cases rfl rfl rfl (fun hgd K hK=>?_) (fun hgd K hK=>?_)<;>(try simp only[decide_eq_true_eq,decide_eq_false_iff_not] at hgd)<;>(first|(exfalso;omega) | (go_simp;refine hK _ ?_;clear hK K))))
 all_goals (refine Lx.lex_nil ?_)
 go_wp2_with fail
 go_ret
 refine⟨?_,(Below.refl _ _).drew⟩
 rw[←HV.out]
 rfl
def ixF (D:Dms) (s:Int):Option Nat:=(D.map Prod.fst).findIdx? fun x=>decide (x=s)
theorem ixF_at {D:Dms} (s:Nat):idxF D s=match ixF D (s:Int) with | some i=>i+1 | none=>0:=rfl
theorem ixF_lt {D:Dms} {s:Int} {i:Nat} (h:ixF D s=some i):i<D.length∧stA D i=s:=by
 unfold ixF at h
 rw[List.findIdx?_eq_some_iff_getElem] at h
 obtain⟨hi,hx,_⟩:=h
 have hi2:i<D.length:=by rw[List.length_map] at hi;exact hi
 refine⟨hi2,?_⟩
 have:=of_decide_eq_true hx
 unfold stA
 rw[List.getD_eq_getElem?_getD,List.getElem?_eq_getElem hi];exact this
theorem ixF_none {D:Dms} {s:Int}:ixF D s=none↔s∉D.map Prod.fst:=by
 unfold ixF
 rw[List.findIdx?_eq_none_iff]
 constructor
 ·intro h hm;have:=h s hm;simp at this
 ·intro h x hx;exact decide_eq_false (fun e=>h (e ▸ hx))
def atR (o:Option Nat):Value:=.tuple #[.int .i64 (match o with | some i=>(i:Int) | none=>0),.bool o.isSome]
theorem at_any (s:Int) (t:Nat) (D:Dms) (LK:List Lk) (w:World) (h:TabR w t D LK) (hD:∀ x∈D.map Prod.fst,0≤x∧x<512) (hn:D.length≤512):
  Calls Tryz.prog 50 #[.pointer (some ⟨t,0,none⟩),.int .i64 s] w fun e w'=>e=.returned (atR (ixF D s))∧w=w':=by
 by_cases h0:s<0
 ·have HV:Hid (ixF D s=none):=Lib.hid (ixF_none.2 fun hm=>by have:=hD _ hm;omega)
  have d0:decide (s<0)=true:=decide_eq_true h0
  clear h h0
  go_enter Tryz.func50,Tryz.ntmps50
  go_wp2_with fail
  refine bodyPost_ret (v:=.tuple #[.int .i64 0,.bool false]) (by simp[results,Tryz.results50,go_sem]) rfl ⟨by rw[HV.out];rfl,rfl⟩
 have d0:decide (s<0)=false:=decide_eq_false h0
 by_cases h1:512≤s
 ·have HV:Hid (ixF D s=none):=Lib.hid (ixF_none.2 fun hm=>by have:=hD _ hm;omega)
  have d1:decide (512≤s)=true:=decide_eq_true h1
  clear h h0 h1
  go_enter Tryz.func50,Tryz.ntmps50
  go_wp2_with fail
  refine bodyPost_ret (v:=.tuple #[.int .i64 0,.bool false]) (by simp[results,Tryz.results50,go_sem]) rfl ⟨by rw[HV.out];rfl,rfl⟩
 have d1:decide (512≤s)=false:=decide_eq_false h1
 obtain⟨m,rfl⟩:∃ m:Nat,s=(m:Int):=⟨s.toNat,by omega⟩
 have hi:=h.idx m (by omega)
 have hlt:=h.lt
 have j1:(m:Int)<512:=by omega
 rw[ixF_at] at hi
 clear h h0 h1 hD
 cases ha:ixF D (m:Int) with
 | none=>
  rw[ha] at hi
  have HV:=Lib.hid ha
  clear ha
  have hi:w.cell? ⟨t,3+m,none⟩=some (.int .i64 0):=hi
  go_enter Tryz.func50,Tryz.ntmps50
  go_wp2_with fail
  refine bodyPost_ret (v:=.tuple #[.int .i64 0,.bool false]) (by simp[results,Tryz.results50,go_sem]) rfl ⟨rfl,rfl⟩
 | some i=>
  rw[ha] at hi
  have hil:=(ixF_lt ha).1
  have hi:w.cell? ⟨t,3+m,none⟩=some (.int .i64 ((i+1:Nat):Int)):=hi
  have d2:(((i+1:Nat):Int) == 0)=false:=by simp;omega
  have e1:IntKind.i64.wrap (((i+1:Nat):Int) - 1)=(i:Int):=by rw[IntWalk.i64_in _ (by omega)];omega
  clear ha
  generalize i+1=k at *
  go_enter Tryz.func50,Tryz.ntmps50
  go_wp2_with fail
  refine bodyPost_ret (v:=.tuple #[.int .i64 i,.bool true]) (by simp[results,Tryz.results50,go_sem]) rfl ⟨rfl,rfl⟩
theorem blocked_any (x:Nb) (l:Lk) (d:Int) (w:World) (hg:x.g=l.g) (h:LkAt w l) (hd:2≤d∧d≤51) (hl:LkOk l):
  Calls Tryz.prog 98 #[.agg #[.int .i64 x.o,.bool x.f,.pointer (some ⟨x.g,0,none⟩)],.int .i64 d] w (RetPost (.int .u64 (bkF x.f l.ps l.sh d)) w.heap.size w):=by
 obtain⟨xo,f,g⟩:=x
 obtain⟨li,lj,lg,A,c,ps,sh⟩:=l
 obtain rfl:g=lg:=hg
 obtain⟨m,rfl⟩:∃ m:Nat,d=(m:Int):=⟨d.toNat,by omega⟩
 obtain⟨⟨q0,q1,q2⟩,hr⟩:=h
 dsimp only at q0 q1 q2 hr hl ⊢
 obtain⟨hps,hsh,hlen⟩:=hl
 dsimp only at hps hsh hlen
 have hm:m<64:=by omega
 have hm2:2≤m∧m≤51:=by omega
 have e2:=wrap_pow hm
 have HSH:=Lib.hid hsh
 have HPS:=Lib.hid hps
 have HR:=Lib.hid hr
 have h0:((bits .and .u64 (sh:Int) (2 ^ m):Int))=((bkF f (ps.take 0) sh (m:Int):Nat):Int):=by
  rw[pow_cast,bits_and_u64_nat _ _ hsh (pow64_lt hm)];rfl
 have H0:=Lib.hid h0
 have hW0:=(Hp.start w).alloc [.int .i64 xo,.bool f,.pointer (some ⟨g,0,none⟩)] 105
 obtain⟨W0,hW⟩:∃ W0,W0=w.alloc (.cells #[.int .i64 xo,.bool f,.pointer (some ⟨g,0,none⟩)] 105):=⟨_,rfl⟩
 rw[show ([.int .i64 xo,.bool f,.pointer (some ⟨g,0,none⟩)]:List Value).toArray=#[.int .i64 xo,.bool f,.pointer (some ⟨g,0,none⟩)] from rfl,←hW] at hW0
 have hb0:=hW0.below
 have p0:W0.cell? ⟨g,0,none⟩=some (.slice A ps.length c):=(hb0.cell (p:=⟨g,0,none⟩) q2).trans q0
 have p1:W0.cell? ⟨g,1,none⟩=some (.int .u64 sh):=(hb0.cell (p:=⟨g,1,none⟩) q2).trans q1
 have p2:g<W0.heap.size:=Nat.lt_of_lt_of_le q2 hb0.size
 have b2:=hW0.c 0 2 rfl rfl
 have bl:=hW0.lt 0 rfl
 have HP0:=Lib.hid hW0.drew
 clear hps hsh hr h0 hW0 hb0 q0 q1 q2
 generalize hp2:w.heap.size=pb at HP0 b2 bl
 have HPB:=Lib.hid hp2
 clear hp2
 go_enter Tryz.func98,Tryz.ntmps98
 go_upto_region 1 with fail
 rw[←hW,HPB.out]
 clear hW
 go_wp2_with fail
 refine Lx.region (C:=fun _=>True) (hs:=[]) (by kernel_rfl) (by kernel_rfl) trivial ?_
 repeat' (first|((first|refine Lx.ln (fun K hK=>?_) | (first|(refine Lx.lp (v:=?_) ?_ (fun K hK=>?_);rotate_left 1;intro w' hCw;try dsimp only at hCw) | (refine Lx.lr (v:=?_) ?_ (fun K hK=>?_);rotate_left 1));go_simp;first|done | with_reducible rfl);go_simp;refine hK _ ?_;clear hK K) | (refine Lx.le (fun K hK=>?_);go_simp;(first|fail | skip);refine hK _ _ (trivial) ?_;clear hK K) | (refine Lx.lex_cases rfl rfl rfl (fun hgd K hK=>?_) (fun hgd K hK=>?_)<;>(try simp only[decide_eq_true_eq,decide_eq_false_iff_not] at hgd)<;>(first|(exfalso;omega) | (go_simp;refine hK _ ?_;clear hK K))))
 all_goals (refine Lx.lex_nil ?_)
 rw[H0.out]
 go_wp2_with fail
 go_loopw [5,23] (fun gv i wr=>∃ k:Nat,k≤ps.length∧i=.int .i64 k∧gv=.int .u64 (bkF f (ps.take k) sh (m:Int):Nat)∧Hp w w wr [.blk pb 105 [.int .i64 xo,.bool f,.pointer (some ⟨g,0,none⟩)]] []) (fun _ i _=>ps.length - (intOf i).toNat)
 case atStart=>exact⟨0,Nat.zero_le _,rfl,rfl,HP0.out⟩
 case round=>
  clear HP0 H0 b2 bl p0 p1 p2
  obtain⟨k,hk,rfl,rfl,hP⟩:=hrel
  by_cases hlt:k<ps.length
  ·have j0:(k:Int)<(ps.length:Int):=by omega
   obtain⟨x,hx⟩:∃ x,ps[k]?=some x:=⟨_,List.getElem?_eq_getElem hlt⟩
   have HX:=Lib.hid hx
   have hxx:=HPS.out x (List.mem_of_getElem? hx)
   have HTK:=Lib.hid (bk_take (f:=f) (sh:=sh) (d:=(m:Int)) hx)
   have HLT:=Lib.hid (bkF_lt (f:=f) (d:=(m:Int)) HSH.out (fun y hy=>HPS.out y (List.take_subset k ps hy)))
   obtain⟨b,off,rfl,hbl,hc⟩:=(HR.out.below hP.below).2 (by omega)
   have y0:wr.cell? ⟨b,off+k * 5,none⟩=some (.int .i64 x.a):=hc k x hx 0 (by decide)
   have y1:wr.cell? ⟨b,off+k * 5+1,none⟩=some (.int .i64 x.b):=hc k x hx 1 (by decide)
   have y2:wr.cell? ⟨b,off+k * 5+2,none⟩=some (.int .i64 x.c):=hc k x hx 2 (by decide)
   have y3:wr.cell? ⟨b,off+k * 5+3,none⟩=some (.int .i64 x.d):=hc k x hx 3 (by decide)
   have y4:wr.cell? ⟨b,off+k * 5+4,none⟩=some (.int .i64 x.e):=hc k x hx 4 (by decide)
   have b1:=hP.c 0 1 rfl rfl
   have bl:=hP.lt 0 rfl
   have HP1:=Lib.hid ((hP.alloc0 (.cells #[.int .i64 x.a,.int .i64 x.b,.int .i64 x.c,.int .i64 x.d,.int .i64 x.e] 67)))
   obtain⟨xa,xb,xc,xd,xe⟩:=x
   dsimp only at y0 y1 y2 y3 y4 hxx HTK HP1
   clear hP hc hx HX
   unfold bk1 at HTK
   generalize bkF f (ps.take k) sh (m:Int)=G at *
   cases f with
   | true=>
    rw[if_pos rfl] at HTK
    by_cases c1:xd≤(m:Int) - xc
    ·have d1:decide (xd≤(m:Int) - xc)=true:=decide_eq_true c1
     by_cases c2:(m:Int) - xc≤xe
     ·have d2:decide ((m:Int) - xc≤xe)=true:=decide_eq_true c2
      rw[if_pos ⟨c1,c2⟩] at HTK
      obtain⟨q,hq⟩:∃ q:Nat,(m:Int) - xc=(q:Int):=⟨((m:Int) - xc).toNat,by omega⟩
      have hq64:q<64:=by omega
      have e3:=wrap_pow hq64
      have e1:IntKind.i64.wrap ((m:Int) - xc)=(q:Int):=by rw[IntWalk.i64_in _ (by omega)];exact hq
      have e4:wrap64 ((m:Int) - xc)=(q:Int):=by rw[←hq];unfold wrap64;omega
      rw[hq,Int.toNat_natCast] at HTK
      have HOR:=Lib.hid (or_pow G HLT.out hq64)
      rw[hq] at d1 d2;clear c1 c2 hxx hq
      go_wp2_with fail
      go_roundw
      case rel=>exact⟨k+1,hlt,by go_num,by rw[HTK.out,←HOR.out],HP1.out⟩
      case measure=>simp[intOf];omega
     ·have d2:decide ((m:Int) - xc≤xe)=false:=decide_eq_false c2
      rw[if_neg (fun h=>c2 h.2),Nat.or_zero] at HTK
      have e1:IntKind.i64.wrap ((m:Int) - xc)=(m:Int) - xc:=IntWalk.i64_in _ (by omega);have e4:wrap64 ((m:Int) - xc)=(m:Int) - xc:=(by unfold wrap64;omega);clear c1 c2 hxx
      go_wp2_with fail
      go_roundw
      case rel=>exact⟨k+1,hlt,by go_num,by rw[HTK.out],HP1.out⟩
      case measure=>simp[intOf];omega
    ·have d1:decide (xd≤(m:Int) - xc)=false:=decide_eq_false c1
     rw[if_neg (fun h=>c1 h.1),Nat.or_zero] at HTK
     have e1:IntKind.i64.wrap ((m:Int) - xc)=(m:Int) - xc:=IntWalk.i64_in _ (by omega);have e4:wrap64 ((m:Int) - xc)=(m:Int) - xc:=(by unfold wrap64;omega);clear c1 hxx
     go_wp2_with fail
     go_roundw
     case rel=>exact⟨k+1,hlt,by go_num,by rw[HTK.out],HP1.out⟩
     case measure=>simp[intOf];omega
   | false=>
    rw[if_neg (by decide)] at HTK
    by_cases c1:xd≤(m:Int)
    ·have d1:decide (xd≤(m:Int))=true:=decide_eq_true c1
     by_cases c2:(m:Int)≤xe
     ·have d2:decide ((m:Int)≤xe)=true:=decide_eq_true c2
      rw[if_pos ⟨c1,c2⟩] at HTK
      obtain⟨q,hq⟩:∃ q:Nat,(m:Int)+xc=(q:Int):=⟨((m:Int)+xc).toNat,by omega⟩
      have hq64:q<64:=by omega
      have e3:=wrap_pow hq64
      have e1:IntKind.i64.wrap ((m:Int)+xc)=(q:Int):=by rw[IntWalk.i64_in _ (by omega)];exact hq
      have e4:wrap64 ((m:Int)+xc)=(q:Int):=by rw[←hq];unfold wrap64;omega
      rw[hq,Int.toNat_natCast] at HTK
      have HOR:=Lib.hid (or_pow G HLT.out hq64)
      clear c1 c2 hxx hq
      go_wp2_with fail
      go_roundw
      case rel=>exact⟨k+1,hlt,by go_num,by rw[HTK.out,←HOR.out],HP1.out⟩
      case measure=>simp[intOf];omega
     ·have d2:decide ((m:Int)≤xe)=false:=decide_eq_false c2
      rw[if_neg (fun h=>c2 h.2),Nat.or_zero] at HTK
      clear c1 c2 hxx
      go_wp2_with fail
      go_roundw
      case rel=>exact⟨k+1,hlt,by go_num,by rw[HTK.out],HP1.out⟩
      case measure=>simp[intOf];omega
    ·have d1:decide (xd≤(m:Int))=false:=decide_eq_false c1
     rw[if_neg (fun h=>c1 h.1),Nat.or_zero] at HTK
     clear c1 hxx
     go_wp2_with fail
     go_roundw
     case rel=>exact⟨k+1,hlt,by go_num,by rw[HTK.out],HP1.out⟩
     case measure=>simp[intOf];omega
  ·obtain rfl:k=ps.length:=by omega
   have j0:¬((ps.length:Nat):Int)<(ps.length:Int):=by omega
   rw[List.take_length]
   have HP1:=Lib.hid hP.below
   clear hP
   go_wp2_with fail
   go_ret
   exact⟨rfl,by rw[←HPB.out];exact HP1.out⟩
def chA (D:Dms) (k:Nat):List Int:=(D.getD k (0,[])).2
theorem chA_at {D:Dms} {k:Nat} {d:Int×List Int} (h:D[k]?=some d):chA D k=d.2:=by unfold chA;rw[List.getD_eq_getElem?_getD,h];rfl
theorem chA_of {D:Dms} (hD:(D.map Prod.fst).Nodup) {k:Nat} (hk:k<D.length):chsOf D (stA D k)=chA D k:=by
 have h:D[k]?=some D[k]:=List.getElem?_eq_getElem hk
 rw[stA_at h,chA_at h,chs_of hD (List.getElem_mem hk)]
def ChGd (D:Dms):Prop:=∀ d∈D,(∀ c∈d.2,2≤c∧c≤51)∧d.2.Pairwise (·<·)
theorem ChGd.at {D:Dms} (h:ChGd D) (k:Nat):(∀ c∈chA D k,2≤c∧c≤51)∧(chA D k).Pairwise (·<·):=by
 unfold chA
 rw[List.getD_eq_getElem?_getD]
 cases hk:D[k]? with
 | none=>exact⟨fun _ h=>(by cases h),List.Pairwise.nil⟩
 | some d=>exact h d (List.mem_of_getElem? hk)
def bmF (D:Dms) (f:Bool) (ps:List R5) (sh:Nat) (i:Nat) (l:List Int):Nat:=l.foldl (fun m d=>max m (Pop.pop (bkF f ps sh d &&& stS (chA D i)))) 0
theorem bm_take {D:Dms} {f:Bool} {ps:List R5} {sh i k:Nat} {l:List Int} {c:Int} (h:l[k]?=some c):bmF D f ps sh i (l.take (k+1))=max (bmF D f ps sh i (l.take k)) (Pop.pop (bkF f ps sh c &&& stS (chA D i))):=by
 unfold bmF;rw[List.take_add_one,h,List.foldl_append];rfl
theorem ctz_is {x k:Nat} (hx:x<18446744073709551616) (hx0:x≠0) (hk:x.testBit k=true) (hl:∀ j,j<k→x.testBit j=false):Lib.ctz 64 x=k:=by
 obtain⟨_,h2,h3⟩:=ctz_spec x hx hx0
 rcases Nat.lt_trichotomy (Lib.ctz 64 x) k with h | h | h
 ·rw[hl _ h] at h2;cases h2
 ·exact h
 ·rw[h3 _ h] at hk;cases hk
theorem and_one (x:Nat) (h0:x≠0) (hx:x<18446744073709551616):bits .and .u64 (x:Int) (IntKind.u64.wrap ((x:Int) - 1))=((x &&& (x - 1):Nat):Int):=by
 rw[IntWalk.u64_in _ (by omega),show ((x:Int) - 1)=((x - 1:Nat):Int) by omega,bits_and_u64_nat _ _ hx (by omega)]
theorem blocks_any (i t:Nat) (x:Nb) (l:Lk) (D:Dms) (LK:List Lk) (w:World) (hT:Tab w) (h:TabR w t D LK) (hx:l∈LK) (hg:x.g=l.g) (hi:i<D.length) (ho:x.o<D.length) (hl:LkOk l) (hch:ChGd D):
  Calls Tryz.prog 51 #[.pointer (some ⟨t,0,none⟩),.int .i64 i,.agg #[.int .i64 x.o,.bool x.f,.pointer (some ⟨x.g,0,none⟩)]] w (RetPost (.int .i64 (bmF D x.f l.ps l.sh i (chA D x.o):Nat)) w.heap.size w):=by
 have HBK:=Lib.hid (fun (d:Int) (W:World) (hd:2≤d∧d≤51) (hb:Below w.heap.size w W)=>blocked_any x l d W hg ((h.lk l hx).keep hb) hd hl)
 have HLT:=Lib.hid (fun d=>bkF_lt (f:=x.f) (ps:=l.ps) (d:=d) hl.sh hl.ps)
 obtain⟨⟨A0,A1,A2,c0,c1,c2,NV,hnv,q0,q1,q2,hr0,hr1,hr2,hr3⟩,_,ht,_⟩:=h
 obtain⟨xo,f,g⟩:=x
 obtain⟨li,lj,lg,A,c,ps,sh⟩:=l
 obtain rfl:g=lg:=hg
 dsimp only at ho HBK HLT ⊢
 obtain⟨b1,o1,rfl,hb1,hcl⟩:=hr1.2 (by omega)
 have m0:w.cell? ⟨b1,o1+xo,none⟩=some (.int .u64 (stS (chA D xo):Nat)):=by
  have e:D[xo]?=some D[xo]:=List.getElem?_eq_getElem ho
  rw[chA_at e];exact hcl xo _ (by rw[List.getElem?_map,e];rfl)
 have m1:w.cell? ⟨b1,o1+i,none⟩=some (.int .u64 (stS (chA D i):Nat)):=by
  have e:D[i]?=some D[i]:=List.getElem?_eq_getElem hi
  rw[chA_at e];exact hcl i _ (by rw[List.getElem?_map,e];rfl)
 have HCO:=Lib.hid (hch.at xo)
 have HCI:=Lib.hid (hch.at i)
 have HIL:=Lib.hid (chs_lt64 (hch.at i).1)
 have HOL:=Lib.hid (fun k=>chs_lt64 (fun c hc=>(hch.at xo).1 c (List.drop_subset k _ hc)))
 have HW:=Lib.hid (And.intro m0 (And.intro m1 (And.intro q1 (And.intro ht hb1))))
 have HTW:=Lib.hid hT
 have j0:(xo:Int)<(D.length:Int):=by omega
 have j1:(i:Int)<(D.length:Int):=by omega
 have HN:Hid (∀ k,bmF D f ps sh i ((chA D xo).take k)≤64):=Lib.hid (fun k=>max_fold_le _ _ _ _ (Nat.zero_le _) (fun d _=>by unfold Pop.pop;have:=List.countP_le_length (p:=fun j=>(bkF f ps sh d &&& stS (chA D i)).testBit j) (l:=List.range 64);rwa [List.length_range] at this))
 have HBT:=Lib.hid (fun (k:Nat) (c:Int) (hc:(chA D xo)[k]?=some c)=>bm_take (D:=D) (f:=f) (ps:=ps) (sh:=sh) (i:=i) hc)
 generalize chA D xo=O at *
 generalize chA D i=I at *
 generalize D.length=n at *
 have hW0:=(Hp.start w).alloc [.int .i64 xo,.bool f,.pointer (some ⟨g,0,none⟩)] 105
 obtain⟨W0,hW⟩:∃ W0,W0=w.alloc (.cells #[.int .i64 xo,.bool f,.pointer (some ⟨g,0,none⟩)] 105):=⟨_,rfl⟩
 rw[show ([.int .i64 xo,.bool f,.pointer (some ⟨g,0,none⟩)]:List Value).toArray=#[.int .i64 xo,.bool f,.pointer (some ⟨g,0,none⟩)] from rfl,←hW] at hW0
 have hb0:=hW0.below
 have p1:W0.cell? ⟨t,1,none⟩=some (.slice (some ⟨b1,o1,none⟩) n c1):=(hb0.cell (p:=⟨t,1,none⟩) ht).trans q1
 have p2:W0.cell? ⟨b1,o1+xo,none⟩=some (.int .u64 (stS O:Nat)):=(hb0.cell (p:=⟨b1,o1+xo,none⟩) hb1).trans m0
 have p3:=hW0.c 0 0 rfl rfl
 have p4:=hW0.lt 0 rfl
 have p5:t<W0.heap.size:=Nat.lt_of_lt_of_le ht hb0.size
 have HP0:=Lib.hid hW0.drew
 clear hcl hr0 hr1 hr2 hr3 q0 q1 q2 hnv hW0 hb0 m0 m1 hT hl hch
 generalize hp2:w.heap.size=pb at HP0 p3 p4
 have HPB:=Lib.hid hp2
 clear hp2
 go_enter Tryz.func51,Tryz.ntmps51
 go_upto_region 1 with fail
 rw[←hW,HPB.out]
 clear hW
 go_wp2_with fail
 refine Lx.region (C:=fun _=>True) (hs:=[]) (by kernel_rfl) (by kernel_rfl) trivial ?_
 repeat' (first|((first|refine Lx.ln (fun K hK=>?_) | (first|(refine Lx.lp (v:=?_) ?_ (fun K hK=>?_);rotate_left 1;intro w' hCw;try dsimp only at hCw) | (refine Lx.lr (v:=?_) ?_ (fun K hK=>?_);rotate_left 1));go_simp;first|done | with_reducible rfl);go_simp;refine hK _ ?_;clear hK K) | (refine Lx.le (fun K hK=>?_);go_simp;(first|fail | skip);refine hK _ _ (trivial) ?_;clear hK K) | (refine Lx.lex_cases rfl rfl rfl (fun hgd K hK=>?_) (fun hgd K hK=>?_)<;>(try simp only[decide_eq_true_eq,decide_eq_false_iff_not] at hgd)<;>(first|(exfalso;omega) | (go_simp;refine hK _ ?_;clear hK K))))
 all_goals (refine Lx.lex_nil ?_)
 go_wp2_with fail
 clear p1 p2 p3 p4 p5
 go_loopw [7,8] (fun mv bv wr=>∃ k:Nat,k≤O.length∧mv=.int .i64 (bmF D f ps sh i (O.take k):Nat)∧bv=.int .u64 (stS (O.drop k):Nat)∧Hp w w wr [.blk pb 105 [.int .i64 xo,.bool f,.pointer (some ⟨g,0,none⟩)]] []) (fun _ bv _=>(match bv with | .int _ x=>x.toNat | _=>0))
 case atStart=>exact⟨0,Nat.zero_le _,rfl,rfl,HP0.out⟩
 case round=>
  clear HP0
  obtain⟨k,hk,rfl,rfl,hP⟩:=hrel
  have HP:=Lib.hid hP
  by_cases hlt:k<O.length
  ·obtain⟨c,hc⟩:∃ c,O[k]?=some c:=⟨_,List.getElem?_eq_getElem hlt⟩
   have hd:O.drop k=c::O.drop (k+1):=by
    obtain⟨h1,h2⟩:=List.getElem?_eq_some_iff.1 hc
    rw[List.drop_eq_getElem_cons h1,h2]
   have hc2:=HCO.out.1 c (List.mem_of_getElem? hc)
   have hs:=chs_step (c:=c) (l:=O.drop (k+1)) (fun x hx=>HCO.out.1 x (List.drop_subset k O (hd ▸ hx))) (hd ▸ HCO.out.2.sublist (List.drop_sublist k O))
   rw[←hd] at hs
   have hx64:=HOL.out k
   have HTK:=Lib.hid (HBT.out k c hc)
   have HN0:=Lib.hid (HN.out k)
   have hctz:=ctz_is hx64 hs.1 hs.2.1 hs.2.2.1
   have HAND:=Lib.hid (and_one _ hs.1 hx64)
   rw[hs.2.2.2] at HAND
   have HTZ:=Lib.hid (fun W (hb:Below w.heap.size w W)=>tz_any (stS (O.drop k)) W hx64 hs.1 (HTW.out.keep hb))
   rw[hctz,Int.toNat_of_nonneg (by omega)] at HTZ
   have HLESS:Hid (stS (O.drop (k+1))<stS (O.drop k)):=Lib.hid (by
    rw[←hs.2.2.2]
    exact Nat.lt_of_le_of_lt Nat.and_le_right (Nat.sub_lt (Nat.pos_of_ne_zero hs.1) (by decide)))
   have d0:¬((stS (O.drop k):Nat):Int)=0:=by have:=hs.1;omega
   have d1:(((stS (O.drop k):Nat):Int) != 0)=true:=by simpa using hs.1
   have hbw:=hP.below
   obtain⟨m0,m1,q1,ht',hb1'⟩:=HW.out
   have p1:wr.cell? ⟨t,1,none⟩=some (.slice (some ⟨b1,o1,none⟩) n c1):=(hbw.cell (p:=⟨t,1,none⟩) ht').trans q1
   have p2:wr.cell? ⟨b1,o1+i,none⟩=some (.int .u64 (stS I:Nat)):=(hbw.cell (p:=⟨b1,o1+i,none⟩) hb1').trans m1
   have p3:=hP.c 0 0 rfl rfl
   have p4:=hP.c 0 1 rfl rfl
   have p5:=hP.c 0 2 rfl rfl
   have p6:=hP.lt 0 rfl
   have p7:t<wr.heap.size:=Nat.lt_of_lt_of_le ht' hbw.size
   have p8:b1<wr.heap.size:=Nat.lt_of_lt_of_le hb1' hbw.size
   have HD:=Lib.hid hbw.drew
   clear hd hs hctz hbw m0 m1 q1 hP hx64
   generalize stS (O.drop k)=X at *
   generalize hY:stS (O.drop (k+1))=Y at *
   have HYE:=Eqn.mk hY
   generalize bmF D f ps sh i (O.take k)=M at *
   generalize hM:bmF D f ps sh i (O.take (k+1))=M' at *
   have HME:=Eqn.mk hM
   clear hY hM
   go_wp2_with fail
   refine Lx.region (C:=fun Z=>Z.cell? ⟨t,1,none⟩=some (.slice (some ⟨b1,o1,none⟩) n c1)∧Z.cell? ⟨b1,o1+i,none⟩=some (.int .u64 (stS I:Nat))∧Z.cell? ⟨pb,0,none⟩=some (.int .i64 xo)∧Z.cell? ⟨pb,1,none⟩=some (.bool f)∧Z.cell? ⟨pb,2,none⟩=some (.pointer (some ⟨g,0,none⟩))) (hs:=[0,7,10]) (by kernel_rfl) (by kernel_rfl) ⟨p1,p2,p3,p4,p5⟩ ?_
   repeat' (first|((first|refine Lx.ln (fun K hK=>?_) | (first|(refine Lx.lp (v:=?_) ?_ (fun K hK=>?_);rotate_left 1;intro w' hCw;try dsimp only at hCw) | (refine Lx.lr (v:=?_) ?_ (fun K hK=>?_);rotate_left 1));go_simp;first|done | with_reducible rfl);go_simp;refine hK _ ?_;clear hK K) | (refine Lx.le (fun K hK=>?_);go_simp;(first|(go_at_call 99;refine(HTZ.out _ HD.out).mono ?_;rintro e W1 ⟨rfl,rfl⟩) | (go_at_call 98;refine(HBK.out c _ hc2 HD.out).mono ?_;rintro e W2 ⟨rfl,hb2⟩;have HP2:=Lib.hid (HP.out.drew.keep hb2);have r1:=(hb2.cell (p:=⟨t,1,none⟩) p7).trans p1;have r2:=(hb2.cell (p:=⟨b1,o1+i,none⟩) p8).trans p2;have r3:=(hb2.cell (p:=⟨pb,0,none⟩) p6).trans p3;have r4:=(hb2.cell (p:=⟨pb,1,none⟩) p6).trans p4;have r5:=(hb2.cell (p:=⟨pb,2,none⟩) p6).trans p5;clear hb2) | skip);refine hK _ _ (by first|exact⟨p1,p2,p3,p4,p5⟩ | exact⟨r1,r2,r3,r4,r5⟩) ?_;clear hK K) | (refine Lx.lex_cases rfl rfl rfl (fun hgd K hK=>?_) (fun hgd K hK=>?_)<;>(try simp only[decide_eq_true_eq,decide_eq_false_iff_not] at hgd)<;>(first|(exfalso;omega) | (go_simp;refine hK _ ?_;clear hK K))))
   all_goals (refine Lx.lex_nil ?_)
   have HY:=Lib.hid (HLT.out c)
   have HPOP:=Lib.hid (fun W=>ones_any (bkF f ps sh c &&& stS I) W (Nat.lt_of_le_of_lt Nat.and_le_left HY.out))
   have e9:bits .and .u64 ((bkF f ps sh c:Nat):Int) ((stS I:Nat):Int)=((bkF f ps sh c &&& stS I:Nat):Int):=bits_and_u64_nat _ _ HY.out HIL.out
   rw[e9]
   generalize bkF f ps sh c &&& stS I=Q at *
   clear e9 r1 r2 r3 r4 r5 p1 p2 p3 p4 p5 p6 p7 p8
   go_wp2_with fail
   refine(HPOP.out _).mono ?_
   rintro e W3 ⟨rfl,rfl⟩
   go_wp2_with fail
   refine⟨⟨k+1,hlt,?_,?_,HP2.out⟩,?_⟩
   ·rw[HME.out,HTK.out]
    congr 1
    split<;>omega
   ·rw[HYE.out,HAND.out]
   ·rw[HAND.out]
    have:=HLESS.out
    show ((Y:Int)).toNat<((X:Int)).toNat
    omega
  ·obtain rfl:k=O.length:=by omega
   have e0:stS (O.drop O.length)=0:=by rw[List.drop_length];rfl
   rw[List.take_length,e0]
   have HP1:=Lib.hid hP.below
   clear hP HP
   go_wp2_with fail
   go_ret
   exact⟨rfl,by rw[←HPB.out];exact HP1.out⟩
def frF (LK:List Lk) (on:List Int) (nb:List Nb) (m:Nat):Nat:=nb.foldl (fun m x=>if on.getD x.o 0=0 then m else match LK.find? fun l=>decide (l.g=x.g) with
 | some l=>mi m (bkF x.f l.ps l.sh (on.getD x.o 0))
 | none=>m) m
theorem fr_take {LK:List Lk} {on:List Int} {nb:List Nb} {m k:Nat} {x:Nb} {l:Lk} (h:nb[k]?=some x) (hl:LK.find? (fun l=>decide (l.g=x.g))=some l):frF LK on (nb.take (k+1)) m=if on.getD x.o 0=0 then frF LK on (nb.take k) m else mi (frF LK on (nb.take k) m) (bkF x.f l.ps l.sh (on.getD x.o 0)):=by
 unfold frF
 rw[List.take_add_one,h,List.foldl_append]
 simp only[Option.toList_some,List.foldl_cons,List.foldl_nil,hl]
theorem mi_le (a b:Nat):mi a b≤a:=by
 apply Nat.le_of_testBit
 intro i h
 rw[mi_tb,Bool.and_eq_true] at h
 exact h.1
theorem fr_lt {LK:List Lk} {on:List Int}:∀(nb:List Nb) (m:Nat),frF LK on nb m≤m:=by
 intro nb
 induction nb with
 | nil=>intro m;exact Nat.le_refl _
 | cons x q ih=>
  intro m
  unfold frF
  rw[List.foldl_cons]
  refine Nat.le_trans (ih _) ?_
  split
  ·exact Nat.le_refl _
  ·split
   ·exact mi_le _ _
   ·exact Nat.le_refl _
theorem free_any (i t:Nat) (A:Option Addr) (n cp:Nat) (on:List Int) (D:Dms) (LK:List Lk) (w:World) (hT:Tab w) (h:TabR w t D LK) (hi:i<D.length) (hon:Row1 intV w w.heap.size A n on) (hn:n=D.length) (hcr:∀ x∈on,x=0∨(2≤x∧x≤51))
  (hnb:∀ x∈nbs LK i,x.o<D.length∧∃ l,LK.find? (fun l=>decide (l.g=x.g))=some l∧LkOk l) (hlen:(nbs LK i).length≤1000000) (hch:ChGd D) (h0:frF LK on (nbs LK i) (stS (chA D i))≠0):
  Calls Tryz.prog 63 #[.pointer (some ⟨t,0,none⟩),.int .i64 i,.slice A n cp] w (RetPost (.int .i64 (Lib.ctz 64 (frF LK on (nbs LK i) (stS (chA D i))))) w.heap.size w):=by
 subst hn
 have HBK:=Lib.hid (fun (x:Nb) (l:Lk) (d:Int) (W:World) (hl:LK.find? (fun l=>decide (l.g=x.g))=some l) (hlo:LkOk l) (hd:2≤d∧d≤51) (hb:Below w.heap.size w W)=>blocked_any x l d W (show x.g=l.g from (show l.g=x.g by simpa using List.find?_some hl).symm) ((h.lk l (List.mem_of_find?_eq_some hl)).keep hb) hd hlo)
 obtain⟨⟨A0,A1,A2,c0,c1,c2,NV,hnv,q0,q1,q2,hr0,hr1,hr2,hr3⟩,_,ht,_⟩:=h
 obtain⟨b1,o1,rfl,hb1,hcl⟩:=hr1.2 (by omega)
 have m1:w.cell? ⟨b1,o1+i,none⟩=some (.int .u64 (stS (chA D i):Nat)):=by
  have e:D[i]?=some D[i]:=List.getElem?_eq_getElem hi
  rw[chA_at e];exact hcl i _ (by rw[List.getElem?_map,e];rfl)
 obtain⟨b2,o2,rfl,hb2,hc2⟩:=hr2.2 (by omega)
 obtain⟨N,hN⟩:∃ N,NV[i]?=some N:=⟨_,List.getElem?_eq_getElem (by omega)⟩
 have m2:w.cell? ⟨b2,o2+i,none⟩=some N.val:=hc2 i N hN
 have hrow:=hr3 i N hN
 obtain⟨An,nn,cn⟩:=N
 unfold NH.val at m2
 dsimp only at m2 hrow
 have hnl:=hrow.1
 have HRO:=Lib.hid hrow
 have HON:=Lib.hid hon
 have HTW:=Lib.hid hT
 have HNB:=Lib.hid hnb
 have HCR:=Lib.hid hcr
 have H0:=Lib.hid h0
 have HM:Hid (∀ L:List Nb,frF LK on L (stS (chA D i))<18446744073709551616):=Lib.hid (fun L=>Nat.lt_of_le_of_lt (fr_lt L _) (chs_lt64 (hch.at i).1))
 have j1:(i:Int)<(D.length:Int):=by omega
 have HNL:=Eqn.mk hnl
 have hnn:nn≤1000000:=by omega
 clear hcl hr0 hr1 hr2 hr3 q0 hc2 hrow hnv hT hon hnb hcr h0 hch hnl hlen
 generalize stS (chA D i)=M at *
 go_enter Tryz.func63,Tryz.ntmps63
 go_wp2_with fail
 clear m1 m2 q1 q2 hN
 go_loopw [7,26] (fun mv iv wr=>∃ k:Nat,k≤nn∧iv=.int .i64 k∧mv=.int .u64 (frF LK on ((nbs LK i).take k) M:Nat)∧Below w.heap.size w wr) (fun _ iv _=>nn - (intOf iv).toNat)
 case atStart=>exact⟨0,Nat.zero_le _,rfl,rfl,Below.refl _ _⟩
 case round=>
  obtain⟨k,hk,rfl,rfl,hb⟩:=hrel
  by_cases hlt:k<nn
  ·have j0:(k:Int)<(nn:Int):=by omega
   obtain⟨x,hx⟩:∃ x,(nbs LK i)[k]?=some x:=⟨_,List.getElem?_eq_getElem (by rw[HNL.out];exact hlt)⟩
   obtain⟨hxo,l,hl,hlo⟩:=HNB.out x (List.mem_of_getElem? hx)
   have HTK:=Lib.hid (fr_take (on:=on) (m:=M) hx hl)
   obtain⟨b,off,rfl,hbl,hc⟩:=(HRO.out.below hb).2 (by omega)
   have y0:wr.cell? ⟨b,off+k * 3,none⟩=some (.int .i64 x.o):=hc k x hx 0 (by decide)
   have y1:wr.cell? ⟨b,off+k * 3+1,none⟩=some (.bool x.f):=hc k x hx 1 (by decide)
   have y2:wr.cell? ⟨b,off+k * 3+2,none⟩=some (.pointer (some ⟨x.g,0,none⟩)):=hc k x hx 2 (by decide)
   obtain⟨v,hv⟩:∃ v,on[x.o]?=some v:=⟨_,List.getElem?_eq_getElem (by rw[HON.out.1];exact hxo)⟩
   obtain⟨bo,oo,rfl,hbo,hco⟩:=(HON.out.below hb).2 (by omega)
   have y3:wr.cell? ⟨bo,oo+x.o,none⟩=some (.int .i64 v):=hco x.o v hv
   have y4:bo<wr.heap.size:=Nat.lt_of_lt_of_le hbo hb.size
   have hv0:on.getD x.o 0=v:=by rw[List.getD_eq_getElem?_getD,hv];rfl
   rw[hv0] at HTK
   have hvr:=HCR.out v (List.mem_of_getElem? hv)
   have HB1:=Lib.hid (hb.alloc (show w.heap.size≤wr.heap.size from hb.size) (.cells #[.int .i64 x.o,.bool x.f,.pointer (some ⟨x.g,0,none⟩)] 105))
   have HMM:=Lib.hid (HM.out ((nbs LK i).take k))
   have j2:(x.o:Int)<(D.length:Int):=by omega
   have HBX:=Lib.hid (fun W (hd:2≤v∧v≤51) hb=>HBK.out x l v W hl hlo hd hb)
   have HLT:=Lib.hid (bkF_lt (f:=x.f) (d:=v) hlo.sh hlo.ps)
   clear hb hc hx hl hco hv hv0 hlo
   generalize frF LK on ((nbs LK i).take k) M=G at *
   generalize hBF:bkF x.f l.ps l.sh v=BF at *
   obtain⟨xo,xf,xg⟩:=x
   dsimp only at y0 y1 y2 y3 j2 HB1 HBX
   by_cases hv0:v=0
   ·subst hv0
    rw[if_pos rfl] at HTK
    go_wp2_with fail
    go_roundw
    case rel=>exact⟨k+1,hlt,by go_num,by rw[HTK.out],HB1.out⟩
    case measure=>simp[intOf];omega
   ·have d1:(v != 0)=true:=by simpa using hv0
    rw[if_neg hv0] at HTK
    have HBY:=Lib.hid (HBX.out _ (by omega) HB1.out)
    have HAN:Hid (bits .andNot .u64 (G:Int) (BF:Int)=((mi G BF:Nat):Int)):=Lib.hid (by rw[u64_andNot_nat _ _ HMM.out HLT.out,andNot_mi _ _ HMM.out HLT.out])
    have HV0:=Lib.hid hv0
    clear hv0 hvr HBX
    go_wp2_with fail
    refine HBY.out.mono ?_
    rintro e W2 ⟨rfl,hb2⟩
    have HB2:=Lib.hid (HB1.out.trans (hb2.mono HB1.out.size))
    clear hb2 HB1 HBY y0 y1 y2 y3 y4
    go_wp2_with fail
    go_roundw
    case rel=>exact⟨k+1,hlt,by go_num,by rw[HTK.out,←HAN.out],HB2.out⟩
    case measure=>simp[intOf];omega
  ·obtain rfl:k=nn:=by omega
   have j0:¬((k:Nat):Int)<(k:Int):=by omega
   rw[List.take_of_length_le (by rw[HNL.out];exact Nat.le_refl _)]
   have HB1:=Lib.hid hb
   have HTZ:=Lib.hid (tz_any _ wr (HM.out _) H0.out (HTW.out.keep hb))
   clear hb
   generalize frF LK on (nbs LK i) M=G at *
   go_wp2_with fail
   refine HTZ.out.mono ?_
   rintro e W3 ⟨rfl,rfl⟩
   go_wp2_with fail
   go_ret
   exact⟨rfl,HB1.out⟩
section
variable {P : Program} {κ : Type} [DecidableEq κ]
structure KeyF (P:Program) (kt:TypeId) (enc:κ→Value):Prop where
 find:∀(w:World) (x:κ) (es:List MapEntry) (L:List (κ×Value)),Reads enc es L→(Instr.findKey kt (enc x) es).run P w=.ok (findI x L 0) w
 check:∀ w em x,(Instr.checkKey em 10000 kt (enc x)).run P w=.ok () w
 same:∀ x,Instr.sameBits 10000 (enc x) (enc x)=true
theorem KeyOk.toF {kt:TypeId} {enc:κ→Value} (K:KeyOk P kt enc):KeyF P kt enc:=⟨fun w x es L h=>run_find K w x es L h,K.check,K.same⟩
theorem run_lookF {t kt et:TypeId} {enc:κ→Value} (K:KeyF P kt enc) (ht:P.underlying t=some (.map kt et)) {w:World} {b:Nat} {f:κ→Option Value} (h:MapF enc w b f) {z:Value} (hz:(zeroValue et).run P w=.ok z w) (x:κ):
  (Instr.lookup t (.map (some b)) (enc x) false).run P w=.ok ((f x).getD z) w:=by
 obtain⟨es,cl,L,hb,hR,hL⟩:=h
 unfold Instr.lookup
 simp only[Sem.run_bind,run_underlying ht,Result.andThen_ok,MapKept.run_getObj_map hb,Sem.run_pure,K.check,K.find w x _ _ hR]
 rw[←hL,←findI_look x L 0]
 cases findI x L 0 with
 | none=>simp[hz]
 | some r=>simp
theorem run_putF {t kt et:TypeId} {enc:κ→Value} (K:KeyF P kt enc) (ht:P.underlying t=some (.map kt et)) {w:World} {b:Nat} {f:κ→Option Value} (h:MapF enc w b f) (x:κ) (v:Value):
  ∃ w',(Instr.mapUpdate t (.map (some b)) (enc x) v).run P w=.ok () w'∧MapF enc w' b (fun y=>if y=x then some v else f y)∧w.grownBy w' (some b):=by
 have hlt:=h.lt
 obtain⟨es,cl,L,hb,hR,hL⟩:=h
 have hg:∀ o:Obj,w.grownBy { w with heap:=w.heap.setIfInBounds b o } (some b):=fun o=>
  ⟨rfl,rfl,rfl,by simp,fun k _ hk=>by
   have:k≠b:=fun e=>hk (by rw[e])
   simp[Array.getElem?_setIfInBounds_ne (Ne.symm this)]⟩
 unfold Instr.mapUpdate
 simp only[Sem.run_bind,run_underlying ht,Result.andThen_ok,MapKept.run_getObj_map hb,K.check,K.find w x _ _ hR]
 cases hf:findI x L 0 with
 | none=>
  simp only[MapKept.run_setObj_map _ hb]
  refine⟨_,rfl,⟨es.push ⟨enc x,v,cl⟩,cl+1,L++[(x,v)],by simp[hlt],?_,fun y=>?_⟩,hg _⟩
  ·unfold Reads at hR ⊢
   simp[hR]
  ·rw[findI_none x L 0 hf v y,hL]
 | some r=>
  obtain⟨j,u⟩:=r
  obtain⟨_,p,hp,hpx,hset⟩:=findI_at x L 0 j u hf
  rw[Nat.sub_zero] at hp hset
  have hlen:es.toList.length=L.length:=by unfold Reads at hR;have:=congrArg List.length hR;simpa using this
  have hjl:j<L.length:=(List.getElem?_eq_some_iff.1 hp).1
  have hje:j<es.size:=by rw[←Array.length_toList,hlen];exact hjl
  have hkey:(es[j]?.map (·.key)).getD (enc x)=enc x:=by
   have h1:=congrArg (fun l=>l[j]?) hR
   simp only[List.getElem?_map,hp,Array.getElem?_toList] at h1
   cases he:es[j]? with
   | none=>rfl
   | some e=>
    rw[he] at h1
    simp only[Option.map_some,Option.some.injEq,Prod.mk.injEq] at h1
    simp[h1.1,hpx]
  simp only[hkey,Instr.keyThatStays,K.same,if_true,Sem.run_bind,Sem.run_pure,Result.andThen_ok,MapKept.run_setObj_map _ hb]
  refine⟨_,rfl,⟨es.modify j fun e=>{ e with key:=enc x,val:=v },cl,L.set j (x,v),by simp[hlt],?_,fun y=>?_⟩,hg _⟩
  ·unfold Reads at hR ⊢
   apply List.ext_getElem?
   intro m
   have h1:=congrArg (fun l=>l[m]?) hR
   simp only[List.getElem?_map,Array.getElem?_toList,Array.getElem?_modify,List.getElem?_set] at h1 ⊢
   by_cases hm:j=m
   ·subst hm
    simp[hje,hjl]
   ·simp only[hm,if_false]
    exact h1
  ·rw[hset v y,hL]
end
theorem int_now {q:IntKind} {x:Int}:∀(es:List MapEntry) (L:List (Int×Value)) (i:Nat),Reads (fun k:Int=>Value.int .i64 k) es L→Instr.findNow (.int q) (.int .i64 x) es i=some (findI x L i):=by
 intro es
 induction es with
 | nil=>
  intro L i h
  cases L with
  | nil=>rfl
  | cons=>simp[Reads] at h
 | cons e es ih=>
  intro L i h
  cases L with
  | nil=>simp[Reads] at h
  | cons p r=>
   simp only[Reads,List.map_cons,List.cons.injEq,Prod.mk.injEq] at h
   obtain⟨⟨hk,hv⟩,hr⟩:=h
   rw[Instr.findNow,hk,Instr.sameNow,if_pos rfl,findI]
   by_cases hx:x=p.1
   ·simp[hx,hv]
   ·have:(x == p.1)=false:=by simpa using hx
    rw[this,if_neg hx]
    exact ih r (i+1) hr
theorem int_key:KeyF Tryz.prog 3 (fun k:Int=>Value.int .i64 k) where
 find:=fun w x es L h=>by
  unfold Instr.findKey
  rw[Sem.run_bind,run_underlying Tryz.underlying3,Result.andThen_ok,int_now es L 0 h]
  rfl
 check:=fun w em x=>by kernel_rfl
 same:=fun x=>by simp[Instr.sameBits]
def enc2 (k:Int×Int):Value:=.agg #[.int .i64 k.1,.int .i64 k.2]
theorem two_eq (w:World) (a b c d:Int):(Op.equal 145 (.agg #[.int .i64 a,.int .i64 b]) (.agg #[.int .i64 c,.int .i64 d])).run Tryz.prog w=.ok (decide (a=c∧b=d)) w:=by
 have p0:∀(w':World) (x y:Int),(part 3 #[.int .i64 x,.int .i64 y] 0).run Tryz.prog w'=.ok (.int .i64 x) w':=fun _ _ _=>by kernel_rfl
 have p1:∀(w':World) (x y:Int),(part 3 #[.int .i64 x,.int .i64 y] 1).run Tryz.prog w'=.ok (.int .i64 y) w':=fun _ _ _=>by kernel_rfl
 have hz:(sizeOf 3).run Tryz.prog w=.ok 1 w:=by kernel_rfl
 have he:∀(w':World) (a b:Int),(Op.equalIn 9999 3 (.int .i64 a) (.int .i64 b)).run Tryz.prog w'=.ok (a == b) w':=fun w' a b=>run_equalIn_int (P:=Tryz.prog) w' 9998 3 .i64 .i64 a b Tryz.underlying3
 rw[Op.equal,Op.maxDepth,Op.equalIn]
 simp only[Sem.run_bind,run_underlying Tryz.underlying145,Result.andThen_ok,hz]
 simp only[Std.Legacy.Range.forIn_eq_forIn_range',Std.Legacy.Range.size,List.range'_succ,List.range'_zero,List.forIn_cons,List.forIn_nil,Sem.run_bind,Nat.mul_one,p0,he,Result.andThen_ok]
 by_cases h0:a=c
 rotate_left
 ·simp[h0]
 by_cases h1:b=d
 rotate_left
 ·simp[h1,p1,he,h0]
 simp[p1,he,h0,h1]
theorem two_key:KeyF Tryz.prog 145 enc2:=KeyOk.toF {
 under:=⟨_,Tryz.underlying145,fun _ _=>rfl⟩
 check:=by intro w em x;kernel_rfl
 eq:=by
  intro w a b
  rw[enc2,enc2,two_eq]
  congr 1
  rw[decide_eq_decide]
  exact⟨fun h=>Prod.ext h.1 h.2,fun h=>by rw[h];exact⟨rfl,rfl⟩⟩
 same:=by intro a;simp[enc2,Instr.sameBits] }
theorem Hp.mapNe {w u W:World} {L:List Ent} {ds:List Nat} (h:Hp w u W L ds) {b:Nat} {es:Array MapEntry} {cl:Nat} (hb:W.heap[b]?=some (.map es cl)) {e:Ent} (he:e∈L):e.dst≠some b:=by
 intro hd
 obtain⟨c,t,hc⟩:=Ent.cells (h.all e he) hd
 rw[hb] at hc;cases hc
theorem Hp.mapKeep {w u W X:World} {L:List Ent} {ds:List Nat} {κ:Type} [DecidableEq κ] {enc:κ→Value} {b:Nat} {f:κ→Option Value} (h:Hp w u W L ds) (hm:MapF enc W b f) {e:Ent} (he:e∈L) (hg:W.grownBy X e.dst):MapF enc X b f:=by
 obtain⟨es,cl,L',h1,h2⟩:=hm
 exact MapF.grown ⟨es,cl,L',h1,h2⟩ hg (h.mapNe h1 he)
theorem Hp.mapPut {w u W X:World} {L:List Ent} {κ:Type} [DecidableEq κ] {enc:κ→Value} {b:Nat} {f:κ→Option Value} (h:Hp w u W L []) (hm:MapF enc W b f) (hlo:w.heap.size≤b) (hg:W.grownBy X (some b)):Hp w X X L []:=by
 obtain⟨es,cl,L',h1,_⟩:=hm
 have hs:∀ e∈L,∀ g,e.dst=some g→X.heap[g]?=W.heap[g]?:=by
  intro e he g hd
  refine hg.block g (Ent.lt (h.all e he) hd) (fun e2=>?_)
  exact h.mapNe h1 he (hd.trans e2)
 exact⟨h.below.grown hg h.below.size (fun g hg'=>by cases hg';exact hlo),KeepsOthers.refl _,fun e he=>Ent.same (h.all e he) (hs e he),h.low,h.apart,fun _ hd=>(by cases hd),List.Pairwise.nil⟩
end Go.Proofs.YtjakdikhdndlgaaGreatDoor
