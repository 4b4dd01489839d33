/- Lemmas of the proof, part 11. Conditions: none. -/
import Derived.Test.YtjakdikhdndlgaaGreatDoorBas10
set_option maxRecDepth 100000
set_option maxHeartbeats 8000000
namespace Go.Proofs.YtjakdikhdndlgaaGreatDoor
open Go.RowKit
def stOk (l:List Int):Bool:=l.all stF&&incF cmpF l
theorem vst_any (A:Option Addr) (n c:Nat) (w:World) (l:List Int) (hn:n≤9223372036854775807) (hl:Row1 intV w w.heap.size A n l):
  Calls Tryz.prog 107 #[.slice A n c] w (RetPost (.bool (stOk l)) w.heap.size w):=by
 have HE:=Lib.hid (everySt_any A n c w l hn hl)
 have HI:=Lib.hid (incI_any A n c w l hn hl)
 have HF:Eqn (stOk l) (l.all stF&&incF cmpF l):=rfl
 rw[HF.out]
 clear HF hl
 generalize l.all stF=a at *
 generalize incF cmpF l=b at *
 go_enter Tryz.func107,Tryz.ntmps107
 go_wp2_with fail
 refine HE.out.mono ?_
 rintro e w1 ⟨rfl,rfl⟩
 cases a with
 | false=>
  go_wp2_with fail
  go_ret
  exact⟨ret_bool rfl,Below.refl _ _⟩
 | true=>
  go_wp2_with fail
  refine HI.out.mono ?_
  rintro e w2 ⟨rfl,hb⟩
  have HB:=Lib.hid hb
  clear hb
  go_wp2_with fail
  go_ret
  exact⟨ret_bool rfl,HB.out⟩
def PrbOwn (B:Nat) (s:PrbS) (ds:List Dom) (r:Rul) (W:World):Prop:=
 s.nd=ds.length∧W.ownsRow B 64 2 (.slice s.ad s.nd s.cd) ds.length (flat 2 Dom.cell ds)∧(∀ d∈ds,W.ownsRow B 3 1 (.slice d.adr d.len d.cap) d.len (d.chs.map intV)) ∧
 (s.rs.n0=r.pairs.length∧s.rs.n1=r.loads.length∧s.rs.n2=r.caps.length) ∧
 W.ownsRow B 67 5 (.slice s.rs.a0 s.rs.n0 s.rs.c0) r.pairs.length (flat 5 R5.cell r.pairs)∧W.ownsRow B 69 5 (.slice s.rs.a1 s.rs.n1 s.rs.c1) r.loads.length (flat 5 R5.cell r.loads)∧W.ownsRow B 71 4 (.slice s.rs.a2 s.rs.n2 s.rs.c2) r.caps.length (flat 4 R4.cell r.caps) ∧
 r.pairs.length≤9223372036854775807∧r.loads.length≤9223372036854775807∧r.caps.length≤9223372036854775807
theorem PrbOwn.at {B:Nat} {s:PrbS} {ds:List Dom} {r:Rul} {W:World} (h:PrbOwn B s ds r W):PrbAt W W.heap.size s ds r:=by
 obtain⟨A,n,c,⟨A0,n0,c0,A1,n1,c1,A2,n2,c2⟩⟩:=s
 obtain⟨h1,h2,h3,⟨e0,e1,e2⟩,h4,h5,h6,l0,l1,l2⟩:=h
 dsimp only at *
 subst h1 e0 e1 e2
 exact⟨⟨rowS_own (by decide) h2,fun d hd=>row1_own (h3 d hd)⟩,rowS_own (by decide) h4,rowS_own (by decide) h5,rowS_own (by decide) h6,l0,l1,l2⟩
theorem prbOwn_nil (B:Nat) (W:World):PrbOwn B ⟨none,0,0,⟨none,0,0,none,0,0,none,0,0⟩⟩ [] ⟨[],[],[]⟩ W:=
 ⟨rfl,World.ownsRow_nil _ _ _ _,(fun d h=>by cases h),⟨rfl,rfl,rfl⟩,World.ownsRow_nil _ _ _ _,World.ownsRow_nil _ _ _ _,World.ownsRow_nil _ _ _ _,by decide,by decide,by decide⟩
def PrbNew (o:(List (Int×List Int)×Rul)×Int) (w:World) (e:Ending) (w':World):Prop:=∃ s ds,e=.returned (.tuple #[PrbS.val s,.int .i64 o.2])∧PrbOwn w.heap.size s ds o.1.2 w'∧ds.map Dom.say=o.1.1∧Below w.heap.size w w'
def resR (S:Nat) (r:Rul):Rul:=⟨r.pairs.filter (fun c=>hasS S c.a&&hasS S c.b),r.loads.filter (fun c=>hasS S c.a&&hasS S c.b),r.caps.filter (fun c=>hasS S c.a)⟩
def restF (ds:List Dom) (r:Rul) (L:List Int):(List (Int×List Int)×Rul)×Int:=
 if validP ds r=true∧stOk L=true then (if mi (stS L) (stS (ds.map Dom.st))=0 then (((ds.filter fun d=>hasS (stS L) d.st).map Dom.say,resR (stS L) r),0) else (([],⟨[],[],[]⟩),9)) else (([],⟨[],[],[]⟩),2)
theorem valid_st {ds:List Dom} {r:Rul} (h:validP ds r=true):(∀ y∈ds.map Dom.st,0≤y∧y<512)∧ds.length≤512∧(∀ d∈ds,d.chs.length≤50)∧r.pairs.length≤4096∧r.loads.length≤1024∧r.caps.length≤1024:=by
 simp only[validP,validD,Bool.and_eq_true] at h
 obtain⟨⟨⟨h1,h2⟩,h3⟩,_⟩:=h
 rw[List.all_eq_true] at h1
 have hs:∀ y∈ds.map Dom.st,0≤y∧y<512:=by
  intro y hy
  obtain⟨d,hd,rfl⟩:=List.mem_map.1 hy
  have:=h1 d hd
  simp only[goodD,Bool.and_eq_true] at this
  exact st_range this.1.1
 refine⟨hs,?_,fun d hd=>?_,rules_len h2⟩
 ·have h4:=(inc_st ds).1 h3
  have h5:=inc_len (ds.map Dom.st) 0 511 (by decide) (List.pairwise_map.2 h4) (fun x hx=>by have:=hs x hx;omega)
  rw[List.length_map] at h5
  omega
 ·have:=h1 d hd
  simp only[goodD,Bool.and_eq_true] at this
  apply chIn_len
  rw[chIn_good,this.1.2,this.2];rfl
theorem stOk_in {L:List Int} (h:stOk L=true):∀ y∈L,0≤y∧y<512:=by
 simp only[stOk,Bool.and_eq_true,List.all_eq_true] at h
 exact fun y hy=>st_range (h.1 y hy)
theorem stS_fit {l:List Int} (h:∀ y∈l,0≤y∧y<512):Fit (stS l):=by
 intro i hi
 cases hb:(stS l).testBit i with
 | false=>rfl
 | true=>
  have:=stS_bit l 0 i
  rw[show l.foldl (fun a i=>a ||| 2 ^ i.toNat) 0=stS l from rfl,hb] at this
  simp only[Nat.zero_testBit,Bool.false_or] at this
  obtain⟨y,hy,he⟩:=List.any_eq_true.1 this.symm
  have:=h y hy
  simp only[beq_iff_eq] at he
  omega
theorem restrict_main (s:PrbS) (A:Option Addr) (n c:Nat) (w:World) (ds:List Dom) (r:Rul) (L:List Int) (hn:s.nd≤9223372036854775807) (hd:∀ d∈ds,d.len≤9223372036854775807) (hL:n≤9223372036854775807) (h:PrbAt w w.heap.size s ds r) (hl:Row1 intV w w.heap.size A n L)
  (hv:validP ds r=true) (hq:stOk L=true) (hm:mi (stS L) (stS (ds.map Dom.st))=0):
  Calls Tryz.prog 60 #[s.val,.slice A n c] w (PrbNew (((ds.filter fun d=>hasS (stS L) d.st).map Dom.say,resR (stS L) r),0) w):=by
 obtain⟨Ad,nd,cd,⟨A0,n0,c0,A1,n1,c1,A2,n2,c2⟩⟩:=s
 obtain⟨W0,hW0⟩:∃ W0,W0=(w.alloc (.cells #[.slice Ad nd cd,.slice A0 n0 c0,.slice A1 n1 c1,.slice A2 n2 c2] 29)).alloc (.cells #[.slice none 0 0,.slice none 0 0,.slice none 0 0,.slice none 0 0] 29):=⟨_,rfl⟩
 have hB0:Below w.heap.size w W0:=by rw[hW0];exact((Below.refl _ w).alloc (Nat.le_refl _) _).alloc (by simp) _
 have hs0:W0.heap.size=w.heap.size+2:=by rw[hW0];simp
 have HC0:Hid (W0.cell? ⟨w.heap.size,0,none⟩=some (.slice Ad nd cd)∧W0.cell? ⟨w.heap.size,1,none⟩=some (.slice A0 n0 c0)∧W0.cell? ⟨w.heap.size,2,none⟩=some (.slice A1 n1 c1)∧W0.cell? ⟨w.heap.size,3,none⟩=some (.slice A2 n2 c2)):=Lib.hid (by rw[hW0];refine⟨?_,?_,?_,?_⟩<;>simp[go_sem])
 have HX6:Hid (Blk W0 (w.heap.size+1) 29 [.slice none 0 0,.slice none 0 0,.slice none 0 0,.slice none 0 0]):=Lib.hid (by rw[hW0];have:=blk_new (w.alloc (.cells #[.slice Ad nd cd,.slice A0 n0 c0,.slice A1 n1 c1,.slice A2 n2 c2] 29)) [.slice none 0 0,.slice none 0 0,.slice none 0 0,.slice none 0 0] 29;simpa using this)
 obtain⟨hst,hdl,hch,hlen⟩:=valid_st hv
 have hLi:=stOk_in hq
 have HFS:=Lib.hid (stS_fit hLi)
 have HPA:=Lib.hid (h.1.keep hB0)
 have HRA:=Lib.hid (h.2.keep hB0)
 have HLr:=Lib.hid (hl.keep hB0)
 have HPV:=Lib.hid (pvalid_any ⟨Ad,nd,cd,⟨A0,n0,c0,A1,n1,c1,A2,n2,c2⟩⟩ W0 ds r hn hd ⟨h.1.keep hB0,h.2.keep hB0⟩)
 rw[hv] at HPV
 have HVS:Hid (∀ W,Below W0.heap.size W0 W→Calls Tryz.prog 107 #[.slice A n c] W (RetPost (.bool true) W.heap.size W)):=Lib.hid (fun W hb=>by have:=vst_any A n c W L hL (HLr.out.keep hb);rw[hq] at this;exact this)
 have HOF:Hid (∀ W,Below W0.heap.size W0 W→Calls Tryz.prog 37 #[.slice A n c] W (RetPost (.tuple #[sV (stS L),.int .i64 0]) W.heap.size W)):=Lib.hid (fun W hb=>by have:=of_any A n c W L hL (HLr.out.keep hb);rw[ofF_in hLi] at this;exact this)
 have HMM:Hid (∀ W,Below W0.heap.size W0 W→Calls Tryz.prog 71 #[.agg #[.slice Ad nd cd,.slice A0 n0 c0,.slice A1 n1 c1,.slice A2 n2 c2]] W (RetPost (sV (stS (ds.map Dom.st))) W.heap.size W)):=Lib.hid (fun W hb=>members_any ⟨Ad,nd,cd,⟨A0,n0,c0,A1,n1,c1,A2,n2,c2⟩⟩ W ds (by have:=HPA.out.1.1;dsimp only at this ⊢;omega) hst (HPA.out.keep hb).1)
 have HSB:Hid (∀ W,Calls Tryz.prog 108 #[sV (stS L),sV (stS (ds.map Dom.st))] W (RetPost (.bool true) W.heap.size W)):=Lib.hid (fun W=>by have:=subset_any (stS L) (stS (ds.map Dom.st)) HFS.out W;rw[hm] at this;exact this)
 have HB0:=Lib.hid hB0
 have HFD:Hid (Eqn (ds.filter fun d=>hasS (stS L) d.st) (ds.filter fun d=>hasS (stS L) d.st)):=Lib.hid rfl
 generalize hSM:stS (ds.map Dom.st)=SM at *
 generalize hSS:stS L=S at *
 clear HFD hSM hSS HFS
 unfold PrbS.val
 dsimp only at hn ⊢
 clear h hl hB0 hm hv hq hst hLi
 go_enter Tryz.func60,Tryz.ntmps60
 go_wp2_with fail
 rw[←hW0]
 clear hW0
 obtain⟨x0,x1,x2,x3⟩:=HC0.out
 have lw0:w.heap.size<W0.heap.size:=by omega
 go_wp2_with fail
 refine HPV.out.mono ?_
 rintro e Wa ⟨rfl,hba⟩
 have HBa:=Lib.hid hba
 clear hba x0 x1 x2 x3 lw0
 go_wp2_with fail
 refine(HVS.out _ HBa.out).mono ?_
 rintro e Wb ⟨rfl,hbb⟩
 have HBb:=Lib.hid (HBa.out.trans (hbb.mono HBa.out.size))
 clear hbb
 go_wp2_with fail
 refine(HOF.out _ HBb.out).mono ?_
 rintro e W1 ⟨rfl,hb1⟩
 have HB1:=Lib.hid (HBb.out.trans (hb1.mono HBb.out.size))
 clear hb1
 obtain⟨V,hV⟩:∃ V,V=W1.alloc (.cells (sL S).toArray 79):=⟨_,rfl⟩
 have hbv:Below W1.heap.size W1 V:=by rw[hV];exact(Below.refl _ _).alloc (Nat.le_refl _) _
 have hs6:Blk V W1.heap.size 79 (tabL 8 (sC S)):=by rw[hV,←sL_tab];exact blk_new _ _ _
 have HS6:=Lib.hid hs6
 have HBV:=Lib.hid hbv
 have HC1:Hid (∀ W,Below W1.heap.size W1 W→W.cell? ⟨w.heap.size,0,none⟩=some (.slice Ad nd cd)∧W.cell? ⟨w.heap.size,1,none⟩=some (.slice A0 n0 c0)∧W.cell? ⟨w.heap.size,2,none⟩=some (.slice A1 n1 c1)∧W.cell? ⟨w.heap.size,3,none⟩=some (.slice A2 n2 c2)):=Lib.hid (fun W hb=>by
  obtain⟨q0,q1,q2,q3⟩:=HC0.out
  have hz:=HB1.out.size
  have hg:∀ {o:Nat} {u:Value},W0.cell? ⟨w.heap.size,o,none⟩=some u→W.cell? ⟨w.heap.size,o,none⟩=some u:=fun {o u} hu=>(hb.cell (p:=⟨w.heap.size,o,none⟩) (by dsimp only;omega)).trans ((HB1.out.cell (p:=⟨w.heap.size,o,none⟩) (by dsimp only;omega)).trans hu)
  exact⟨hg q0,hg q1,hg q2,hg q3⟩)
 have HX1:Hid (∀ W,Below W1.heap.size W1 W→Blk W (w.heap.size+1) 29 [.slice none 0 0,.slice none 0 0,.slice none 0 0,.slice none 0 0]):=Lib.hid (fun W hb=>(HX6.out.keep HB1.out).keepB hb (by have:=HB1.out.size;omega))
 have hw1:w.heap.size+2≤W1.heap.size:=by have:=HB1.out.size;omega
 obtain⟨d0,d1,d2,d3,d4,d5,d6,d7⟩:=hs6.eight
 have hdl6:=hs6.lt
 obtain⟨x0,x1,x2,x3⟩:=HC1.out _ hbv
 have lwV:w.heap.size<V.heap.size:=by omega
 have HVV:Hid (Below W1.heap.size W1 V.drew):=Lib.hid hbv.drew
 have HMV:=Lib.hid (fun W (hb:Below W1.heap.size W1 W)=>HMM.out W (HB1.out.trans (hb.mono HB1.out.size)))
 unfold sL at hV
 unfold sV at HMV HSB ⊢
 clear hbv hs6
 go_upto_region 4 with fail
 rw[←hV]
 clear hV
 go_wp2_with fail
 refine Lx.region (C:=fun w'=>w'.cell? ⟨W1.heap.size,0,none⟩=some (.int .u64 (wd S 0))∧w'.cell? ⟨W1.heap.size,1,none⟩=some (.int .u64 (wd S 1))∧w'.cell? ⟨W1.heap.size,2,none⟩=some (.int .u64 (wd S 2))∧w'.cell? ⟨W1.heap.size,3,none⟩=some (.int .u64 (wd S 3))∧w'.cell? ⟨W1.heap.size,4,none⟩=some (.int .u64 (wd S 4))∧w'.cell? ⟨W1.heap.size,5,none⟩=some (.int .u64 (wd S 5))∧w'.cell? ⟨W1.heap.size,6,none⟩=some (.int .u64 (wd S 6))∧w'.cell? ⟨W1.heap.size,7,none⟩=some (.int .u64 (wd S 7))) (hs:=[0]) (by kernel_rfl) (by kernel_rfl) ⟨d0,d1,d2,d3,d4,d5,d6,d7⟩ ?_
 repeat' (first|((first|refine Lx.ln (fun K hK=>?_) | (first|(refine Lx.lp (v:=?_) ?_ (fun K hK=>?_);rotate_left 1;intro w' hCw;try dsimp only at hCw) | (refine Lx.lr (v:=?_) ?_ (fun K hK=>?_);rotate_left 1));go_simp;first|done | with_reducible rfl);go_simp;refine hK _ ?_;clear hK K) | (refine Lx.le (fun K hK=>?_);go_simp;(first|(go_at_call 71;refine(HMV.out _ HVV.out).mono ?_;rintro e W2 ⟨rfl,hb2⟩;have H6:=Lib.hid (Blk.keep HS6.out.drew hb2);have HB2:=Lib.hid (HVV.out.trans (hb2.mono HVV.out.size))) | (go_at_call 108;refine(HSB.out _).mono ?_;rintro e W3 ⟨rfl,hb3⟩;have H6:=Lib.hid (H6.out.keep hb3);have HB3:=Lib.hid (HB2.out.trans (hb3.mono HB2.out.size))));refine hK _ _ (H6.out.eight) ?_;clear hK K))
 all_goals (refine Lx.lex_nil ?_)
 obtain⟨V0,hV0⟩:∃ V0,V0=W3.alloc (.cells #[.slice none 0 0,.slice none 0 0,.slice none 0 0,.slice none 0 0] 29):=⟨_,rfl⟩
 have h3s:=HB3.out.size
 have HP0:Hid (PSt W1 W3.heap.size W1.heap.size ⟨nilS,nilS,nilS,nilS⟩ ⟨[],[],[],[]⟩ S V0):=Lib.hid (by
  rw[hV0]
  exact⟨HB3.out.alloc h3s _,h3s,Nat.le_refl _,blk_new W3 [nilS,nilS,nilS,nilS] 29,Blk.alloc H6.out _,World.ownsRow_nil _ _ _ _,(fun d h=>by cases h),World.ownsRow_nil _ _ _ _,World.ownsRow_nil _ _ _ _,World.ownsRow_nil _ _ _ _⟩)
 have HD:=Lib.hid (And.intro hch (And.intro hdl hd))
 have Hlen:=Eqn.mk HPA.out.1.1
 have HLW:Hid (∀ W,Below W1.heap.size W1 W→DomsAt W W1.heap.size Ad nd ds):=Lib.hid (fun W hb=>(HPA.out.keep HB1.out).below hb)
 have HR:Hid (RulAt W1 W1.heap.size ⟨A0,n0,c0,A1,n1,c1,A2,n2,c2⟩ r):=Lib.hid (HRA.out.keep HB1.out)
 have HHA:=Lib.hid (fun i W=>has_any S i W)
 unfold sV at HHA
 have q0:=(HC1.out _ HP0.out.1).1
 have lq:w.heap.size<V0.heap.size:=by have:=HP0.out.1.size;omega
 have h30:=h3s
 clear d0 d1 d2 d3 d4 d5 d6 d7 x0 x1 x2 x3 lwV hdl6 hch hdl hd HMM HMV HSB HOF HVS HPV HVV HBV HS6 HB2
 go_upto_region 7 with fail
 rw[←hV0]
 clear hV0
 go_wp2_with fail
 clear q0
 go_loopw [40] (fun i wr=>∃(k:Nat) (dv:Value) (xd:List Dom),k≤nd∧i=.int .i64 k∧PSt W1 W3.heap.size W1.heap.size ⟨dv,nilS,nilS,nilS⟩ ⟨xd,[],[],[]⟩ S wr∧Eqn (xd.map Dom.say) (((ds.take k).filter fun d=>hasS S d.st).map Dom.say)∧xd.length≤k) (fun i _=>nd - (intOf i).toNat)
 case atStart=>exact⟨0,nilS,[],Nat.zero_le _,rfl,HP0.out,rfl,Nat.le_refl _⟩
 case round=>
  clear HP0
  obtain⟨k,dv,xd,hk,rfl,hP,HE,hxl⟩:=hrel
  obtain⟨wo,rfl⟩:∃ wo:World,wo=wr:=⟨_,rfl⟩
  have HXL:=Lib.hid hxl
  clear hxl
  have hbs:=hP.1.size
  have hwo:W3.heap.size<wo.heap.size:=hP.2.2.2.1.lt
  by_cases hlt:k<nd
  ·obtain⟨p,hp,_⟩:=drop_at (xs:=ds) (k:=k) (by rw[Hlen.out];exact hlt)
   obtain⟨b,off,hA,hbl,hc⟩:=(HLW.out _ hP.1).1.2 (by omega)
   subst hA
   have hrow:=(HLW.out _ hP.1).2 p (List.mem_of_getElem? hp)
   have hpl:=HD.out.1 p (List.mem_of_getElem? hp)
   have c0':=hc k p hp 0 (by omega)
   have c1':=hc k p hp 1 (by omega)
   simp only[Dom.cell,Nat.add_zero] at c0' c1'
   have HTD:=Eqn.mk (filter_take (fun d:Dom=>hasS S d.st) ds k p hp)
   have HHP:=Lib.hid (HHA.out p.st)
   obtain⟨st,adr,len,cap,chs⟩:=p
   dsimp only at *
   obtain⟨V1,hV1⟩:∃ V1,V1=wo.alloc (.cells #[.int .i64 st,.slice adr len cap] 64):=⟨_,rfl⟩
   have hPV:PSt W1 W3.heap.size W1.heap.size ⟨dv,nilS,nilS,nilS⟩ ⟨xd,[],[],[]⟩ S V1:=by rw[hV1];exact hP.alloc _
   have h12:Blk V1 wo.heap.size 64 [.int .i64 st,.slice adr len cap]:=by rw[hV1];exact blk_new wo _ _
   have HV:=Lib.hid (And.intro hPV h12)
   have HCL:Hid (chs.length=len):=Lib.hid hrow.1
   have HND:=Lib.hid HD.out.2.1
   have j0:(k:Int)<(nd:Int):=by omega
   have hbw:b<wo.heap.size:=by omega
   have HROW:Hid (∀ W,Below W1.heap.size W1 W→Row1 intV W W1.heap.size adr len chs):=Lib.hid (fun W hb=>(HLW.out W hb).2 ⟨st,adr,len,cap,chs⟩ (List.mem_of_getElem? hp))
   have hkl:k<512:=by have:=HND.out;have:=Hlen.out;omega
   obtain⟨z0,z1,z2,z3,z4,z5,z6,z7⟩:=hP.2.2.2.2.1.eight
   have z9:=hP.2.2.2.2.1.lt
   obtain⟨dA,dcap,hdv,_⟩:=own_formS (by decide) hP.2.2.2.2.2.1
   dsimp only at hdv
   subst hdv
   have HNE:Hid (some wo.heap.size≠(Value.slice dA xd.length dcap).ownBlock):=Lib.hid (own_fresh hP.2.2.2.2.2.1 (Nat.le_refl _))
   clear hc hp hPV h12 hrow hP
   go_wp2_with fail
   rw[←hV1]
   clear hV1 c0' c1' z0 z1 z2 z3 z4 z5 z6 z7 z9
   refine(HHP.out _).mono ?_
   rintro e W5 ⟨rfl,hb5⟩
   have H5:=Lib.hid (And.intro (HV.out.1.call hb5) (HV.out.2.keep hb5))
   clear hb5 HV
   cases hsa:hasS S st with
   | false=>
    go_wp2_with fail
    go_roundw
    case rel=>exact⟨k+1,_,xd,by omega,by go_num,H5.out.1,by rw[Eqn,HTD.out,HE.out];simp[hsa],by have:=HXL.out;omega⟩
    case measure=>simp[intOf];omega
   | true=>
    have b0:W5.cell? ⟨wo.heap.size,0,none⟩=some (.int .i64 st):=H5.out.2.cell rfl
    have b1:W5.cell? ⟨wo.heap.size,1,none⟩=some (.slice adr len cap):=H5.out.2.cell rfl
    have bl:=H5.out.2.lt
    have g0:W5.cell? ⟨W3.heap.size,0,none⟩=some (.slice dA xd.length dcap):=H5.out.1.2.2.2.1.cell rfl
    have g1:=H5.out.1.2.2.2.1.lt
    have hs5:=H5.out.1.1.size
    have HPd:Hid (PSt W1 W3.heap.size W1.heap.size ⟨.slice dA xd.length dcap,nilS,nilS,nilS⟩ ⟨xd,[],[],[]⟩ S W5.drew):=Lib.hid (H5.out.1.call (Below.refl _ _).drew)
    have HCN:=Lib.hid (fun W (hb:Below W1.heap.size W1 W)=>clone_any adr len cap W chs (by have:=HCL.out;omega) ((HROW.out W hb).up hb.size))
    unfold NewInts at HCN
    obtain⟨i0,hi,hz0,hz1,hz2⟩:=info_parts dom_info
    go_wp2_with fail
    refine Lx.regionT (C:=fun X=>X.cell? ⟨W3.heap.size,0,none⟩=some (.slice dA xd.length dcap)∧X.cell? ⟨wo.heap.size,0,none⟩=some (.int .i64 st)) (C':=fun _=>True) (hs:=[1,3]) 11 (List.take 11 _) (List.drop 11 _) (List.take_append_drop 11 _).symm rfl (by kernel_rfl) (by kernel_rfl) (by kernel_rfl) ⟨g0,b0⟩ ?_
    simp only[List.take_succ_cons,List.take_zero,List.drop_succ_cons,List.drop_zero]
    repeat' (first|((first|refine Lx.ln (fun K hK=>?_) | (first|(refine Lx.lp (v:=?_) ?_ (fun K hK=>?_);rotate_left 1;intro w' hCw;try dsimp only at hCw) | (refine Lx.lr (v:=?_) ?_ (fun K hK=>?_);rotate_left 1));go_simp;first|done | with_reducible rfl);go_simp;refine hK _ ?_;clear hK K) | (refine Lx.le (fun K hK=>?_);go_simp;(first|(go_at_call 109;refine(HCN.out _ HPd.out.1).mono ?_;rintro e W6 ⟨v6,rfl,hown6,hb6⟩;obtain⟨A6,c6,rfl,_⟩:=row1_of_own hown6;have HPZ:=Lib.hid (HPd.out.call hb6);have HBZ:=Lib.hid (Blk.keep H5.out.2.drew hb6);have HZ:Hid ((W6.cell? ⟨W3.heap.size,0,none⟩=some (.slice dA xd.length dcap)∧W6.cell? ⟨wo.heap.size,0,none⟩=some (.int .i64 st))∧∀ o,(W6.alloc o).cell? ⟨W3.heap.size,0,none⟩=some (.slice dA xd.length dcap)∧(W6.alloc o).cell? ⟨wo.heap.size,0,none⟩=some (.int .i64 st)):=Lib.hid ⟨⟨HPZ.out.2.2.2.1.cell rfl,HBZ.out.cell rfl⟩,fun o=>⟨(HPZ.out.alloc o).2.2.2.1.cell rfl,(HBZ.out.alloc o).cell rfl⟩⟩) | skip);refine hK _ _ (by first|exact HZ.out.1 | exact HZ.out.2 _) ?_;clear hK K))
    have HPA2:=Lib.hid (HPZ.out.alloc (.cells #[.int .i64 st,.slice A6 chs.length c6] 64))
    have HOA2:=Lib.hid (row_alloc (own_low hown6 HPd.out.1.size) (.cells #[.int .i64 st,.slice A6 chs.length c6] 64))
    have hs6:W1.heap.size≤W6.heap.size:=HPZ.out.1.size
    refine Lx.lex_append rfl rfl _ _ 22 rfl W1.heap.size 64 i0 (.agg #[.int .i64 0,.slice none 0 0]) 2 32 Tryz.underlying22 hi hz0 hz1 hz2 rfl (by decide) _ _ _ rfl (by exact HPA2.out.2.2.2.2.2.1) ⟨W6.heap.size,0,none⟩ 1 1 [.int .i64 st,.slice A6 chs.length c6] rfl rfl (by exact cells_newN W6 _ _) (by simp[Value.oneCell']) (by have:=HXL.out;dsimp only;unfold maxLen;omega) (by have:=HXL.out;dsimp only;omega) (by simp;omega) ?_
    intro v' w3 hown' hgrow hor
    replace hgrow:World.grownBy _ w3 (Value.slice dA xd.length dcap).ownBlock:=hgrow
    replace hown':w3.ownsRow W1.heap.size 64 2 v' (xd.length+1) (flat 2 Dom.cell xd++(List.range 2).map (Dom.cell ⟨st,A6,chs.length,c6,chs⟩)):=hown'
    have H3:=Lib.hid (And.intro hown' hgrow)
    rw[←flat_snoc] at hown'
    obtain⟨vA,vc,rfl,_⟩:=own_formS (by decide) hown'
    have HPB:=Lib.hid (HPA2.out.addD (y:=⟨st,A6,chs.length,c6,chs⟩) hgrow H3.out.1 HOA2.out)
    have hb8:=blk_kept HPA2.out.2.2.2.1 hgrow (blk_not_row HPA2.out.2.2.2.1 (by decide) HPA2.out.2.2.2.2.2.1)
    have q0:w3.cell? ⟨W3.heap.size,0,none⟩=some (.slice dA xd.length dcap):=hb8.cell rfl
    have hb12:Blk w3 wo.heap.size 64 [.int .i64 st,.slice adr len cap]:=by
     refine(blk_kept (HBZ.out.alloc _) hgrow ?_)
     exact HNE.out
    have q4:w3.cell? ⟨wo.heap.size,0,none⟩=some (.int .i64 st):=hb12.cell rfl
    have q1:=hb8.frozen 0
    have q2:=hb8.lt
    refine⟨⟨q0,q4⟩,?_⟩
    clear hown' hgrow hor hb8 g0 g1 b0 b1 bl hown6 hb6 hb12
    repeat' (first|((first|refine Lx.ln (fun K hK=>?_) | (first|(refine Lx.lp (v:=?_) ?_ (fun K hK=>?_);rotate_left 1;intro w' hCw;try dsimp only at hCw) | (refine Lx.lr (v:=?_) ?_ (fun K hK=>?_);rotate_left 1));go_simp;first|done | with_reducible rfl);go_simp;refine hK _ ?_;clear hK K) | (refine Lx.le (fun K hK=>?_);go_simp;(first|fail);refine hK _ _ (⟨q0,q4⟩) ?_;clear hK K))
    all_goals (refine Lx.lex_nil ?_)
    refine⟨trivial,?_⟩
    repeat' (first|((first|refine Lx.ln (fun K hK=>?_) | (first|(refine Lx.lp (v:=?_) ?_ (fun K hK=>?_);rotate_left 1;intro w' hCw;try dsimp only at hCw) | (refine Lx.lr (v:=?_) ?_ (fun K hK=>?_);rotate_left 1));go_simp;first|done | with_reducible rfl);go_simp;refine hK _ ?_;clear hK K) | (refine Lx.le (fun K hK=>?_);go_simp;(first|skip);refine hK _ _ (trivial) ?_;clear hK K))
    all_goals (refine Lx.lex_nil ?_)
    clear q0 q1 q4
    go_wp2_with fail
    go_roundw
    case rel=>exact⟨k+1,_,xd++[⟨st,A6,chs.length,c6,chs⟩],by omega,by go_num,HPB.out,by rw[Eqn,HTD.out,List.map_append,HE.out];simp[hsa,Dom.say],by rw[List.length_append];have:=HXL.out;simp;omega⟩
    case measure=>simp[intOf];omega
  ·obtain rfl:k=nd:=by omega
   have hTk:ds.take k=ds:=List.take_of_length_le (by rw[Hlen.out];omega)
   rw[hTk] at HE
   obtain⟨hq0,hq1,hq2⟩:=hlen
   obtain⟨r0,r1,r2⟩:=r
   obtain⟨R0,R1,R2,_⟩:=HR.out
   dsimp only at R0 R1 R2 hq0 hq1 hq2
   have hz0:=R0.1
   have hz1:=R1.1
   have hz2:=R2.1
   have HR0:=Lib.hid R0
   have HRr1:=Lib.hid R1
   have HRr2:=Lib.hid R2
   have l0:n0≤4096:=by omega
   have l1:n1≤1024:=by omega
   have l2:n2≤1024:=by omega
   have Hz0:=Eqn.mk hz0
   have Hz1:=Eqn.mk hz1
   have Hz2:=Eqn.mk hz2
   have x0:=(HC1.out _ hP.1).2.1
   have lw:w.heap.size<wo.heap.size:=by omega
   have HPk:=Lib.hid hP
   clear R0 R1 R2 hz0 hz1 hz2 hq0 hq1 hq2 hP hTk
   go_wp2_with fail
   clear x0
   go_loopw [64] (fun i wi=>∃(m:Nat) (pv:Value) (ps:List R5),m≤n0∧i=.int .i64 m∧PSt W1 W3.heap.size W1.heap.size ⟨dv,pv,nilS,nilS⟩ ⟨xd,ps,[],[]⟩ S wi∧Eqn ps ((r0.take m).filter (fun c=>hasS S c.a&&hasS S c.b))∧ps.length≤m) (fun i _=>n0 - (intOf i).toNat)
   case atStart=>exact⟨0,nilS,[],Nat.zero_le _,rfl,HPk.out,by rw[List.take_zero];rfl,Nat.le_refl _⟩
   case round=>
    obtain⟨m,pv,ps,hm,rfl,hP,HE0,hpl⟩:=hrel
    obtain⟨wo,rfl⟩:∃ wo:World,wo=wr:=⟨_,rfl⟩
    have hbs:=hP.1.size
    by_cases hlt:m<n0
    ·obtain⟨y,hy,_⟩:=drop_at (xs:=r0) (k:=m) (by rw[Hz0.out];exact hlt)
     obtain⟨b,off,hA,hbl,hc⟩:=(HR0.out.below hP.1).2 (by omega)
     have HFT:=Eqn.mk (filter_take (fun c=>hasS S c.a&&hasS S c.b) r0 m y hy)
     rw[←HE0.out] at HFT
     obtain⟨y0,y1,y2,y3,y4⟩:=y
     have e0:=hc m _ hy 0 (by omega)
     have e1:=hc m _ hy 1 (by omega)
     have e2:=hc m _ hy 2 (by omega)
     have e3:=hc m _ hy 3 (by omega)
     have e4:=hc m _ hy 4 (by omega)
     simp only[R5.cell,Nat.add_zero] at e0 e1 e2 e3 e4
     dsimp only at HFT
     obtain⟨V1,hV1⟩:∃ V1,V1=wo.alloc (.cells #[.int .i64 y0,.int .i64 y1,.int .i64 y2,.int .i64 y3,.int .i64 y4] 67):=⟨_,rfl⟩
     have hPV:PSt W1 W3.heap.size W1.heap.size ⟨dv,pv,nilS,nilS⟩ ⟨xd,ps,[],[]⟩ S V1:=by rw[hV1];exact hP.alloc _
     have hbx:Blk V1 wo.heap.size 67 [.int .i64 y0,.int .i64 y1,.int .i64 y2,.int .i64 y3,.int .i64 y4]:=by rw[hV1];exact blk_new wo _ _
     have hbw:b<wo.heap.size:=by omega
     have m0:(m:Int)<(n0:Int):=by omega
     have HV:=Lib.hid (And.intro hPV hbx)
     obtain⟨pA,pcap,hpv,_⟩:=own_formS (by decide) hP.2.2.2.2.2.2.2.1
     dsimp only at hpv
     subst hpv
     obtain⟨z0,z1,z2,z3,z4,z5,z6,z7⟩:=hP.2.2.2.2.1.eight
     have z9:=hP.2.2.2.2.1.lt
     subst hA
     clear hc hy hPV hbx hP
     go_wp2_with fail
     rw[←hV1]
     clear hV1 e0 e1 e2 e3 e4 z0 z1 z2 z3 z4 z5 z6 z7 z9
     refine(HHA.out _ _).mono ?_
     rintro e W2 ⟨rfl,hb2⟩
     have H2:=Lib.hid (And.intro (HV.out.1.call hb2) (HV.out.2.keep hb2))
     clear hb2 HV
     cases hsa:hasS S y0 with
     | false=>
      go_wp2_with fail
      go_roundw
      case rel=>exact⟨m+1,_,ps,by omega,by go_num,H2.out.1,by rw[Eqn,HFT.out];simp[hsa],by omega⟩
      case measure=>simp[intOf];omega
     | true=>
      obtain⟨z0,z1,z2,z3,z4,z5,z6,z7⟩:=H2.out.1.2.2.2.2.1.eight
      have z9:=H2.out.1.2.2.2.2.1.lt
      have zb:W2.cell? ⟨wo.heap.size,1,none⟩=some (.int .i64 y1):=H2.out.2.cell rfl
      have zl:=H2.out.2.lt
      go_wp2_with fail
      clear z0 z1 z2 z3 z4 z5 z6 z7 z9 zb zl
      refine(HHA.out _ _).mono ?_
      rintro e W3' ⟨rfl,hb3⟩
      have H4:=Lib.hid (And.intro (H2.out.1.call hb3) (H2.out.2.keep hb3))
      clear hb3 H2
      cases hsb:hasS S y1 with
      | false=>
       go_wp2_with fail
       go_roundw
       case rel=>exact⟨m+1,_,ps,by omega,by go_num,H4.out.1,by rw[Eqn,HFT.out];simp[hsa,hsb],by omega⟩
       case measure=>simp[intOf];omega
      | true=>
       have b0:W3'.cell? ⟨wo.heap.size,0,none⟩=some (.int .i64 y0):=H4.out.2.cell rfl
       have b1:W3'.cell? ⟨wo.heap.size,1,none⟩=some (.int .i64 y1):=H4.out.2.cell rfl
       have b2:W3'.cell? ⟨wo.heap.size,2,none⟩=some (.int .i64 y2):=H4.out.2.cell rfl
       have b3:W3'.cell? ⟨wo.heap.size,3,none⟩=some (.int .i64 y3):=H4.out.2.cell rfl
       have b4:W3'.cell? ⟨wo.heap.size,4,none⟩=some (.int .i64 y4):=H4.out.2.cell rfl
       have bl:=H4.out.2.lt
       have g0:W3'.cell? ⟨W3.heap.size,1,none⟩=some (.slice pA ps.length pcap):=H4.out.1.2.2.2.1.cell rfl
       have g1:=H4.out.1.2.2.2.1.lt
       obtain⟨i0,hi,hz0,hz1,hz2⟩:=info_parts pair_info
       have HPA:=Lib.hid (H4.out.1.alloc (.cells #[.int .i64 y0,.int .i64 y1,.int .i64 y2,.int .i64 y3,.int .i64 y4] 67))
       have hs3:W1.heap.size≤W3'.heap.size:=H4.out.1.1.size
       go_wp2_with (at_builtin;refine Hid.out ?_)
       unfold Hid
       refine wpList_append_own_at _ rfl _ _ 23 rfl W1.heap.size 67 i0 (.agg #[.int .i64 0,.int .i64 0,.int .i64 0,.int .i64 0,.int .i64 0]) 5 40 Tryz.underlying23 hi hz0 hz1 hz2 rfl (by decide) _ _ _ rfl HPA.out.2.2.2.2.2.2.2.1 ⟨W3'.heap.size,0,none⟩ 1 1 [.int .i64 y0,.int .i64 y1,.int .i64 y2,.int .i64 y3,.int .i64 y4] rfl rfl (cells_newN W3' _ _) (by simp[Value.oneCell']) (by dsimp only;unfold maxLen;omega) (by dsimp only;omega) (by simp;omega) ?_
       intro v' w3 hown' hgrow hnil hat
       replace hgrow:World.grownBy _ w3 (Value.slice pA ps.length pcap).ownBlock:=hgrow
       replace hown':w3.ownsRow W1.heap.size 67 5 v' (ps.length+1) (flat 5 R5.cell ps++(List.range 5).map (R5.cell ⟨y0,y1,y2,y3,y4⟩)):=hown'
       have H3:=Lib.hid (And.intro hown' hgrow)
       rw[←flat_snoc] at hown'
       obtain⟨vA,vc,rfl,_⟩:=own_formS (by decide) hown'
       have HPB:=Lib.hid (HPA.out.addP (y:=⟨y0,y1,y2,y3,y4⟩) hgrow H3.out.1)
       have hb8:=blk_kept HPA.out.2.2.2.1 hgrow (blk_not_row HPA.out.2.2.2.1 (by decide) HPA.out.2.2.2.2.2.2.2.1)
       have q0:w3.cell? ⟨W3.heap.size,1,none⟩=some (.slice pA ps.length pcap):=hb8.cell rfl
       have q1:=hb8.frozen 1
       have q2:=hb8.lt
       clear hown' hgrow hnil hat hb8 b0 b1 b2 b3 b4 g0
       go_wp2_with fail
       clear q0 q1
       go_roundw
       case rel=>exact⟨m+1,_,ps++[⟨y0,y1,y2,y3,y4⟩],by omega,by go_num,HPB.out,by rw[Eqn,HFT.out];simp[hsa,hsb],by rw[List.length_append];simp;omega⟩
       case measure=>simp[intOf];omega
    ·obtain rfl:m=n0:=by omega
     have hTm:r0.take m=r0:=List.take_of_length_le (by rw[Hz0.out];omega)
     have HF0:Eqn ps (r0.filter (fun c=>hasS S c.a&&hasS S c.b)):=by rw[Eqn,HE0.out,hTm]
     obtain⟨pv0,rfl⟩:∃ pv0:Value,pv0=pv:=⟨_,rfl⟩
     obtain⟨ps0,rfl⟩:∃ ps0:List R5,ps0=ps:=⟨_,rfl⟩
     have HPk0:=Lib.hid hP
     have x0:=(HC1.out _ hP.1).2.2.1
     have lw:w.heap.size<wo.heap.size:=by omega
     clear hP HE0 hTm
     go_wp2_with fail
     clear x0
     go_loopw [91] (fun i wi=>∃(m:Nat) (pv:Value) (ps:List R5),m≤n1∧i=.int .i64 m∧PSt W1 W3.heap.size W1.heap.size ⟨dv,pv0,pv,nilS⟩ ⟨xd,ps0,ps,[]⟩ S wi∧Eqn ps ((r1.take m).filter (fun c=>hasS S c.a&&hasS S c.b))∧ps.length≤m) (fun i _=>n1 - (intOf i).toNat)
     case atStart=>exact⟨0,nilS,[],Nat.zero_le _,rfl,HPk0.out,by rw[List.take_zero];rfl,Nat.le_refl _⟩
     case round=>
      obtain⟨m,pv,ps,hm,rfl,hP,HE1,hpl⟩:=hrel
      obtain⟨wo,rfl⟩:∃ wo:World,wo=wr:=⟨_,rfl⟩
      have hbs:=hP.1.size
      by_cases hlt:m<n1
      ·obtain⟨y,hy,_⟩:=drop_at (xs:=r1) (k:=m) (by rw[Hz1.out];exact hlt)
       obtain⟨b,off,hA,hbl,hc⟩:=(HRr1.out.below hP.1).2 (by omega)
       have HFT:=Eqn.mk (filter_take (fun c=>hasS S c.a&&hasS S c.b) r1 m y hy)
       rw[←HE1.out] at HFT
       obtain⟨y0,y1,y2,y3,y4⟩:=y
       have e0:=hc m _ hy 0 (by omega)
       have e1:=hc m _ hy 1 (by omega)
       have e2:=hc m _ hy 2 (by omega)
       have e3:=hc m _ hy 3 (by omega)
       have e4:=hc m _ hy 4 (by omega)
       simp only[R5.cell,Nat.add_zero] at e0 e1 e2 e3 e4
       dsimp only at HFT
       obtain⟨V1,hV1⟩:∃ V1,V1=wo.alloc (.cells #[.int .i64 y0,.int .i64 y1,.int .i64 y2,.int .i64 y3,.int .i64 y4] 69):=⟨_,rfl⟩
       have hPV:PSt W1 W3.heap.size W1.heap.size ⟨dv,pv0,pv,nilS⟩ ⟨xd,ps0,ps,[]⟩ S V1:=by rw[hV1];exact hP.alloc _
       have hbx:Blk V1 wo.heap.size 69 [.int .i64 y0,.int .i64 y1,.int .i64 y2,.int .i64 y3,.int .i64 y4]:=by rw[hV1];exact blk_new wo _ _
       have hbw:b<wo.heap.size:=by omega
       have m0:(m:Int)<(n1:Int):=by omega
       have HV:=Lib.hid (And.intro hPV hbx)
       obtain⟨pA,pcap,hpv,_⟩:=own_formS (by decide) hP.2.2.2.2.2.2.2.2.1
       dsimp only at hpv
       subst hpv
       obtain⟨z0,z1,z2,z3,z4,z5,z6,z7⟩:=hP.2.2.2.2.1.eight
       have z9:=hP.2.2.2.2.1.lt
       subst hA
       clear hc hy hPV hbx hP
       go_wp2_with fail
       rw[←hV1]
       clear hV1 e0 e1 e2 e3 e4 z0 z1 z2 z3 z4 z5 z6 z7 z9
       refine(HHA.out _ _).mono ?_
       rintro e W2 ⟨rfl,hb2⟩
       have H2:=Lib.hid (And.intro (HV.out.1.call hb2) (HV.out.2.keep hb2))
       clear hb2 HV
       cases hsa:hasS S y0 with
       | false=>
        go_wp2_with fail
        go_roundw
        case rel=>exact⟨m+1,_,ps,by omega,by go_num,H2.out.1,by rw[Eqn,HFT.out];simp[hsa],by omega⟩
        case measure=>simp[intOf];omega
       | true=>
        obtain⟨z0,z1,z2,z3,z4,z5,z6,z7⟩:=H2.out.1.2.2.2.2.1.eight
        have z9:=H2.out.1.2.2.2.2.1.lt
        have zb:W2.cell? ⟨wo.heap.size,1,none⟩=some (.int .i64 y1):=H2.out.2.cell rfl
        have zl:=H2.out.2.lt
        go_wp2_with fail
        clear z0 z1 z2 z3 z4 z5 z6 z7 z9 zb zl
        refine(HHA.out _ _).mono ?_
        rintro e W3' ⟨rfl,hb3⟩
        have H4:=Lib.hid (And.intro (H2.out.1.call hb3) (H2.out.2.keep hb3))
        clear hb3 H2
        cases hsb:hasS S y1 with
        | false=>
         go_wp2_with fail
         go_roundw
         case rel=>exact⟨m+1,_,ps,by omega,by go_num,H4.out.1,by rw[Eqn,HFT.out];simp[hsa,hsb],by omega⟩
         case measure=>simp[intOf];omega
        | true=>
         have b0:W3'.cell? ⟨wo.heap.size,0,none⟩=some (.int .i64 y0):=H4.out.2.cell rfl
         have b1:W3'.cell? ⟨wo.heap.size,1,none⟩=some (.int .i64 y1):=H4.out.2.cell rfl
         have b2:W3'.cell? ⟨wo.heap.size,2,none⟩=some (.int .i64 y2):=H4.out.2.cell rfl
         have b3:W3'.cell? ⟨wo.heap.size,3,none⟩=some (.int .i64 y3):=H4.out.2.cell rfl
         have b4:W3'.cell? ⟨wo.heap.size,4,none⟩=some (.int .i64 y4):=H4.out.2.cell rfl
         have bl:=H4.out.2.lt
         have g0:W3'.cell? ⟨W3.heap.size,2,none⟩=some (.slice pA ps.length pcap):=H4.out.1.2.2.2.1.cell rfl
         have g1:=H4.out.1.2.2.2.1.lt
         obtain⟨i0,hi,hz0,hz1,hz2⟩:=info_parts load_info
         have HPA:=Lib.hid (H4.out.1.alloc (.cells #[.int .i64 y0,.int .i64 y1,.int .i64 y2,.int .i64 y3,.int .i64 y4] 69))
         have hs3:W1.heap.size≤W3'.heap.size:=H4.out.1.1.size
         go_wp2_with (at_builtin;refine Hid.out ?_)
         unfold Hid
         refine wpList_append_own_at _ rfl _ _ 24 rfl W1.heap.size 69 i0 (.agg #[.int .i64 0,.int .i64 0,.int .i64 0,.int .i64 0,.int .i64 0]) 5 40 Tryz.underlying24 hi hz0 hz1 hz2 rfl (by decide) _ _ _ rfl HPA.out.2.2.2.2.2.2.2.2.1 ⟨W3'.heap.size,0,none⟩ 1 1 [.int .i64 y0,.int .i64 y1,.int .i64 y2,.int .i64 y3,.int .i64 y4] rfl rfl (cells_newN W3' _ _) (by simp[Value.oneCell']) (by dsimp only;unfold maxLen;omega) (by dsimp only;omega) (by simp;omega) ?_
         intro v' w3 hown' hgrow hnil hat
         replace hgrow:World.grownBy _ w3 (Value.slice pA ps.length pcap).ownBlock:=hgrow
         replace hown':w3.ownsRow W1.heap.size 69 5 v' (ps.length+1) (flat 5 R5.cell ps++(List.range 5).map (R5.cell ⟨y0,y1,y2,y3,y4⟩)):=hown'
         have H3:=Lib.hid (And.intro hown' hgrow)
         rw[←flat_snoc] at hown'
         obtain⟨vA,vc,rfl,_⟩:=own_formS (by decide) hown'
         have HPB:=Lib.hid (HPA.out.addL (y:=⟨y0,y1,y2,y3,y4⟩) hgrow H3.out.1)
         have hb8:=blk_kept HPA.out.2.2.2.1 hgrow (blk_not_row HPA.out.2.2.2.1 (by decide) HPA.out.2.2.2.2.2.2.2.2.1)
         have q0:w3.cell? ⟨W3.heap.size,2,none⟩=some (.slice pA ps.length pcap):=hb8.cell rfl
         have q1:=hb8.frozen 2
         have q2:=hb8.lt
         clear hown' hgrow hnil hat hb8 b0 b1 b2 b3 b4 g0
         go_wp2_with fail
         clear q0 q1
         go_roundw
         case rel=>exact⟨m+1,_,ps++[⟨y0,y1,y2,y3,y4⟩],by omega,by go_num,HPB.out,by rw[Eqn,HFT.out];simp[hsa,hsb],by rw[List.length_append];simp;omega⟩
         case measure=>simp[intOf];omega
      ·obtain rfl:m=n1:=by omega
       have hTm:r1.take m=r1:=List.take_of_length_le (by rw[Hz1.out];omega)
       have HF1:Eqn ps (r1.filter (fun c=>hasS S c.a&&hasS S c.b)):=by rw[Eqn,HE1.out,hTm]
       obtain⟨pv1,rfl⟩:∃ pv1:Value,pv1=pv:=⟨_,rfl⟩
       obtain⟨ps1,rfl⟩:∃ ps1:List R5,ps1=ps:=⟨_,rfl⟩
       have HPk1:=Lib.hid hP
       have x0:=(HC1.out _ hP.1).2.2.2
       have lw:w.heap.size<wo.heap.size:=by omega
       clear hP HE1 hTm
       go_wp2_with fail
       clear x0
       go_loopw [118] (fun i wi=>∃(m:Nat) (pv:Value) (ps:List R4),m≤n2∧i=.int .i64 m∧PSt W1 W3.heap.size W1.heap.size ⟨dv,pv0,pv1,pv⟩ ⟨xd,ps0,ps1,ps⟩ S wi∧Eqn ps ((r2.take m).filter (fun c=>hasS S c.a))∧ps.length≤m) (fun i _=>n2 - (intOf i).toNat)
       case atStart=>exact⟨0,nilS,[],Nat.zero_le _,rfl,HPk1.out,by rw[List.take_zero];rfl,Nat.le_refl _⟩
       case round=>
        obtain⟨m,pv,ps,hm,rfl,hP,HE2,hpl⟩:=hrel
        obtain⟨wo,rfl⟩:∃ wo:World,wo=wr:=⟨_,rfl⟩
        have hbs:=hP.1.size
        by_cases hlt:m<n2
        ·obtain⟨y,hy,_⟩:=drop_at (xs:=r2) (k:=m) (by rw[Hz2.out];exact hlt)
         obtain⟨b,off,hA,hbl,hc⟩:=(HRr2.out.below hP.1).2 (by omega)
         have HFT:=Eqn.mk (filter_take (fun c=>hasS S c.a) r2 m y hy)
         rw[←HE2.out] at HFT
         obtain⟨y0,y1,y2,y3⟩:=y
         have e0:=hc m _ hy 0 (by omega)
         have e1:=hc m _ hy 1 (by omega)
         have e2:=hc m _ hy 2 (by omega)
         have e3:=hc m _ hy 3 (by omega)
         simp only[R4.cell,Nat.add_zero] at e0 e1 e2 e3
         dsimp only at HFT
         obtain⟨V1,hV1⟩:∃ V1,V1=wo.alloc (.cells #[.int .i64 y0,.int .i64 y1,.int .i64 y2,.int .i64 y3] 71):=⟨_,rfl⟩
         have hPV:PSt W1 W3.heap.size W1.heap.size ⟨dv,pv0,pv1,pv⟩ ⟨xd,ps0,ps1,ps⟩ S V1:=by rw[hV1];exact hP.alloc _
         have hbx:Blk V1 wo.heap.size 71 [.int .i64 y0,.int .i64 y1,.int .i64 y2,.int .i64 y3]:=by rw[hV1];exact blk_new wo _ _
         have hbw:b<wo.heap.size:=by omega
         have m0:(m:Int)<(n2:Int):=by omega
         have HV:=Lib.hid (And.intro hPV hbx)
         obtain⟨pA,pcap,hpv,_⟩:=own_formS (by decide) hP.2.2.2.2.2.2.2.2.2
         dsimp only at hpv
         subst hpv
         obtain⟨z0,z1,z2,z3,z4,z5,z6,z7⟩:=hP.2.2.2.2.1.eight
         have z9:=hP.2.2.2.2.1.lt
         subst hA
         clear hc hy hPV hbx hP
         go_wp2_with fail
         rw[←hV1]
         clear hV1 e0 e1 e2 e3 z0 z1 z2 z3 z4 z5 z6 z7 z9
         refine(HHA.out _ _).mono ?_
         rintro e W2 ⟨rfl,hb2⟩
         have H2:=Lib.hid (And.intro (HV.out.1.call hb2) (HV.out.2.keep hb2))
         clear hb2 HV
         cases hsa:hasS S y0 with
         | false=>
          go_wp2_with fail
          go_roundw
          case rel=>exact⟨m+1,_,ps,by omega,by go_num,H2.out.1,by rw[Eqn,HFT.out];simp[hsa],by omega⟩
          case measure=>simp[intOf];omega
         | true=>
          have b0:W2.cell? ⟨wo.heap.size,0,none⟩=some (.int .i64 y0):=H2.out.2.cell rfl
          have b1:W2.cell? ⟨wo.heap.size,1,none⟩=some (.int .i64 y1):=H2.out.2.cell rfl
          have b2:W2.cell? ⟨wo.heap.size,2,none⟩=some (.int .i64 y2):=H2.out.2.cell rfl
          have b3:W2.cell? ⟨wo.heap.size,3,none⟩=some (.int .i64 y3):=H2.out.2.cell rfl
          have bl:=H2.out.2.lt
          have g0:W2.cell? ⟨W3.heap.size,3,none⟩=some (.slice pA ps.length pcap):=H2.out.1.2.2.2.1.cell rfl
          have g1:=H2.out.1.2.2.2.1.lt
          obtain⟨i0,hi,hz0,hz1,hz2⟩:=info_parts cap_info
          have HPA:=Lib.hid (H2.out.1.alloc (.cells #[.int .i64 y0,.int .i64 y1,.int .i64 y2,.int .i64 y3] 71))
          have hs3:W1.heap.size≤W2.heap.size:=H2.out.1.1.size
          go_wp2_with (at_builtin;refine Hid.out ?_)
          unfold Hid
          refine wpList_append_own_at _ rfl _ _ 25 rfl W1.heap.size 71 i0 (.agg #[.int .i64 0,.int .i64 0,.int .i64 0,.int .i64 0]) 4 32 Tryz.underlying25 hi hz0 hz1 hz2 rfl (by decide) _ _ _ rfl HPA.out.2.2.2.2.2.2.2.2.2 ⟨W2.heap.size,0,none⟩ 1 1 [.int .i64 y0,.int .i64 y1,.int .i64 y2,.int .i64 y3] rfl rfl (cells_newN W2 _ _) (by simp[Value.oneCell']) (by dsimp only;unfold maxLen;omega) (by dsimp only;omega) (by simp;omega) ?_
          intro v' w3 hown' hgrow hnil hat
          replace hgrow:World.grownBy _ w3 (Value.slice pA ps.length pcap).ownBlock:=hgrow
          replace hown':w3.ownsRow W1.heap.size 71 4 v' (ps.length+1) (flat 4 R4.cell ps++(List.range 4).map (R4.cell ⟨y0,y1,y2,y3⟩)):=hown'
          have H3:=Lib.hid (And.intro hown' hgrow)
          rw[←flat_snoc] at hown'
          obtain⟨vA,vc,rfl,_⟩:=own_formS (by decide) hown'
          have HPB:=Lib.hid (HPA.out.addC (y:=⟨y0,y1,y2,y3⟩) hgrow H3.out.1)
          have hb8:=blk_kept HPA.out.2.2.2.1 hgrow (blk_not_row HPA.out.2.2.2.1 (by decide) HPA.out.2.2.2.2.2.2.2.2.2)
          have q0:w3.cell? ⟨W3.heap.size,3,none⟩=some (.slice pA ps.length pcap):=hb8.cell rfl
          have q1:=hb8.frozen 3
          have q2:=hb8.lt
          clear hown' hgrow hnil hat hb8 b0 b1 b2 b3 g0
          go_wp2_with fail
          clear q0 q1
          go_roundw
          case rel=>exact⟨m+1,_,ps++[⟨y0,y1,y2,y3⟩],by omega,by go_num,HPB.out,by rw[Eqn,HFT.out];simp[hsa],by rw[List.length_append];simp;omega⟩
          case measure=>simp[intOf];omega
        ·obtain rfl:m=n2:=by omega
         have hTm:r2.take m=r2:=List.take_of_length_le (by rw[Hz2.out];omega)
         have HF2:Eqn ps (r2.filter (fun c=>hasS S c.a)):=by rw[Eqn,HE2.out,hTm]
         obtain⟨pv2,rfl⟩:∃ pv2:Value,pv2=pv:=⟨_,rfl⟩
         obtain⟨ps2,rfl⟩:∃ ps2:List R4,ps2=ps:=⟨_,rfl⟩
         obtain⟨dA,dc,rfl,hD⟩:=own_formS (by decide) hP.2.2.2.2.2.1
         obtain⟨A3,c3,rfl,hp0⟩:=own_formS (by decide) hP.2.2.2.2.2.2.2.1
         obtain⟨A4,c4,rfl,hp1⟩:=own_formS (by decide) hP.2.2.2.2.2.2.2.2.1
         obtain⟨A5,c5,rfl,hp2⟩:=own_formS (by decide) hP.2.2.2.2.2.2.2.2.2
         dsimp only at *
         have b8:=hP.2.2.2.1
         have g0:=b8.cell (i:=0) rfl
         have g1:=b8.cell (i:=1) rfl
         have g2:=b8.cell (i:=2) rfl
         have g3:=b8.cell (i:=3) rfl
         have g4:=b8.lt
         have b6:=HX1.out _ hP.1
         have f0:=b6.cell (i:=0) rfl
         have f1:=b6.cell (i:=1) rfl
         have f2:=b6.cell (i:=2) rfl
         have f3:=b6.cell (i:=3) rfl
         have f4:=b6.lt
         have f5:∀ o,wo.frozen? ⟨w.heap.size+1,o,none⟩=false:=b6.frozen
         have HPf:=Lib.hid hP
         have HB6:=Lib.hid b6
         have HLL:Hid (ps0.length≤4096∧ps1.length≤1024∧ps2.length≤1024):=Lib.hid ⟨by rw[HF0.out];exact Nat.le_trans (List.length_filter_le _ _) (by have:=Hz0.out;omega),by rw[HF1.out];exact Nat.le_trans (List.length_filter_le _ _) (by have:=Hz1.out;omega),by rw[HF2.out];exact Nat.le_trans (List.length_filter_le _ _) (by have:=Hz2.out;omega)⟩
         clear hP HE2 hTm b8 b6
         go_wp2_with fail
         obtain⟨Wf,hWf⟩:∃ Wf,Wf=(((wo.setCell ⟨w.heap.size+1,0,none⟩ (.slice dA xd.length dc)).setCell ⟨w.heap.size+1,1,none⟩ (.slice A3 ps0.length c3)).setCell ⟨w.heap.size+1,2,none⟩ (.slice A4 ps1.length c4)).setCell ⟨w.heap.size+1,3,none⟩ (.slice A5 ps2.length c5):=⟨_,rfl⟩
         have hbf:Blk Wf (w.heap.size+1) 29 [.slice dA xd.length dc,.slice A3 ps0.length c3,.slice A4 ps1.length c4,.slice A5 ps2.length c5]:=by rw[hWf];exact(((HB6.out.set_ 0 _).set_ 1 _).set_ 2 _).set_ 3 _
         have hrow:∀ {e size m:Nat} {v:Value} {xs:List Value},wo.ownsRow W1.heap.size e size v m xs→Wf.ownsRow w.heap.size e size v m xs:=by
          intro e size m v xs h
          rw[hWf]
          exact own_low (own_set (own_set (own_set (own_set h (by dsimp only;omega) _) (by dsimp only;omega) _) (by dsimp only;omega) _) (by dsimp only;omega) _) (by omega)
         have hBf:Below w.heap.size w Wf:=by
          have h0:Below w.heap.size w wo:=(HB0.out.trans (HB1.out.mono (by omega))).trans (HPf.out.1.mono (by omega))
          rw[hWf]
          exact(((h0.setCell (p:=⟨w.heap.size+1,0,none⟩) (by dsimp only;omega) _).setCell (p:=⟨w.heap.size+1,1,none⟩) (by dsimp only;omega) _).setCell (p:=⟨w.heap.size+1,2,none⟩) (by dsimp only;omega) _).setCell (p:=⟨w.heap.size+1,3,none⟩) (by dsimp only;omega) _
         rw[←hWf]
         have k0:=hbf.cell (i:=0) rfl
         have k1:=hbf.cell (i:=1) rfl
         have k2:=hbf.cell (i:=2) rfl
         have k3:=hbf.cell (i:=3) rfl
         clear hWf f0 f1 f2 f3 f4 f5 g0 g1 g2 g3 g4
         have hP:=HPf.out
         obtain⟨hl0,hl1,hl2⟩:=HLL.out
         refine bodyPost_ret (v:=.tuple #[.agg #[.slice dA xd.length dc,.slice A3 ps0.length c3,.slice A4 ps1.length c4,.slice A5 ps2.length c5],.int .i64 0]) (by simp[results,Tryz.results60,go_sem,k0,k1,k2,k3]) rfl ?_
         refine⟨⟨dA,xd.length,dc,⟨A3,ps0.length,c3,A4,ps1.length,c4,A5,ps2.length,c5⟩⟩,xd,rfl,?_,HE.out,hBf⟩
         have hres:resR S ⟨r0,r1,r2⟩=⟨ps0,ps1,ps2⟩:=by unfold resR;rw[←HF0.out,←HF1.out,←HF2.out]
         dsimp only
         rw[hres]
         exact⟨rfl,hrow hP.2.2.2.2.2.1,fun d hd=>hrow (hP.2.2.2.2.2.2.1 d hd),⟨rfl,rfl,rfl⟩,hrow hP.2.2.2.2.2.2.2.1,hrow hP.2.2.2.2.2.2.2.2.1,hrow hP.2.2.2.2.2.2.2.2.2,by dsimp only;omega,by dsimp only;omega,by dsimp only;omega⟩
theorem restrict_any (s:PrbS) (A:Option Addr) (n c:Nat) (w:World) (ds:List Dom) (r:Rul) (L:List Int) (hn:s.nd≤9223372036854775807) (hd:∀ d∈ds,d.len≤9223372036854775807) (hL:n≤9223372036854775807) (h:PrbAt w w.heap.size s ds r) (hl:Row1 intV w w.heap.size A n L):
  Calls Tryz.prog 60 #[s.val,.slice A n c] w (PrbNew (restF ds r L) w):=by
 by_cases hall:validP ds r=true∧stOk L=true∧mi (stS L) (stS (ds.map Dom.st))=0
 ·unfold restF
  rw[if_pos ⟨hall.1,hall.2.1⟩,if_pos hall.2.2]
  exact restrict_main s A n c w ds r L hn hd hL h hl hall.1 hall.2.1 hall.2.2
 ·obtain⟨Ad,nd,cd,⟨A0,n0,c0,A1,n1,c1,A2,n2,c2⟩⟩:=s
  obtain⟨W0,hW0⟩:∃ W0,W0=(w.alloc (.cells #[.slice Ad nd cd,.slice A0 n0 c0,.slice A1 n1 c1,.slice A2 n2 c2] 29)).alloc (.cells #[.slice none 0 0,.slice none 0 0,.slice none 0 0,.slice none 0 0] 29):=⟨_,rfl⟩
  have hB0:Below w.heap.size w W0:=by rw[hW0];exact((Below.refl _ w).alloc (Nat.le_refl _) _).alloc (by simp) _
  have hs0:W0.heap.size=w.heap.size+2:=by rw[hW0];simp
  have HC0:Hid (W0.cell? ⟨w.heap.size,0,none⟩=some (.slice Ad nd cd)∧W0.cell? ⟨w.heap.size,1,none⟩=some (.slice A0 n0 c0)∧W0.cell? ⟨w.heap.size,2,none⟩=some (.slice A1 n1 c1)∧W0.cell? ⟨w.heap.size,3,none⟩=some (.slice A2 n2 c2)):=Lib.hid (by rw[hW0];refine⟨?_,?_,?_,?_⟩<;>simp[go_sem])
  have HX6:Hid (Blk W0 (w.heap.size+1) 29 [.slice none 0 0,.slice none 0 0,.slice none 0 0,.slice none 0 0]):=Lib.hid (by rw[hW0];have:=blk_new (w.alloc (.cells #[.slice Ad nd cd,.slice A0 n0 c0,.slice A1 n1 c1,.slice A2 n2 c2] 29)) [.slice none 0 0,.slice none 0 0,.slice none 0 0,.slice none 0 0] 29;simpa using this)
  have HPA:=Lib.hid (h.1.keep hB0)
  have HLr:=Lib.hid (hl.keep hB0)
  have HPV:=Lib.hid (pvalid_any ⟨Ad,nd,cd,⟨A0,n0,c0,A1,n1,c1,A2,n2,c2⟩⟩ W0 ds r hn hd ⟨h.1.keep hB0,h.2.keep hB0⟩)
  have HVS:Hid (∀ W,Below W0.heap.size W0 W→Calls Tryz.prog 107 #[.slice A n c] W (RetPost (.bool (stOk L)) W.heap.size W)):=Lib.hid (fun W hb=>vst_any A n c W L hL (HLr.out.keep hb))
  have HB0:=Lib.hid hB0
  have HBad:Hid (∀(er:Int) W,Below W0.heap.size W0 W→PrbNew (([],⟨[],[],[]⟩),er) w (.returned (.tuple #[.agg #[.slice none 0 0,.slice none 0 0,.slice none 0 0,.slice none 0 0],.int .i64 er])) (((((W.setCell ⟨w.heap.size+1,0,none⟩ (.slice none 0 0)).setCell ⟨w.heap.size+1,1,none⟩ (.slice none 0 0)).setCell ⟨w.heap.size+1,2,none⟩ (.slice none 0 0)).setCell ⟨w.heap.size+1,3,none⟩ (.slice none 0 0)))∧Blk W (w.heap.size+1) 29 [.slice none 0 0,.slice none 0 0,.slice none 0 0,.slice none 0 0]∧Blk ((((W.setCell ⟨w.heap.size+1,0,none⟩ (.slice none 0 0)).setCell ⟨w.heap.size+1,1,none⟩ (.slice none 0 0)).setCell ⟨w.heap.size+1,2,none⟩ (.slice none 0 0)).setCell ⟨w.heap.size+1,3,none⟩ (.slice none 0 0)) (w.heap.size+1) 29 [.slice none 0 0,.slice none 0 0,.slice none 0 0,.slice none 0 0]):=Lib.hid (fun er W hb=>by
   have hb6:=HX6.out.keep hb
   refine⟨⟨⟨none,0,0,⟨none,0,0,none,0,0,none,0,0⟩⟩,[],rfl,prbOwn_nil _ _,rfl,?_⟩,hb6,(((hb6.set_ 0 _).set_ 1 _).set_ 2 _).set_ 3 _⟩
   have h0:=HB0.out.trans (hb.mono (by omega))
   exact(((h0.setCell (p:=⟨w.heap.size+1,0,none⟩) (by dsimp only;omega) _).setCell (p:=⟨w.heap.size+1,1,none⟩) (by dsimp only;omega) _).setCell (p:=⟨w.heap.size+1,2,none⟩) (by dsimp only;omega) _).setCell (p:=⟨w.heap.size+1,3,none⟩) (by dsimp only;omega) _)
  unfold PrbS.val
  dsimp only at hn ⊢
  clear h hl hB0
  obtain⟨q0,q1,q2,q3⟩:=HC0.out
  have lw0:w.heap.size<W0.heap.size:=by omega
  cases h1:validP ds r with
  | false=>
   have HE:Eqn (restF ds r L) (([],⟨[],[],[]⟩),2):=by rw[Eqn];unfold restF;rw[if_neg (by rw[h1];simp)]
   rw[HE.out]
   rw[h1] at HPV
   clear HE
   go_enter Tryz.func60,Tryz.ntmps60
   go_upto_region 1 with fail
   rw[←hW0]
   clear hW0
   go_wp2_with fail
   refine HPV.out.mono ?_
   rintro e Wa ⟨rfl,hba⟩
   have HBa:=Lib.hid hba
   clear hba q0 q1 q2 q3 lw0
   obtain⟨hpost,hb6,hb7⟩:=HBad.out 2 _ HBa.out
   have f0:=hb6.cell (i:=0) rfl
   have f1:=hb6.cell (i:=1) rfl
   have f2:=hb6.cell (i:=2) rfl
   have f3:=hb6.cell (i:=3) rfl
   have f4:=hb6.lt
   have f5:∀ o,(Wa).frozen? ⟨w.heap.size+1,o,none⟩=false:=hb6.frozen
   have HF:=Lib.hid (And.intro hpost hb7)
   clear hpost hb6 hb7
   go_wp2_with fail
   clear f0 f1 f2 f3 f4 f5
   have k0:=HF.out.2.cell (i:=0) rfl
   have k1:=HF.out.2.cell (i:=1) rfl
   have k2:=HF.out.2.cell (i:=2) rfl
   have k3:=HF.out.2.cell (i:=3) rfl
   refine bodyPost_ret (v:=.tuple #[.agg #[.slice none 0 0,.slice none 0 0,.slice none 0 0,.slice none 0 0],.int .i64 2]) (by simp[results,Tryz.results60,go_sem,k0,k1,k2,k3]) rfl HF.out.1
  | true=>
   rw[h1] at HPV hall
   cases h2:stOk L with
   | false=>
    have HE:Eqn (restF ds r L) (([],⟨[],[],[]⟩),2):=by rw[Eqn];unfold restF;rw[if_neg (by rw[h2];simp)]
    rw[HE.out]
    rw[h2] at HVS
    clear HE
    go_enter Tryz.func60,Tryz.ntmps60
    go_upto_region 1 with fail
    rw[←hW0]
    clear hW0
    go_wp2_with fail
    refine HPV.out.mono ?_
    rintro e Wa ⟨rfl,hba⟩
    have HBa:=Lib.hid hba
    clear hba q0 q1 q2 q3 lw0
    go_wp2_with fail
    refine(HVS.out _ HBa.out).mono ?_
    rintro e Wb ⟨rfl,hbb⟩
    have HBb:=Lib.hid (HBa.out.trans (hbb.mono HBa.out.size))
    clear hbb
    obtain⟨hpost,hb6,hb7⟩:=HBad.out 2 _ HBb.out
    have f0:=hb6.cell (i:=0) rfl
    have f1:=hb6.cell (i:=1) rfl
    have f2:=hb6.cell (i:=2) rfl
    have f3:=hb6.cell (i:=3) rfl
    have f4:=hb6.lt
    have f5:∀ o,(Wb).frozen? ⟨w.heap.size+1,o,none⟩=false:=hb6.frozen
    have HF:=Lib.hid (And.intro hpost hb7)
    clear hpost hb6 hb7
    go_wp2_with fail
    clear f0 f1 f2 f3 f4 f5
    have k0:=HF.out.2.cell (i:=0) rfl
    have k1:=HF.out.2.cell (i:=1) rfl
    have k2:=HF.out.2.cell (i:=2) rfl
    have k3:=HF.out.2.cell (i:=3) rfl
    refine bodyPost_ret (v:=.tuple #[.agg #[.slice none 0 0,.slice none 0 0,.slice none 0 0,.slice none 0 0],.int .i64 2]) (by simp[results,Tryz.results60,go_sem,k0,k1,k2,k3]) rfl HF.out.1
   | true=>
    rw[h2] at HVS hall
    have hm:¬mi (stS L) (stS (ds.map Dom.st))=0:=fun he=>hall ⟨rfl,rfl,he⟩
    have HE:Eqn (restF ds r L) (([],⟨[],[],[]⟩),9):=by rw[Eqn];unfold restF;rw[if_pos ⟨h1,h2⟩,if_neg hm]
    rw[HE.out]
    obtain⟨hst,hdl,_,_⟩:=valid_st h1
    have hLi:=stOk_in h2
    have HFS:=Lib.hid (stS_fit hLi)
    have HOF:Hid (∀ W,Below W0.heap.size W0 W→Calls Tryz.prog 37 #[.slice A n c] W (RetPost (.tuple #[sV (stS L),.int .i64 0]) W.heap.size W)):=Lib.hid (fun W hb=>by have:=of_any A n c W L hL (HLr.out.keep hb);rw[ofF_in hLi] at this;exact this)
    have HMM:Hid (∀ W,Below W0.heap.size W0 W→Calls Tryz.prog 71 #[.agg #[.slice Ad nd cd,.slice A0 n0 c0,.slice A1 n1 c1,.slice A2 n2 c2]] W (RetPost (sV (stS (ds.map Dom.st))) W.heap.size W)):=Lib.hid (fun W hb=>members_any ⟨Ad,nd,cd,⟨A0,n0,c0,A1,n1,c1,A2,n2,c2⟩⟩ W ds (by have:=HPA.out.1.1;dsimp only at this ⊢;omega) hst (HPA.out.keep hb).1)
    have HSB:Hid (∀ W,Calls Tryz.prog 108 #[sV (stS L),sV (stS (ds.map Dom.st))] W (RetPost (.bool false) W.heap.size W)):=Lib.hid (fun W=>by have:=subset_any (stS L) (stS (ds.map Dom.st)) HFS.out W;rw[decide_eq_false hm] at this;exact this)
    clear HE hall hm hst hLi HFS hdl
    generalize stS (ds.map Dom.st)=SM at *
    generalize stS L=S at *
    go_enter Tryz.func60,Tryz.ntmps60
    go_upto_region 1 with fail
    rw[←hW0]
    clear hW0
    go_wp2_with fail
    refine HPV.out.mono ?_
    rintro e Wa ⟨rfl,hba⟩
    have HBa:=Lib.hid hba
    clear hba q0 q1 q2 q3 lw0
    go_wp2_with fail
    refine(HVS.out _ HBa.out).mono ?_
    rintro e Wb ⟨rfl,hbb⟩
    have HBb:=Lib.hid (HBa.out.trans (hbb.mono HBa.out.size))
    clear hbb
    go_wp2_with fail
    refine(HOF.out _ HBb.out).mono ?_
    rintro e W1 ⟨rfl,hb1⟩
    have HB1:=Lib.hid (HBb.out.trans (hb1.mono HBb.out.size))
    clear hb1
    obtain⟨V,hV⟩:∃ V,V=W1.alloc (.cells (sL S).toArray 79):=⟨_,rfl⟩
    have hbv:Below W1.heap.size W1 V:=by rw[hV];exact(Below.refl _ _).alloc (Nat.le_refl _) _
    have hs6:Blk V W1.heap.size 79 (tabL 8 (sC S)):=by rw[hV,←sL_tab];exact blk_new _ _ _
    have HS6:=Lib.hid hs6
    obtain⟨d0,d1,d2,d3,d4,d5,d6,d7⟩:=hs6.eight
    have hdl6:=hs6.lt
    have HBV0:Below W0.heap.size W0 V:=HB1.out.trans (hbv.mono HB1.out.size)
    have x0:=(HBV0.cell (p:=⟨w.heap.size,0,none⟩) (by dsimp only;omega)).trans HC0.out.1
    have x1:=(HBV0.cell (p:=⟨w.heap.size,1,none⟩) (by dsimp only;omega)).trans HC0.out.2.1
    have x2:=(HBV0.cell (p:=⟨w.heap.size,2,none⟩) (by dsimp only;omega)).trans HC0.out.2.2.1
    have x3:=(HBV0.cell (p:=⟨w.heap.size,3,none⟩) (by dsimp only;omega)).trans HC0.out.2.2.2
    have lwV:w.heap.size<V.heap.size:=by have:=HBV0.size;omega
    have HVV:Hid (Below W0.heap.size W0 V.drew):=Lib.hid HBV0.drew
    unfold sL at hV
    unfold sV at HMM HSB ⊢
    clear hbv hs6 HBV0
    go_upto_region 4 with fail
    rw[←hV]
    clear hV
    go_wp2_with fail
    refine Lx.region (C:=fun w'=>w'.cell? ⟨W1.heap.size,0,none⟩=some (.int .u64 (wd S 0))∧w'.cell? ⟨W1.heap.size,1,none⟩=some (.int .u64 (wd S 1))∧w'.cell? ⟨W1.heap.size,2,none⟩=some (.int .u64 (wd S 2))∧w'.cell? ⟨W1.heap.size,3,none⟩=some (.int .u64 (wd S 3))∧w'.cell? ⟨W1.heap.size,4,none⟩=some (.int .u64 (wd S 4))∧w'.cell? ⟨W1.heap.size,5,none⟩=some (.int .u64 (wd S 5))∧w'.cell? ⟨W1.heap.size,6,none⟩=some (.int .u64 (wd S 6))∧w'.cell? ⟨W1.heap.size,7,none⟩=some (.int .u64 (wd S 7))) (hs:=[0]) (by kernel_rfl) (by kernel_rfl) ⟨d0,d1,d2,d3,d4,d5,d6,d7⟩ ?_
    repeat' (first|((first|refine Lx.ln (fun K hK=>?_) | (first|(refine Lx.lp (v:=?_) ?_ (fun K hK=>?_);rotate_left 1;intro w' hCw;try dsimp only at hCw) | (refine Lx.lr (v:=?_) ?_ (fun K hK=>?_);rotate_left 1));go_simp;first|done | with_reducible rfl);go_simp;refine hK _ ?_;clear hK K) | (refine Lx.le (fun K hK=>?_);go_simp;(first|(go_at_call 71;refine(HMM.out _ HVV.out).mono ?_;rintro e W2 ⟨rfl,hb2⟩;have H6:=Lib.hid (Blk.keep HS6.out.drew hb2);have HB2:=Lib.hid (HVV.out.trans (hb2.mono HVV.out.size))) | (go_at_call 108;refine(HSB.out _).mono ?_;rintro e W3 ⟨rfl,hb3⟩;have H6:=Lib.hid (H6.out.keep hb3);have HB3:=Lib.hid (HB2.out.trans (hb3.mono HB2.out.size))));refine hK _ _ (H6.out.eight) ?_;clear hK K))
    all_goals (refine Lx.lex_nil ?_)
    clear d0 d1 d2 d3 d4 d5 d6 d7 x0 x1 x2 x3 lwV hdl6
    obtain⟨hpost,hb6,hb7⟩:=HBad.out 9 _ HB3.out
    have f0:=hb6.cell (i:=0) rfl
    have f1:=hb6.cell (i:=1) rfl
    have f2:=hb6.cell (i:=2) rfl
    have f3:=hb6.cell (i:=3) rfl
    have f4:=hb6.lt
    have f5:∀ o,(W3).frozen? ⟨w.heap.size+1,o,none⟩=false:=hb6.frozen
    have HF:=Lib.hid (And.intro hpost hb7)
    clear hpost hb6 hb7
    go_wp2_with fail
    clear f0 f1 f2 f3 f4 f5
    have k0:=HF.out.2.cell (i:=0) rfl
    have k1:=HF.out.2.cell (i:=1) rfl
    have k2:=HF.out.2.cell (i:=2) rfl
    have k3:=HF.out.2.cell (i:=3) rfl
    refine bodyPost_ret (v:=.tuple #[.agg #[.slice none 0 0,.slice none 0 0,.slice none 0 0,.slice none 0 0],.int .i64 9]) (by simp[results,Tryz.results60,go_sem,k0,k1,k2,k3]) rfl HF.out.1
theorem st_list {L:List Int} (h:∀ y∈L,0≤y∧y<512) (hp:L.Pairwise (·<·)):memI (stS L)=L:=by
 have hm:mem (stS L)=L.map Int.toNat:=by
  refine sorted_ext (mem_sorted _) ?_ ?_
  ·rw[List.pairwise_map]
   exact hp.imp_of_mem (fun {a b} ha hb hab=>by have:=h a ha;have:=h b hb;omega)
  ·intro x
   rw[mem_iff (stS_fit h)]
   have hb:=stS_bit L 0 x
   rw[show L.foldl (fun a i=>a ||| 2 ^ i.toNat) 0=stS L from rfl] at hb
   rw[hb]
   simp[List.any_eq_true]
 unfold memI
 rw[hm,List.map_map]
 conv=>rhs;rw[←List.map_id L]
 exact List.map_congr_left (fun y hy=>by have:=h y hy;simp;omega)
theorem valid_inc {ds:List Dom} {r:Rul} (h:validP ds r=true):(ds.map Dom.st).Pairwise (·<·):=by
 simp only[validP,validD,Bool.and_eq_true] at h
 exact List.pairwise_map.2 ((inc_st ds).1 h.1.2)
def statF (ds:List Dom) (r:Rul):List Int×Int:=if validP ds r=true then (ds.map Dom.st,0) else ([],2)
theorem stations_any (s:PrbS) (w:World) (hT:Tab w) (ds:List Dom) (r:Rul) (hn:s.nd≤9223372036854775807) (hd:∀ d∈ds,d.len≤9223372036854775807) (h:PrbAt w w.heap.size s ds r):
  Calls Tryz.prog 36 #[s.val] w (ListPost (statF ds r) w):=by
 have HPV:=Lib.hid (fun W (hb:Below w.heap.size w W)=>pvalid_any s W ds r hn hd ⟨h.1.keep hb,h.2.keep hb⟩)
 have HMM:Hid (validP ds r=true→∀ W,Below w.heap.size w W→Calls Tryz.prog 71 #[s.val] W (RetPost (sV (stS (ds.map Dom.st))) W.heap.size W)):=Lib.hid (fun hv W hb=>members_any s W ds (by have:=h.1.1.1;have:=(valid_st hv).2.1;omega) (valid_st hv).1 (h.1.keep hb).1)
 have HLI:Hid (validP ds r=true→∀ W,Below w.heap.size w W→Calls Tryz.prog 39 #[sV (stS (ds.map Dom.st))] W (NewInts (ds.map Dom.st) W)):=Lib.hid (fun hv W hb=>by have:=list_any (stS (ds.map Dom.st)) W (stS_fit (valid_st hv).1) (hT.keep hb);rw[st_list (valid_st hv).1 (valid_inc hv)] at this;exact this)
 have HSF:Hid (∀ b,validP ds r=b→statF ds r=if b then (ds.map Dom.st,0) else ([],2)):=Lib.hid (fun b hb=>by unfold statF;rw[hb])
 generalize statF ds r=sf at *
 generalize validP ds r=v at *
 generalize ds.map Dom.st=L at *
 clear h hT
 obtain⟨Ad,nd,cd,⟨A0,n0,c0,A1,n1,c1,A2,n2,c2⟩⟩:=s
 unfold PrbS.val at *
 dsimp only at *
 obtain⟨W0,hW0⟩:∃ W0,W0=w.alloc (.cells #[.slice Ad nd cd,.slice A0 n0 c0,.slice A1 n1 c1,.slice A2 n2 c2] 29):=⟨_,rfl⟩
 have hB0:Below w.heap.size w W0:=by rw[hW0];exact(Below.refl _ w).alloc (Nat.le_refl _) _
 have hX:Blk W0 w.heap.size 29 [.slice Ad nd cd,.slice A0 n0 c0,.slice A1 n1 c1,.slice A2 n2 c2]:=by rw[hW0];exact blk_new w _ _
 have q0:=hX.cell (i:=0) rfl
 have q1:=hX.cell (i:=1) rfl
 have q2:=hX.cell (i:=2) rfl
 have q3:=hX.cell (i:=3) rfl
 have q4:=hX.lt
 have HX:=Lib.hid hX
 have HB0:=Lib.hid hB0
 clear hX hB0
 go_enter Tryz.func36,Tryz.ntmps36
 go_upto_region 1 with fail
 rw[←hW0]
 clear hW0
 go_wp2_with fail
 refine(HPV.out _ HB0.out).mono ?_
 rintro e W1 ⟨rfl,hb1⟩
 have HB1:=Lib.hid (HB0.out.trans (hb1.mono HB0.out.size))
 have HX1:=Lib.hid (HX.out.keep hb1)
 clear hb1 q0 q1 q2 q3 q4
 cases v with
 | false=>
  obtain rfl:=HSF.out _ rfl
  go_wp2_with fail
  refine bodyPost_ret (v:=.tuple #[.slice none 0 0,.int .i64 2]) (by simp[results,Tryz.results36,go_sem]) rfl ⟨_,rfl,World.ownsRow_nil _ _ _ _,HB1.out⟩
 | true=>
  obtain rfl:=HSF.out _ rfl
  have HMV:=Lib.hid (HMM.out rfl)
  have HLV:=Lib.hid (HLI.out rfl)
  have q0:=HX1.out.cell (i:=0) rfl
  have q1:=HX1.out.cell (i:=1) rfl
  have q2:=HX1.out.cell (i:=2) rfl
  have q3:=HX1.out.cell (i:=3) rfl
  have q4:=HX1.out.lt
  clear HMM HLI
  go_wp2_with fail
  refine(HMV.out _ HB1.out).mono ?_
  rintro e W2 ⟨rfl,hb2⟩
  have HB2:=Lib.hid (HB1.out.trans (hb2.mono HB1.out.size))
  clear hb2 q0 q1 q2 q3 q4
  unfold sV at HLV ⊢
  go_wp2_with fail
  refine(HLV.out _ HB2.out).mono ?_
  rintro e W3 ⟨v,rfl,hown,hb3⟩
  obtain⟨A3,c3,rfl,_⟩:=row1_of_own hown
  have HE:Hid (W3.ownsRow w.heap.size 3 1 (.slice A3 L.length c3) L.length (L.map intV)∧Below w.heap.size w W3):=Lib.hid ⟨own_low hown HB2.out.size,HB2.out.trans (hb3.mono HB2.out.size)⟩
  clear hown hb3
  go_wp2_with fail
  refine bodyPost_ret (v:=.tuple #[.slice A3 L.length c3,.int .i64 0]) (by simp[results,Tryz.results36,go_sem]) rfl ⟨_,rfl,HE.out.1,HE.out.2⟩
end Go.Proofs.YtjakdikhdndlgaaGreatDoor
