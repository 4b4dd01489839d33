/- Lemmas of the proof, part 14. Conditions: none. -/
import Derived.Test.YtjakdikhdndlgaaGreatDoorRed13
set_option maxRecDepth 100000
namespace Go.Proofs.YtjakdikhdndlgaaGreatDoor
open Go.RowKit
theorem inc_ext:∀ {a b:List Int},a.Pairwise (·<·)→b.Pairwise (·<·)→(∀ x,x∈a↔x∈b)→a=b:=by
 intro a
 induction a with
 | nil=>
  intro b _ _ h
  cases b with
  | nil=>rfl
  | cons y r=>have:=(h y).2 (by simp);cases this
 | cons x r ih=>
  intro b ha hb h
  cases b with
  | nil=>have:=(h x).1 (by simp);cases this
  | cons y s=>
   obtain⟨h1,h2⟩:=List.pairwise_cons.1 ha
   obtain⟨h3,h4⟩:=List.pairwise_cons.1 hb
   have hxy:x=y:=by
    have hx:=(h x).1 (by simp)
    have hy:=(h y).2 (by simp)
    rcases List.mem_cons.1 hx with hx | hx
    ·exact hx
    ·rcases List.mem_cons.1 hy with hy | hy
     ·exact hy.symm
     ·have:=h1 y hy;have:=h3 x hx;omega
   subst hxy
   congr 1
   refine ih h2 h4 (fun z=>?_)
   constructor
   ·intro hz
    rcases List.mem_cons.1 ((h z).1 (by simp[hz])) with rfl | hz'
    ·have:=h1 _ hz;omega
    ·exact hz'
   ·intro hz
    rcases List.mem_cons.1 ((h z).2 (by simp[hz])) with rfl | hz'
    ·have:=h3 _ hz;omega
    ·exact hz'
theorem vlGo_iff:∀(l:List (Int×Int)) (p:Option Int),vlGo p l=true↔(∀ x∈l,stF x.1=true∧2≤x.2∧x.2≤51∧(∀ q,p=some q→q<x.1))∧l.Pairwise (fun x y=>x.1<y.1):=by
 intro l
 induction l with
 | nil=>intro p;simp[vlGo]
 | cons x r ih=>
  intro p
  rw[vlGo]
  by_cases hb:stF x.1=false∨x.2<2∨51<x.2∨notUp p x.1=true
  ·rw[if_pos hb]
   refine⟨fun h=>(by cases h),fun h=>?_⟩
   obtain⟨h1,h2,h3,h4⟩:=h.1 x (by simp)
   rcases hb with hb | hb | hb | hb
   ·rw[h1] at hb;cases hb
   ·omega
   ·omega
   ·cases p with
    | none=>cases hb
    | some q=>have:=h4 q rfl;simp[notUp] at hb;omega
  ·rw[if_neg hb,ih]
   have hs:stF x.1=true:=by
    cases h:stF x.1 with
    | true=>rfl
    | false=>exact absurd (.inl h) hb
   have h2:¬x.2<2:=fun h=>hb (.inr (.inl h))
   have h5:¬51<x.2:=fun h=>hb (.inr (.inr (.inl h)))
   have hxp:∀ q,p=some q→q<x.1:=by
    rintro q rfl
    have:¬notUp (some q) x.1=true:=fun h=>hb (.inr (.inr (.inr h)))
    simp[notUp] at this
    exact this
   constructor
   ·rintro⟨h1,h3⟩
    refine⟨fun y hy=>?_,List.pairwise_cons.2 ⟨fun y hy=>(h1 y hy).2.2.2 x.1 rfl,h3⟩⟩
    rcases List.mem_cons.1 hy with rfl | hy
    ·exact⟨hs,by omega,by omega,hxp⟩
    ·obtain⟨g1,g2,g3,g4⟩:=h1 y hy
     exact⟨g1,g2,g3,fun q hq=>Int.lt_trans (hxp q hq) (g4 x.1 rfl)⟩
   ·rintro⟨h1,h3⟩
    obtain⟨h6,h4⟩:=List.pairwise_cons.1 h3
    refine⟨fun y hy=>?_,h4⟩
    obtain⟨g1,g2,g3,_⟩:=h1 y (by simp[hy])
    exact⟨g1,g2,g3,fun q hq=>(by cases hq;exact h6 y hy)⟩
theorem onF_mem:∀ {l:List (Int×Int)} {n:Int},onF l n≠0→n∈l.map Prod.fst:=by
 intro l
 induction l with
 | nil=>intro n h;exact absurd rfl h
 | cons x r ih=>
  intro n h
  rw[onF] at h
  by_cases he:x.1=n
  ·simp[he]
  ·rw[if_neg he] at h
   have:=ih h
   simp only[List.map_cons,List.mem_cons]
   exact .inr this
theorem onF_at:∀ {l:List (Int×Int)},l.Pairwise (fun x y=>x.1<y.1)→∀ x∈l,onF l x.1=x.2:=by
 intro l
 induction l with
 | nil=>intro _ x h;cases h
 | cons y r ih=>
  intro hp x hx
  obtain⟨h1,h2⟩:=List.pairwise_cons.1 hp
  rw[onF]
  rcases List.mem_cons.1 hx with rfl | hx
  ·rw[if_pos rfl]
  ·have:=h1 x hx
   rw[if_neg (by omega)]
   exact ih h2 x hx
theorem fine_st {ds:List Dom} {r:Rul} {l:List (Int×Int)} (h:fineF ds r l=true) (hi:(ds.map Dom.st).Pairwise (·<·)):l.map Prod.fst=ds.map Dom.st:=by
 simp only[fineF,okF,Bool.and_eq_true,List.all_eq_true] at h
 obtain⟨h1,h2,h3,_⟩:=h
 have hv:=(vlGo_iff l none).1 h1
 refine inc_ext (List.pairwise_map.2 hv.2) hi (fun x=>⟨fun hx=>?_,fun hx=>?_⟩)
 ·obtain⟨y,hy,rfl⟩:=List.mem_map.1 hx
  have:=h3 y hy
  rw[inD_mem] at this
  exact of_decide_eq_true this
 ·obtain⟨d,hd,rfl⟩:=List.mem_map.1 hx
  have:=h2 d hd
  refine onF_mem (fun h0=>?_)
  simp[bdF,h0] at this
theorem fine_ch {ds:List Dom} {r:Rul} {l:List (Int×Int)} (h:fineF ds r l=true) (hi:(ds.map Dom.st).Pairwise (·<·)) (k:Nat) (d:Dom) (x:Int×Int) (hd:ds[k]?=some d) (hx:l[k]?=some x):x.2∈d.chs:=by
 have hs:=fine_st h hi
 have hst:x.1=d.st:=by
  have h1:(l.map Prod.fst)[k]?=some x.1:=by rw[List.getElem?_map,hx];rfl
  have h2:(ds.map Dom.st)[k]?=some d.st:=by rw[List.getElem?_map,hd];rfl
  rw[hs,h2] at h1
  exact(Option.some.inj h1).symm
 simp only[fineF,okF,Bool.and_eq_true,List.all_eq_true] at h
 obtain⟨h1,h2,_⟩:=h
 have hv:=(vlGo_iff l none).1 h1
 have hon:=onF_at hv.2 x (List.mem_of_getElem? hx)
 have:=h2 d (List.mem_of_getElem? hd)
 unfold bdF at this
 rw[←hst,hon] at this
 have hc:=(hv.1 x (List.mem_of_getElem? hx)).2.1
 have hc0:x.2≠0:=by omega
 simp[hc0] at this
 rw[hasL_mem] at this
 exact of_decide_eq_true this
theorem st_bit (l:List Int) (k:Nat):(stS l).testBit k=l.any (fun i=>i.toNat == k):=by unfold stS;rw[stS_bit];simp
theorem sub_iff {a b:List Int} (ha:∀ y∈a,0≤y∧y<512) (hb:∀ y∈b,0≤y∧y<512):mi (stS a) (stS b)=0↔∀ x∈a,x∈b:=by
 constructor
 ·intro h x hx
  have h1:(mi (stS a) (stS b)).testBit x.toNat=false:=by rw[h,Nat.zero_testBit]
  rw[mi_tb,st_bit,st_bit] at h1
  have h2:a.any (fun i=>i.toNat == x.toNat)=true:=List.any_eq_true.2 ⟨x,hx,by simp⟩
  rw[h2,Bool.true_and,Bool.not_eq_false'] at h1
  obtain⟨y,hy,e⟩:=List.any_eq_true.1 h1
  have e:y.toNat=x.toNat:=by simpa using e
  have:=ha x hx;have:=hb y hy
  have:y=x:=by omega
  rw[←this];exact hy
 ·intro h
  apply Nat.eq_of_testBit_eq
  intro k
  rw[Nat.zero_testBit,mi_tb,st_bit,st_bit]
  cases hk:a.any (fun i=>i.toNat == k) with
  | false=>rfl
  | true=>
   obtain⟨y,hy,e⟩:=List.any_eq_true.1 hk
   rw[Bool.true_and,Bool.not_eq_false']
   exact List.any_eq_true.2 ⟨y,h y hy,e⟩
theorem st_say {ds es:List Dom} (h:ds.map Dom.say=es.map Dom.say):ds.map Dom.st=es.map Dom.st:=by
 have:=congrArg (List.map Prod.fst) h
 simpa[List.map_map,Function.comp_def,Dom.say] using this
theorem all_say {ds es:List Dom} (f:Int×List Int→Bool) (h:ds.map Dom.say=es.map Dom.say):ds.all (fun d=>f (Dom.say d))=es.all (fun d=>f (Dom.say d)):=by
 have:∀ l:List Dom,l.all (fun d=>f (Dom.say d))=(l.map Dom.say).all f:=fun l=>by rw[List.all_map];rfl
 rw[this,this,h]
theorem inc_say:∀ {ds es:List Dom},ds.map Dom.say=es.map Dom.say→incF (fun x y:Dom=>cmpF x.st y.st) ds=incF (fun x y:Dom=>cmpF x.st y.st) es:=by
 have key:∀ l:List Dom,incF (fun x y:Dom=>cmpF x.st y.st) l=incF cmpF (l.map Dom.st):=by
  intro l
  induction l with
  | nil=>rfl
  | cons x r ih=>
   cases r with
   | nil=>rfl
   | cons y r=>simp only[List.map_cons] at ih ⊢;unfold incF;rw[ih]
 intro ds es h
 rw[key,key,st_say h]
theorem valid_say {ds es:List Dom} (h:ds.map Dom.say=es.map Dom.say) (r:Rul):validP ds r=validP es r:=by
 unfold validP validD
 rw[st_say h,inc_say h]
 have:=all_say (fun d=>stF d.1&&d.2.all chGood&&incF cmpF d.2) h
 have e:∀ l:List Dom,l.all goodD=l.all (fun d=>(fun d:Int×List Int=>stF d.1&&d.2.all chGood&&incF cmpF d.2) (Dom.say d)):=fun l=>rfl
 rw[e ds,e es,this]
theorem ok_say {ds es:List Dom} (h:ds.map Dom.say=es.map Dom.say) (r:Rul) (l:List (Int×Int)) (a:Bool):okF ds r l a=okF es r l a:=by
 unfold okF
 have h1:=all_say (fun d=>!((decide (onF l d.1=0)&&a)||(!decide (onF l d.1=0)&&!hasL d.2 (onF l d.1)))) h
 have e1:∀ l':List Dom,l'.all (fun d=>!bdF a l d)=l'.all (fun d=>(fun d:Int×List Int=>!((decide (onF l d.1=0)&&a)||(!decide (onF l d.1=0)&&!hasL d.2 (onF l d.1)))) (Dom.say d)):=fun l'=>rfl
 have e2:∀ x:Int,inD ds x=inD es x:=fun x=>by rw[inD_mem,inD_mem,st_say h]
 have e3:inD ds=inD es:=funext e2
 rw[e1 ds,e1 es,h1,e3]
def resD (S:Nat) (ds:List Dom):List Dom:=ds.filter fun d=>hasS S d.st
theorem rest_valid {ds es:List Dom} {r:Rul} {L:List Int} (h:validP ds r=true) (he:es.map Dom.say=(resD (stS L) ds).map Dom.say):validP es (resR (stS L) r)=true:=by
 rw[valid_say he]
 have hst:=valid_st h
 unfold validP validD at h ⊢
 simp only[Bool.and_eq_true] at h ⊢
 obtain⟨⟨⟨h1,h2⟩,h3⟩,h4,h5,h6⟩:=h
 have hmem:∀ x:Int,hasS (stS L) x=true→x∈ds.map Dom.st→hasS (stS ((resD (stS L) ds).map Dom.st)) x=true:=by
  intro x hx hm
  rw[hasS_mem (fun y hy=>by
   obtain⟨d,hd,rfl⟩:=List.mem_map.1 hy
   exact hst.1 _ (List.mem_map.2 ⟨d,(List.mem_filter.1 hd).1,rfl⟩)),decide_eq_true_eq]
  obtain⟨d,hd,rfl⟩:=List.mem_map.1 hm
  exact List.mem_map.2 ⟨d,List.mem_filter.2 ⟨hd,hx⟩,rfl⟩
 have hin:∀ x:Int,hasS (stS (ds.map Dom.st)) x=true→x∈ds.map Dom.st:=fun x hx=>by rw[hasS_mem hst.1,decide_eq_true_eq] at hx;exact hx
 rw[List.all_eq_true] at h4 h5 h6
 refine⟨⟨⟨?_,?_⟩,?_⟩,?_,?_,?_⟩
 ·rw[List.all_eq_true] at h1 ⊢
  exact fun d hd=>h1 d (List.mem_filter.1 hd).1
 ·exact rules_filter h2 _ _ _
 ·exact incF_filter (fun x y:Dom=>cmpF x.st y.st) (fun d=>[d.st]) (fun x y=>cmpF_less x.st y.st) _ h3
 ·rw[List.all_eq_true]
  intro x hx
  obtain⟨hx1,hx2⟩:=List.mem_filter.1 hx
  have:=h4 x hx1
  simp only[Bool.and_eq_true] at this hx2 ⊢
  exact⟨hmem _ hx2.1 (hin _ this.1),hmem _ hx2.2 (hin _ this.2)⟩
 ·rw[List.all_eq_true]
  intro x hx
  obtain⟨hx1,hx2⟩:=List.mem_filter.1 hx
  have:=h5 x hx1
  simp only[Bool.and_eq_true] at this hx2 ⊢
  exact⟨hmem _ hx2.1 (hin _ this.1),hmem _ hx2.2 (hin _ this.2)⟩
 ·rw[List.all_eq_true]
  intro x hx
  obtain⟨hx1,hx2⟩:=List.mem_filter.1 hx
  exact hmem _ hx2 (hin _ (h6 x hx1))
structure VPr (ds:List Dom) (r:Rul):Prop where
 dom:∀ d∈ds,(∀ c∈d.chs,2≤c∧c≤51)∧d.chs.Pairwise (·<·)
 prs:∀ x∈r.pairs,(x.a∈ds.map Dom.st∧x.b∈ds.map Dom.st)∧(-1≤x.c∧x.c≤1)∧2≤x.d∧x.d≤x.e∧x.e≤51
 lds:∀ x∈r.loads,(x.a∈ds.map Dom.st∧x.b∈ds.map Dom.st)∧(1≤x.c∧x.c≤1073741824)∧2≤x.d∧x.d≤x.e∧x.e≤51
 cps:∀ x∈r.caps,x.a∈ds.map Dom.st∧(0≤x.b∧x.b≤1099511627776)∧2≤x.c∧x.c≤x.d∧x.d≤51
 sts:(∀ y∈ds.map Dom.st,0≤y∧y<512)∧ds.length≤512∧(∀ d∈ds,d.chs.length≤50)∧r.pairs.length≤4096∧r.loads.length≤1024∧r.caps.length≤1024
 up:(ds.map Dom.st).Pairwise (·<·)
theorem vpr {ds:List Dom} {r:Rul} (h:validP ds r=true):VPr ds r:=by
 have hst:=valid_st h
 have hup:=valid_inc h
 unfold validP validD rulesF goodP goodL goodC goodD spF chGood at h
 simp only[Bool.and_eq_true,List.all_eq_true,decide_eq_true_eq] at h
 obtain⟨⟨⟨h1,h2⟩,h3⟩,h4,h5,h6⟩:=h
 have hs:∀ x:Int,hasS (stS (ds.map Dom.st)) x=true→x∈ds.map Dom.st:=fun x hx=>by rw[hasS_mem hst.1,decide_eq_true_eq] at hx;exact hx
 refine⟨fun d hd=>⟨fun c hc=>(h1 d hd).1.2 c hc,?_⟩,fun x hx=>⟨⟨hs _ (h4 x hx).1,hs _ (h4 x hx).2⟩,?_⟩,fun x hx=>⟨⟨hs _ (h5 x hx).1,hs _ (h5 x hx).2⟩,?_⟩,fun x hx=>⟨hs _ (h6 x hx),?_⟩,hst,hup⟩
 ·have:=(h1 d hd).2
  rw[incF_pair cmpF (fun x=>[x]) cmpF_less] at this
  refine this.imp (fun {a b} hab=>?_)
  unfold lessL at hab
  split at hab
  ·exact of_decide_eq_true hab
  ·cases hab
 ·have:=h2.1.1.1.1.1.1.1.2 x hx;omega
 ·have:=h2.1.1.1.1.2 x hx;omega
 ·have:=h2.1.2 x hx;omega
def capF (caps:List R4) (s c:Int):Bool:=caps.any fun x=>decide (x.a=s)&&(decide (x.c≤c)&&decide (c≤x.d))
def ldB (caps:List R4) (s c t:Int) (x:R5):Bool:=((decide (x.a=s)&&decide (x.b=t))||(decide (x.a=t)&&decide (x.b=s)))&&(decide (x.d≤c)&&(decide (c≤x.e)&&capF caps x.a c))
def blkd (r:Rul) (s c t d:Int):Bool:=if s=t then false else r.pairs.any (fun x=>bpF x [(s,c),(t,d)])||(decide (c=d)&&r.loads.any (ldB r.caps s c t))
abbrev Dms:=List (Int×List Int)
def chsOf (D:Dms) (s:Int):List Int:=((D.find? fun d=>decide (d.1=s)).map (·.2)).getD []
def cntB (r:Rul) (s:Int) (own:List Int) (t d:Int):Nat:=own.countP fun c=>blkd r s c t d
def blN (D:Dms) (r:Rul) (s t:Int):Nat:=(chsOf D t).foldl (fun m d=>max m (cntB r s (chsOf D s) t d)) 0
def easyF (D:Dms) (r:Rul) (set:List Int) (s:Int):Bool:=decide ((set.map (blN D r s)).sum<(chsOf D s).length)
def peelG (D:Dms) (r:Rul):Nat→List Int→List Int→List Int×List Int
 | 0,out,set=>(out,set)
 | f+1,out,set=>match set.find? (easyF D r set) with
  | none=>(out,set)
  | some s=>peelG D r f (out++[s]) (set.filter fun x=>!decide (x=s))
def peelF (D:Dms) (r:Rul):List Int×List Int:=peelG D r D.length [] (D.map Prod.fst)
theorem max_fold_le {α:Type} (f:α→Nat) (l:List α) (m n:Nat) (hm:m≤n) (h:∀ x∈l,f x≤n):l.foldl (fun m x=>max m (f x)) m≤n:=by
 induction l generalizing m with
 | nil=>exact hm
 | cons x q ih=>rw[List.foldl_cons];exact ih _ (Nat.max_le.2 ⟨hm,h x (by simp)⟩) (fun y hy=>h y (by simp[hy]))
theorem le_max_fold {α:Type} (f:α→Nat) (l:List α) (m:Nat):m≤l.foldl (fun m x=>max m (f x)) m∧∀ x∈l,f x≤l.foldl (fun m x=>max m (f x)) m:=by
 induction l generalizing m with
 | nil=>exact⟨Nat.le_refl _,fun _ h=>(by cases h)⟩
 | cons x q ih=>
  rw[List.foldl_cons]
  obtain⟨h1,h2⟩:=ih (max m (f x))
  refine⟨Nat.le_trans (Nat.le_max_left ..) h1,fun y hy=>?_⟩
  rcases List.mem_cons.1 hy with rfl | hy
  ·exact Nat.le_trans (Nat.le_max_right ..) h1
  ·exact h2 y hy
theorem max_fold_congr {α:Type} (f g:α→Nat) (l:List α) (m:Nat) (h:∀ x∈l,f x=g x):l.foldl (fun m x=>max m (f x)) m=l.foldl (fun m x=>max m (g x)) m:=by
 induction l generalizing m with
 | nil=>rfl
 | cons x q ih=>rw[List.foldl_cons,List.foldl_cons,h x (by simp)];exact ih _ (fun y hy=>h y (by simp[hy]))
theorem cnt_le_blk {D:Dms} {r:Rul} {s t d:Int} (hd:d∈chsOf D t):cntB r s (chsOf D s) t d≤blN D r s t:=(le_max_fold (fun d=>cntB r s (chsOf D s) t d) (chsOf D t) 0).2 d hd
theorem blk_le (D:Dms) (r:Rul) (s t:Int):blN D r s t≤(chsOf D s).length:=max_fold_le _ _ _ _ (Nat.zero_le _) (fun _ _=>List.countP_le_length)
def linkF (r:Rul) (a b:Int):Bool:=r.pairs.any (fun x=>(decide (x.a=a)&&decide (x.b=b))||(decide (x.a=b)&&decide (x.b=a)))||r.loads.any (fun x=>(decide (x.a=a)&&decide (x.b=b))||(decide (x.a=b)&&decide (x.b=a)))
theorem link_comm (r:Rul) (a b:Int):linkF r a b=linkF r b a:=by
 unfold linkF
 congr 1<;>(congr 1;funext x;rw[Bool.or_comm])
theorem bp_two {x:R5} (hx:x.a≠x.b) {s c t d:Int} (h:bpF x [(s,c),(t,d)]=true):(x.a=s∧x.b=t)∨(x.a=t∧x.b=s):=by
 unfold bpF at h
 simp only[Bool.and_eq_true,Bool.not_eq_true',decide_eq_false_iff_not] at h
 obtain⟨h1,h2,_⟩:=h
 have on:∀ n,onF [(s,c),(t,d)] n≠0→n=s∨n=t:=by
  intro n hn
  simp only[onF] at hn
  split at hn
  ·rename_i e;exact .inl e.symm
  ·split at hn
   ·rename_i e;exact .inr e.symm
   ·exact absurd rfl hn
 rcases on _ h1 with a1 | a1<;>rcases on _ h2 with a2 | a2
 ·exact absurd (a1.trans a2.symm) hx
 ·exact .inl ⟨a1,a2⟩
 ·exact .inr ⟨a1,a2⟩
 ·exact absurd (a1.trans a2.symm) hx
theorem blkd_link {r:Rul} (hp:∀ x∈r.pairs,x.a≠x.b) {s c t d:Int} (h:blkd r s c t d=true):linkF r s t=true:=by
 unfold blkd at h
 split at h
 ·cases h
 ·unfold linkF
  rw[Bool.or_eq_true] at h ⊢
  rcases h with h | h
  ·refine .inl ?_
   obtain⟨x,hx,hb⟩:=List.any_eq_true.1 h
   refine List.any_eq_true.2 ⟨x,hx,?_⟩
   rw[Bool.or_eq_true,Bool.and_eq_true,Bool.and_eq_true,decide_eq_true_eq,decide_eq_true_eq,decide_eq_true_eq,decide_eq_true_eq]
   exact bp_two (hp x hx) hb
  ·refine .inr ?_
   rw[Bool.and_eq_true] at h
   obtain⟨x,hx,hb⟩:=List.any_eq_true.1 h.2
   refine List.any_eq_true.2 ⟨x,hx,?_⟩
   unfold ldB at hb
   rw[Bool.and_eq_true] at hb
   exact hb.1
theorem blk_link {D:Dms} {r:Rul} (hp:∀ x∈r.pairs,x.a≠x.b) {s t:Int} (h:linkF r s t=false):blN D r s t=0:=by
 refine Nat.le_antisymm (max_fold_le _ _ _ _ (Nat.le_refl _) (fun x _=>?_)) (Nat.zero_le _)
 unfold cntB
 rw[List.countP_eq_zero.2]
 ·exact Nat.le_refl _
 ·intro c _ hb
  rw[blkd_link hp hb] at h;cases h
theorem sum_le_of {α:Type} (f g:α→Nat):∀ l:List α,(∀ x∈l,f x≤g x)→(l.map f).sum≤(l.map g).sum
 | [],_=>Nat.le_refl _
 | x::r,h=>by
  rw[List.map_cons,List.map_cons,List.sum_cons,List.sum_cons]
  exact Nat.add_le_add (h x (by simp)) (sum_le_of f g r (fun y hy=>h y (by simp[hy])))
theorem sum_sub_of {α:Type} (f:α→Nat) {a b:List α} (h:a.Sublist b):(a.map f).sum≤(b.map f).sum:=by
 induction h with
 | slnil=>exact Nat.le_refl _
 | cons x _ ih=>rw[List.map_cons,List.sum_cons];omega
 | cons_cons x _ ih=>rw[List.map_cons,List.map_cons,List.sum_cons,List.sum_cons];omega
theorem peelG_spec (D:Dms) (r:Rul):∀(f:Nat) (out set:List Int),(∃ p:Int→Bool,(peelG D r f out set).2=set.filter p)∧(∃ q,(peelG D r f out set).1=out++q):=by
 intro f
 induction f with
 | zero=>intro out set;exact⟨⟨fun _=>true,(List.filter_eq_self.2 (fun _ _=>rfl)).symm⟩,⟨[],by simp[peelG]⟩⟩
 | succ f ih=>
  intro out set
  rw[peelG]
  split
  ·exact⟨⟨fun _=>true,(List.filter_eq_self.2 (fun _ _=>rfl)).symm⟩,⟨[],by simp⟩⟩
  ·rename_i s _
   obtain⟨⟨p,hp⟩,⟨q,hq⟩⟩:=ih (out++[s]) (set.filter fun x=>!decide (x=s))
   refine⟨⟨fun x=>p x&&!decide (x=s),by rw[hp,List.filter_filter]⟩,⟨s::q,by rw[hq];simp⟩⟩
theorem peelG_mem (D:Dms) (r:Rul):∀(f:Nat) (out set:List Int) (x:Int),(x∈(peelG D r f out set).1∨x∈(peelG D r f out set).2)↔(x∈out∨x∈set):=by
 intro f
 induction f with
 | zero=>intro out set x;rfl
 | succ f ih=>
  intro out set x
  rw[peelG]
  split
  ·rfl
  ·rename_i s hs
   have hs:=List.mem_of_find?_eq_some hs
   rw[ih]
   simp only[List.mem_append,List.mem_singleton,List.mem_filter,Bool.not_eq_true',decide_eq_false_iff_not]
   constructor
   ·rintro((h | rfl) | h)
    ·exact .inl h
    ·exact .inr hs
    ·exact .inr h.1
   ·rintro(h | h)
    ·exact .inl (.inl h)
    ·by_cases hx:x=s
     ·exact .inl (.inr hx)
     ·exact .inr ⟨h,hx⟩
theorem peelG_disj (D:Dms) (r:Rul):∀(f:Nat) (out set:List Int),(∀ x∈out,x∉set)→∀ x∈(peelG D r f out set).1,x∉(peelG D r f out set).2:=by
 intro f
 induction f with
 | zero=>intro out set h;exact h
 | succ f ih=>
  intro out set h
  rw[peelG]
  split
  ·exact h
  ·rename_i s hs
   refine ih _ _ (fun x hx hm=>?_)
   obtain⟨h1,h2⟩:=List.mem_filter.1 hm
   rcases List.mem_append.1 hx with hx | hx
   ·exact h x hx h1
   ·rw[List.mem_singleton] at hx;simp[hx] at h2
theorem peelG_none {D:Dms} {r:Rul} {set:List Int} (h:∀ s∈set,easyF D r set s=false) (f:Nat) (out:List Int):peelG D r f out set=(out,set):=by
 cases f with
 | zero=>rfl
 | succ f=>rw[peelG,List.find?_eq_none.2 (fun s hs=>by rw[h s hs];simp)]
theorem peelG_out (D:Dms) (r:Rul):∀(f:Nat) (out set:List Int),peelG D r f out set=(out++(peelG D r f [] set).1,(peelG D r f [] set).2):=by
 intro f
 induction f with
 | zero=>intro out set;simp[peelG]
 | succ f ih=>
  intro out set
  rw[peelG,peelG]
  split
  ·simp
  ·rw[ih,ih ([]++[_])];simp
theorem peelG_at (D:Dms) (r:Rul):∀(f:Nat) (set:List Int),set.Nodup→∀(k:Nat) (s:Int),(peelG D r f [] set).1[k]?=some s →
  ∃ T:List Int,easyF D r T s=true∧T.Nodup∧s∈T∧(∀ x,x∈T↔(x∈(peelG D r f [] set).1.drop k∨x∈(peelG D r f [] set).2))∧T.Sublist set:=by
 intro f
 induction f with
 | zero=>intro set _ k s hk;simp[peelG] at hk
 | succ f ih=>
  intro set hnd k s hk
  rw[peelG] at hk ⊢
  cases hu:set.find? (easyF D r set) with
  | none=>rw[hu] at hk;simp at hk
  | some u=>
   rw[hu] at hk
   dsimp only at hk ⊢
   have hmu:=List.mem_of_find?_eq_some hu
   rw[peelG_out] at hk ⊢
   cases k with
   | zero=>
    simp only[List.nil_append,List.singleton_append,List.getElem?_cons_zero,Option.some.injEq] at hk
    subst hk
    refine⟨set,List.find?_some hu,hnd,hmu,fun x=>?_,List.Sublist.refl _⟩
    have hm:=peelG_mem D r f [] (set.filter fun x=>!decide (x=u)) x
    simp only[List.nil_append,List.singleton_append,List.drop_zero,List.mem_cons,or_assoc,hm,List.mem_filter,Bool.not_eq_true',decide_eq_false_iff_not,List.not_mem_nil,false_or]
    constructor
    ·intro h
     by_cases e:x=u
     ·exact .inl e
     ·exact .inr ⟨h,e⟩
    ·rintro(rfl | h)
     ·exact hmu
     ·exact h.1
   | succ k=>
    simp only[List.nil_append,List.singleton_append,List.getElem?_cons_succ] at hk
    obtain⟨T,h1,h2,h5,h3,h4⟩:=ih (set.filter fun x=>!decide (x=u)) (hnd.filter _) k s hk
    exact⟨T,h1,h2,h5,fun x=>by rw[h3];simp,h4.trans List.filter_sublist⟩
theorem rowS_blk {α:Type} {sz:Nat} {f:α→Nat→Value} {W:World} {b t D:Nat} {s:List Value} (xs:List α) (h:Blk W b t s) (hs:s=flat sz f xs) (hD:b<D):RowS sz f W D (some ⟨b,0,none⟩) xs.length xs:=by
 subst hs
 refine⟨rfl,fun _=>⟨b,0,rfl,hD,fun k x hk j hj=>?_⟩⟩
 rw[Nat.zero_add]
 exact h.cell (flat_at sz f xs k x hk j hj)
theorem blkd_comm (r:Rul) (s c t d:Int):blkd r s c t d=blkd r t d s c:=by
 unfold blkd
 by_cases hst:s=t
 ·rw[if_pos hst,if_pos hst.symm]
 ·rw[if_neg hst,if_neg (Ne.symm hst)]
  have hon:∀ n,onF [(s,c),(t,d)] n=onF [(t,d),(s,c)] n:=by
   intro n
   simp only[onF]
   by_cases h1:s=n
   ·subst h1;rw[if_pos rfl,if_neg (Ne.symm hst),if_pos rfl]
   ·rw[if_neg h1,if_neg h1]
  have h1:∀ x,bpF x [(s,c),(t,d)]=bpF x [(t,d),(s,c)]:=by
   intro x;unfold bpF;rw[hon,hon]
  congr 1
  ·congr 1;funext x;exact h1 x
  ·by_cases hcd:c=d
   ·subst hcd
    congr 1;congr 1;funext x;unfold ldB;rw[Bool.or_comm]
   ·rw[decide_eq_false hcd,decide_eq_false (Ne.symm hcd)];rfl
def exGo (r:Rul) (s:Int):List Int→List (Int×Int)→List (Int×Int)
 | [],pl=>pl
 | c::q,pl=>if onF pl s=0 then exGo r s q (if (pl.all fun x=>!blkd r s c x.1 x.2)=true then pl++[(s,c)] else pl) else pl
def extG (D:Dms) (r:Rul) (rem:List Int) (pl:List (Int×Int)):List (Int×Int):=rem.foldl (fun pl s=>exGo r s (chsOf D s) pl) pl
def outF (D:Dms) (pl:List (Int×Int)):List (Int×Int):=D.map fun d=>(d.1,onF pl d.1)
def extF (D:Dms) (r:Rul) (l:List (Int×Int)):List (Int×Int):=outF D (extG D r (peelF D r).1.reverse l)
theorem on_append (a b:List (Int×Int)) (n:Int):onF (a++b) n=if n∈a.map Prod.fst then onF a n else onF b n:=by
 induction a with
 | nil=>rfl
 | cons x q ih=>
  rw[List.cons_append,onF,onF,List.map_cons]
  by_cases h:x.1=n
  ·rw[if_pos h,if_pos h,if_pos (by simp[h])]
  ·rw[if_neg h,if_neg h,ih]
   by_cases h2:n∈q.map Prod.fst
   ·rw[if_pos h2,if_pos (by simp[h2])]
   ·rw[if_neg h2,if_neg (by simp only[List.mem_cons,not_or];exact⟨fun e=>h e.symm,h2⟩)]
theorem on_none {a:List (Int×Int)} {n:Int} (h:n∉a.map Prod.fst):onF a n=0:=by
 induction a with
 | nil=>rfl
 | cons x q ih=>
  rw[List.map_cons,List.mem_cons,not_or] at h
  rw[onF,if_neg (fun e=>h.1 e.symm),ih h.2]
theorem on_of {a:List (Int×Int)} (hn:(a.map Prod.fst).Nodup) {x:Int×Int} (hx:x∈a):onF a x.1=x.2:=by
 induction a with
 | nil=>cases hx
 | cons y q ih=>
  rw[List.map_cons,List.nodup_cons] at hn
  rw[onF]
  rcases List.mem_cons.1 hx with rfl | hx
  ·rw[if_pos rfl]
  ·rw[if_neg (fun e=>hn.1 (by rw[e];exact List.mem_map_of_mem hx)),ih hn.2 hx]
theorem exGo_on {r:Rul} {s:Int}:∀(q:List Int) {pl:List (Int×Int)},onF pl s≠0→exGo r s q pl=pl
 | [],_,_=>rfl
 | _::_,_,h=>by rw[exGo,if_neg h]
theorem exGo_eq {r:Rul} {s:Int}:∀(q:List Int) {pl:List (Int×Int)},s∉pl.map Prod.fst→(∀ c∈q,c≠0)→exGo r s q pl=match q.find? (fun c=>pl.all fun x=>!blkd r s c x.1 x.2) with
  | none=>pl
  | some c=>pl++[(s,c)]
 | [],_,_,_=>rfl
 | c::q,pl,h,hq=>by
  rw[exGo,if_pos (on_none h),List.find?_cons]
  cases hc:(pl.all fun x=>!blkd r s c x.1 x.2) with
  | true=>
   rw[if_pos rfl]
   dsimp only
   refine exGo_on q ?_
   rw[on_append,if_neg h,onF,if_pos rfl]
   exact hq c (by simp)
  | false=>
   rw[if_neg (by simp)]
   exact exGo_eq q h (fun c hc=>hq c (by simp[hc]))
theorem count_any {α β:Type} (p:β→α→Bool) (own:List α):∀(pl:List β),own.countP (fun c=>pl.any fun x=>p x c)≤(pl.map fun x=>own.countP (p x)).sum
 | []=>by simp
 | x::q=>by
  rw[List.map_cons,List.sum_cons]
  have h1:=count_any p own q
  have h2:own.countP (fun c=>(x::q).any fun x=>p x c)≤own.countP (p x)+own.countP (fun c=>q.any fun x=>p x c):=by
   clear h1
   induction own with
   | nil=>simp
   | cons c own ih=>
    simp only[List.countP_cons,List.any_cons] at ih ⊢
    cases p x c<;>cases q.any (fun x=>p x c)<;>simp<;>omega
  omega
theorem sum_perm {α:Type} (f:α→Nat) {a b:List α} (h:a.Perm b):(a.map f).sum=(b.map f).sum:=by
 induction h with
 | nil=>rfl
 | cons x _ ih=>rw[List.map_cons,List.map_cons,List.sum_cons,List.sum_cons,ih]
 | swap x y l=>simp only[List.map_cons,List.sum_cons];omega
 | trans _ _ ih1 ih2=>exact ih1.trans ih2
theorem sum_sub_mem {α:Type} [DecidableEq α] (f:α→Nat):∀ {a b:List α},a.Nodup→(∀ x∈a,x∈b)→(a.map f).sum≤(b.map f).sum
 | [],_,_,_=>by simp
 | x::q,b,hn,h=>by
  rw[List.nodup_cons] at hn
  have h1:=sum_sub_mem f (b:=b.erase x) hn.2 (fun y hy=>(List.mem_erase_of_ne (by rintro rfl;exact hn.1 hy)).2 (h y (by simp[hy])))
  have h2:=sum_perm f (List.perm_cons_erase (h x (by simp)))
  rw[List.map_cons,List.sum_cons] at h2 ⊢
  omega
theorem free_ex {D:Dms} {r:Rul} {s:Int} {T:List Int} (he:easyF D r T s=true) {pl:List (Int×Int)} (hn:(pl.map Prod.fst).Nodup) (hT:∀ x∈pl,x.1∈T∧x.2∈chsOf D x.1):
  ∃ c,(chsOf D s).find? (fun c=>pl.all fun x=>!blkd r s c x.1 x.2)=some c:=by
 cases hf:(chsOf D s).find? (fun c=>pl.all fun x=>!blkd r s c x.1 x.2) with
 | some c=>exact⟨c,rfl⟩
 | none=>
  exfalso
  have h1:=List.find?_eq_none.1 hf
  have h2:(chsOf D s).countP (fun c=>pl.any fun x=>blkd r s c x.1 x.2)=(chsOf D s).length:=by
   rw[List.countP_eq_length]
   intro c hc
   cases ha:(pl.any fun x=>blkd r s c x.1 x.2) with
   | true=>rfl
   | false=>
    refine absurd ?_ (h1 c hc)
    rw[List.all_eq_true]
    intro x hx
    rw[List.any_eq_false] at ha
    have:=ha x hx
    simpa using this
  have h3:=count_any (fun (x:Int×Int) c=>blkd r s c x.1 x.2) (chsOf D s) pl
  have h4:(pl.map fun x=>(chsOf D s).countP fun c=>blkd r s c x.1 x.2).sum≤(pl.map fun x=>blN D r s x.1).sum:=sum_le_of _ _ _ (fun x hx=>cnt_le_blk (hT x hx).2)
  have h5:(pl.map fun x=>blN D r s x.1).sum=((pl.map Prod.fst).map (blN D r s)).sum:=by rw[List.map_map];rfl
  have h6:=sum_sub_mem (blN D r s) hn (fun y hy=>by obtain⟨x,hx,rfl⟩:=List.mem_map.1 hy;exact(hT x hx).1:∀ y∈pl.map Prod.fst,y∈T)
  unfold easyF at he
  rw[decide_eq_true_eq] at he
  omega
structure PlI (D:Dms) (r:Rul) (l:List (Int×Int)) (rem:List Int) (pl:List (Int×Int)):Prop where
 ex:∃ q,pl=l++q∧q.map Prod.fst=rem
 nd:(pl.map Prod.fst).Nodup
 ch:∀ x∈pl,x.2∈chsOf D x.1
 ok:∀ x∈pl,∀ y∈pl,x.1∈rem→blkd r x.1 x.2 y.1 y.2=false
theorem pl_step {D:Dms} {r:Rul} (h0:∀ s,∀ c∈chsOf D s,c≠0) {l:List (Int×Int)} {rem:List Int} {pl:List (Int×Int)} (h:PlI D r l rem pl) {s:Int} {T:List Int} (hs:s∉pl.map Prod.fst) (he:easyF D r T s=true) (hT:∀ x∈pl,x.1∈T):
  PlI D r l (rem++[s]) (exGo r s (chsOf D s) pl):=by
 obtain⟨c,hc⟩:=free_ex he h.nd (fun x hx=>⟨hT x hx,h.ch x hx⟩)
 rw[exGo_eq _ hs (h0 s),hc]
 have hfree:∀ x∈pl,blkd r s c x.1 x.2=false:=by
  have:=List.find?_some hc
  simpa using this
 have hself:∀ e,blkd r s c s e=false:=fun e=>by unfold blkd;rw[if_pos rfl]
 obtain⟨q,h1,h2⟩:=h.ex
 refine⟨⟨q++[(s,c)],by rw[h1];simp,by simp[h2]⟩,?_,?_,?_⟩
 ·rw[List.map_append,List.map_singleton,List.nodup_append]
  exact⟨h.nd,by simp,fun a ha b hb=>by rw[List.mem_singleton] at hb;subst hb;rintro rfl;exact hs ha⟩
 ·intro x hx
  rcases List.mem_append.1 hx with hx | hx
  ·exact h.ch x hx
  ·rw[List.mem_singleton] at hx;subst hx;exact List.mem_of_find?_eq_some hc
 ·intro x hx y hy hxr
  rcases List.mem_append.1 hx with hx | hx<;>rcases List.mem_append.1 hy with hy | hy
  ·refine h.ok x hx y hy ?_
   rcases List.mem_append.1 hxr with hxr | hxr
   ·exact hxr
   ·rw[List.mem_singleton] at hxr
    exact absurd (hxr ▸ List.mem_map_of_mem hx) hs
  ·rw[List.mem_singleton] at hy;subst hy;rw[blkd_comm];exact hfree x hx
  ·rw[List.mem_singleton] at hx;subst hx;exact hfree y hy
  ·rw[List.mem_singleton] at hx hy;subst hx;subst hy;exact hself _
theorem ext_pl {D:Dms} {r:Rul} (hD:(D.map Prod.fst).Nodup) (h0:∀ s,∀ c∈chsOf D s,c≠0) {l:List (Int×Int)} (hl:l.map Prod.fst=(peelF D r).2) (hc:∀ x∈l,x.2∈chsOf D x.1):
  ∀(j k:Nat),k+j=(peelF D r).1.length→PlI D r l ((peelF D r).1.drop k).reverse (extG D r ((peelF D r).1.drop k).reverse l):=by
 have hsub:∃ p:Int→Bool,(peelF D r).2=(D.map Prod.fst).filter p:=(peelG_spec D r D.length [] (D.map Prod.fst)).1
 have hcn:(peelF D r).2.Nodup:=by obtain⟨p,e⟩:=hsub;rw[e];exact hD.filter p
 have hdis:∀ x∈(peelF D r).1,x∉(peelF D r).2:=peelG_disj D r D.length [] (D.map Prod.fst) (fun x hx=>by cases hx)
 intro j
 induction j with
 | zero=>
  intro k hk
  rw[List.drop_of_length_le (by omega)]
  exact⟨⟨[],by simp[extG],rfl⟩,by rw[extG,List.reverse_nil,List.foldl_nil,hl];exact hcn,hc,fun x _ y _ h=>(by cases h)⟩
 | succ j ih=>
  intro k hk
  have h1:=ih (k+1) (by omega)
  have hk':k<(peelF D r).1.length:=by omega
  obtain⟨T,t1,t2,t3,t4,t5⟩:=peelG_at D r D.length (D.map Prod.fst) hD k _ (List.getElem?_eq_getElem hk')
  have hd:(peelF D r).1.drop k=(peelF D r).1[k]::(peelF D r).1.drop (k+1):=List.drop_eq_getElem_cons hk'
  have e:extG D r ((peelF D r).1.drop k).reverse l=exGo r (peelF D r).1[k] (chsOf D (peelF D r).1[k]) (extG D r ((peelF D r).1.drop (k+1)).reverse l):=by
   rw[hd,List.reverse_cons,extG,List.foldl_append];rfl
  rw[e,hd,List.reverse_cons]
  obtain⟨q,hq1,hq2⟩:=h1.ex
  have hmem:∀ x,x∈(extG D r ((peelF D r).1.drop (k+1)).reverse l).map Prod.fst↔(x∈(peelF D r).1.drop (k+1)∨x∈(peelF D r).2):=by
   intro x;rw[hq1,List.map_append,List.mem_append,hl,hq2,List.mem_reverse];exact Or.comm
  refine pl_step h0 h1 ?_ t1 (fun x hx=>?_)
  ·rw[hmem]
   rintro(h | h)
   ·have hn:((peelF D r).1).Nodup:=by
     have:∀(f:Nat) (out set:List Int),out.Nodup→set.Nodup→(∀ x∈out,x∉set)→(peelG D r f out set).1.Nodup:=by
      intro f
      induction f with
      | zero=>intro out set h _ _;exact h
      | succ f ih=>
       intro out set h1 h2 h3
       rw[peelG]
       split
       ·exact h1
       ·rename_i s hs
        have hs:=List.mem_of_find?_eq_some hs
        refine ih _ _ ?_ (h2.filter _) ?_
        ·rw[List.nodup_append]
         exact⟨h1,by simp,fun a ha b hb=>by rw[List.mem_singleton] at hb;subst hb;rintro rfl;exact h3 a ha hs⟩
        ·intro x hx hm
         obtain⟨m1,m2⟩:=List.mem_filter.1 hm
         rcases List.mem_append.1 hx with hx | hx
         ·exact h3 x hx m1
         ·rw[List.mem_singleton] at hx;simp[hx] at m2
     exact this D.length [] (D.map Prod.fst) List.nodup_nil hD (fun x hx=>by cases hx)
    have hdn:=hn.sublist (List.drop_sublist k (peelF D r).1)
    rw[hd,List.nodup_cons] at hdn
    exact hdn.1 h
   ·exact hdis _ (List.getElem_mem hk') h
  ·have:=(hmem x.1).1 (List.mem_map_of_mem hx)
   refine(t4 x.1).2 ?_
   rcases this with h | h
   ·refine .inl ?_
    have hh:x.1∈(peelF D r).1.drop k:=by rw[hd];exact List.mem_cons_of_mem _ h
    exact hh
   ·exact .inr h
theorem chs_of {D:Dms} (hD:(D.map Prod.fst).Nodup) {d:Int×List Int} (hd:d∈D):chsOf D d.1=d.2:=by
 unfold chsOf
 induction D with
 | nil=>cases hd
 | cons e q ih=>
  rw[List.map_cons,List.nodup_cons] at hD
  rw[List.find?_cons]
  rcases List.mem_cons.1 hd with rfl | hd
  ·rw[decide_eq_true rfl];rfl
  ·rw[decide_eq_false (fun h:e.1=d.1=>hD.1 (by rw[h];exact List.mem_map_of_mem hd))]
   exact ih hD.2 hd
theorem chs_mem {D:Dms} {s c:Int} (h:c∈chsOf D s):∃ d∈D,d.1=s∧c∈d.2:=by
 unfold chsOf at h
 cases hf:D.find? (fun d=>decide (d.1=s)) with
 | none=>rw[hf] at h;cases h
 | some d=>
  rw[hf] at h
  exact⟨d,List.mem_of_find?_eq_some hf,by simpa using List.find?_some hf,h⟩
theorem say_st (ds:List Dom):(ds.map Dom.say).map Prod.fst=ds.map Dom.st:=by rw[List.map_map];rfl
theorem inc_nodup {l:List Int} (h:l.Pairwise (·<·)):l.Nodup:=h.imp (fun {a b} hab=>by omega)
theorem core_sub (D:Dms) (r:Rul):∀ s∈(peelF D r).2,s∈D.map Prod.fst:=fun s hs=>by
 obtain⟨⟨p,hp⟩,_⟩:=peelG_spec D r D.length [] (D.map Prod.fst)
 exact(List.mem_filter.1 ((show (peelF D r).2=_ from hp) ▸ hs)).1
theorem core_list (D:Dms) (r:Rul):(peelF D r).2=(D.map Prod.fst).filter (fun s=>decide (s∈(peelF D r).2)):=by
 obtain⟨⟨p,hp⟩,_⟩:=peelG_spec D r D.length [] (D.map Prod.fst)
 have hp:(peelF D r).2=(D.map Prod.fst).filter p:=hp
 conv=>lhs;rw[hp]
 apply List.filter_congr
 intro s hs
 rw[hp]
 simp only[List.mem_filter,hs,true_and]
 cases p s<;>simp
theorem chs_ne {ds:List Dom} {r:Rul} (hv:VPr ds r) (s:Int):∀ c∈chsOf (ds.map Dom.say) s,c≠0:=by
 intro c hc
 obtain⟨d,hd,_,hm⟩:=chs_mem hc
 obtain⟨e,he,rfl⟩:=List.mem_map.1 hd
 have:=(hv.dom e he).1 c hm
 omega
theorem res_st {ds:List Dom} {C:List Int} (hC:∀ y∈C,0≤y∧y<512):(resD (stS C) ds).map Dom.st=(ds.map Dom.st).filter (fun s=>decide (s∈C)):=by
 unfold resD
 rw[List.filter_map]
 congr 1
 apply List.filter_congr
 intro d _
 rw[hasS_mem hC];rfl
theorem res_core {ds:List Dom} {r:Rul} (hv:VPr ds r):(resD (stS (peelF (ds.map Dom.say) r).2) ds).map Dom.st=(peelF (ds.map Dom.say) r).2:=by
 rw[res_st (fun y hy=>hv.sts.1 y (by rw[←say_st];exact core_sub _ _ y hy)),←say_st,←core_list]
theorem fine_ch2 {ds:List Dom} {r:Rul} {l:List (Int×Int)} (h:fineF ds r l=true) (hi:(ds.map Dom.st).Pairwise (·<·)):∀ x∈l,x.2∈chsOf (ds.map Dom.say) x.1:=by
 intro x hx
 have hs:=fine_st h hi
 obtain⟨k,hk,e⟩:=List.getElem_of_mem hx
 have hk2:k<ds.length:=by have:=congrArg List.length hs;rw[List.length_map,List.length_map] at this;omega
 have hch:=fine_ch h hi k ds[k] x (List.getElem?_eq_getElem hk2) (by rw[List.getElem?_eq_getElem hk,e])
 have hst:x.1=ds[k].st:=by
  have:=congrArg (fun l=>l[k]?) hs
  simp only[List.getElem?_map,List.getElem?_eq_getElem hk,List.getElem?_eq_getElem hk2,e,Option.map_some,Option.some.injEq] at this
  exact this
 rw[hst,show ds[k].st=(Dom.say ds[k]).1 from rfl,chs_of (by rw[say_st];exact inc_nodup hi) (List.mem_map.2 ⟨_,List.getElem_mem hk2,rfl⟩)]
 exact hch
theorem chs_res {ds:List Dom} {C:List Int} (hC:∀ y∈C,0≤y∧y<512) {s:Int} (hs:s∈C):chsOf ((resD (stS C) ds).map Dom.say) s=chsOf (ds.map Dom.say) s:=by
 unfold chsOf resD
 induction ds with
 | nil=>rfl
 | cons d q ih=>
  rw[List.filter_cons,List.map_cons,List.find?_cons]
  by_cases h:(Dom.say d).1=s
  ·have h2:hasS (stS C) d.st=true:=by rw[hasS_mem hC,decide_eq_true_eq];exact(show d.st=s from h) ▸ hs
   rw[if_pos h2,List.map_cons,List.find?_cons,decide_eq_true h]
  ·rw[decide_eq_false h]
   split
   ·rw[List.map_cons,List.find?_cons,decide_eq_false h];exact ih
   ·exact ih
theorem fine_start {ds:List Dom} {r:Rul} (hv:VPr ds r) {l:List (Int×Int)} (h:fineF (resD (stS (peelF (ds.map Dom.say) r).2) ds) (resR (stS (peelF (ds.map Dom.say) r).2) r) l=true):
  l.map Prod.fst=(peelF (ds.map Dom.say) r).2∧∀ x∈l,x.2∈chsOf (ds.map Dom.say) x.1:=by
 have hC:∀ y∈(peelF (ds.map Dom.say) r).2,0≤y∧y<512:=fun y hy=>hv.sts.1 y (by rw[←say_st];exact core_sub _ _ y hy)
 have hi:((resD (stS (peelF (ds.map Dom.say) r).2) ds).map Dom.st).Pairwise (·<·):=hv.up.sublist (List.filter_sublist.map _)
 have hs:=fine_st h hi
 rw[res_core hv] at hs
 refine⟨hs,fun x hx=>?_⟩
 have:=fine_ch2 h hi x hx
 rwa [chs_res hC (by rw[←hs];exact List.mem_map_of_mem hx)] at this
section
variable {α : Type} [DecidableEq α]
def cmGo (cls:α→List α):List α→List (List α)→List α→List (List α)
 | [],out,_=>out
 | s::q,out,seen=>if s∈seen then cmGo cls q out seen else cmGo cls q (out++[cls s]) (seen++cls s)
def isMin (cls:α→List α) (s:α):Bool:=decide ((cls s).head?=some s)
structure ClsI (set:List α) (cls:α→List α):Prop where
 nd:set.Nodup
 self:∀ s∈set,s∈cls s
 same:∀ s∈set,∀ t∈cls s,cls t=cls s
 sub:∀ s∈set,(cls s).Sublist set
omit [DecidableEq α] in
theorem ClsI.before {set:List α} {cls:α→List α} (h:ClsI set cls) {P q:List α} {s:α} (hset:set=P++s::q) {t:α} (ht:(cls s).head?=some t) (hts:t≠s):t∈P:=by
 have hs:s∈set:=by rw[hset];simp
 obtain⟨u,hu⟩:∃ u,cls s=t::u:=by
  cases hc:cls s with
  | nil=>rw[hc] at ht;cases ht
  | cons a u=>rw[hc] at ht;simp only[List.head?_cons,Option.some.injEq] at ht;subst ht;exact⟨u,rfl⟩
 have hsub:=h.sub s hs
 have hsm:=h.self s hs
 rw[hu] at hsub hsm
 have hsu:s∈u:=by
  rcases List.mem_cons.1 hsm with e | e
  ·exact absurd e.symm hts
  ·exact e
 -- t stands before s in set
 have h2:[t,s].Sublist (P++s::q):=by
  rw[←hset]
  refine List.Sublist.trans ?_ hsub
  exact List.Sublist.cons_cons _ (List.singleton_sublist.2 hsu)
 have hnd:=h.nd
 rw[hset] at hnd
 rw[List.nodup_append] at hnd
 obtain⟨_,n2,n3⟩:=hnd
 rw[List.nodup_cons] at n2
 rcases List.sublist_append_iff.1 h2 with ⟨a,b,hab,ha,hb⟩
 cases a with
 | nil=>
  rw[List.nil_append] at hab
  subst hab
  cases hb with
  | cons _ hb2=>exact absurd (hb2.subset (by simp)) n2.1
  | cons_cons _ hb2=>exact absurd rfl hts
 | cons x a=>
  rw[List.cons_append] at hab
  injection hab with e _
  rw[e]
  exact ha.subset (by simp)
theorem cmGo_eq {set:List α} {cls:α→List α} (h:ClsI set cls):∀(q P:List α) (out:List (List α)) (seen:List α),set=P++q→out=(P.filter (isMin cls)).map cls→(∀ x,x∈seen↔∃ p∈out,x∈p)→cmGo cls q out seen=(set.filter (isMin cls)).map cls:=by
 intro q
 induction q with
 | nil=>intro P out seen h1 h2 _;rw[cmGo,h2,h1,List.append_nil]
 | cons s q ih=>
  intro P out seen h1 h2 h3
  have hs:s∈set:=by rw[h1];simp
  have hseen:s∈seen↔isMin cls s=false:=by
   rw[h3,h2]
   unfold isMin
   rw[decide_eq_false_iff_not]
   constructor
   ·rintro⟨p,hp,hsp⟩ hh
    obtain⟨t,ht,rfl⟩:=List.mem_map.1 hp
    obtain⟨ht1,ht2⟩:=List.mem_filter.1 ht
    have htset:t∈set:=by rw[h1];exact List.mem_append_left _ ht1
    have e:=h.same t htset s hsp
    rw[e] at hh
    have ht2:=of_decide_eq_true ht2
    rw[ht2] at hh
    simp only[Option.some.injEq] at hh
    have hnd:=h.nd
    rw[h1,List.nodup_append] at hnd
    exact hnd.2.2 t ht1 s (by simp) hh
   ·intro hh
    obtain⟨t,ht⟩:∃ t,(cls s).head?=some t:=by
     cases hc:cls s with
     | nil=>have:=h.self s hs;rw[hc] at this;cases this
     | cons a u=>exact⟨a,rfl⟩
    have hts:t≠s:=fun e=>hh (by rw[ht,e])
    have htP:=h.before h1 ht hts
    have htc:t∈cls s:=List.mem_of_head? ht
    have e:=h.same s hs t htc
    refine⟨cls t,List.mem_map.2 ⟨t,List.mem_filter.2 ⟨htP,decide_eq_true (by rw[e,ht])⟩,rfl⟩,by rw[e];exact h.self s hs⟩
  rw[cmGo]
  by_cases hm:s∈seen
  ·rw[if_pos hm]
   refine ih (P++[s]) out seen (by rw[h1];simp) ?_ h3
   rw[h2,List.filter_append,List.filter_cons,hseen.1 hm];simp
  ·rw[if_neg hm]
   have hmin:isMin cls s=true:=by
    cases hb:isMin cls s with
    | true=>rfl
    | false=>exact absurd (hseen.2 hb) hm
   refine ih (P++[s]) _ _ (by rw[h1];simp) ?_ ?_
   ·rw[h2,List.filter_append,List.filter_cons,hmin];simp
   ·intro x
    rw[List.mem_append,h3]
    constructor
    ·rintro(⟨p,hp,hx⟩ | hx)
     ·exact⟨p,by simp[hp],hx⟩
     ·exact⟨cls s,by simp,hx⟩
    ·rintro⟨p,hp,hx⟩
     rcases List.mem_append.1 hp with hp | hp
     ·exact .inl ⟨p,hp,hx⟩
     ·rw[List.mem_singleton] at hp;subst hp;exact .inr hx
theorem cm_eq {set:List α} {cls:α→List α} (h:ClsI set cls):cmGo cls set [] []=(set.filter (isMin cls)).map cls:=cmGo_eq h set [] [] [] rfl rfl (fun x=>by simp)
end
inductive Rc (r:Rul) (set:List Int) (s:Int):Int→Prop
 | refl:Rc r set s s
 | step {v t:Int}:Rc r set s v→linkF r v t=true→t∈set→Rc r set s t
theorem Rc.trans {r:Rul} {set:List Int} {s t u:Int} (h1:Rc r set s t) (h2:Rc r set t u):Rc r set s u:=by
 induction h2 with
 | refl=>exact h1
 | step _ h3 h4 ih=>exact .step ih h3 h4
theorem Rc.symm {r:Rul} {set:List Int} {s t:Int} (hs:s∈set) (h:Rc r set s t):Rc r set t s:=by
 induction h with
 | refl=>exact .refl
 | step hv h3 h4 ih=>
  rename_i v t
  have hvm:v∈set:=by cases hv with | refl=>exact hs | step _ _ h=>exact h
  exact Rc.trans (.step .refl (by rw[link_comm];exact h3) hvm) ih
theorem Rc.mem {r:Rul} {set:List Int} {s t:Int} (hs:s∈set) (h:Rc r set s t):t∈set:=by
 cases h with
 | refl=>exact hs
 | step _ _ h=>exact h
def addF (r:Rul) (v:Int) (a:List Int) (t:Int):List Int:=if linkF r v t=true∧hasL a t=false then a++[t] else a
def clG (r:Rul) (set:List Int):Nat→Nat→List Int→List Int
 | 0,_,all=>all
 | f+1,k,all=>match all[k]? with
  | none=>all
  | some v=>clG r set f (k+1) (set.foldl (addF r v) all)
def clF (r:Rul) (set:List Int) (s:Int):List Int:=clG r set (set.length+1) 0 [s]
def clsF (r:Rul) (set:List Int) (s:Int):List Int:=set.filter (hasL (clF r set s))
def compF (r:Rul) (set:List Int):List (List Int):=cmGo (clsF r set) set [] []
theorem add_fold (r:Rul) (v:Int):∀(l:List Int) (a:List Int),a.Nodup→∃ q,l.foldl (addF r v) a=a++q∧(a++q).Nodup∧(∀ t∈q,t∈l∧linkF r v t=true)∧(∀ t∈l,linkF r v t=true→t∈a++q):=by
 intro l
 induction l with
 | nil=>intro a ha;exact⟨[],by simp,by simpa using ha,fun _ h=>(by cases h),fun _ h=>(by cases h)⟩
 | cons t l ih=>
  intro a ha
  rw[List.foldl_cons]
  by_cases h:linkF r v t=true∧hasL a t=false
  ·have e:addF r v a t=a++[t]:=by unfold addF;rw[if_pos h]
   rw[hasL_mem,decide_eq_false_iff_not] at h
   obtain⟨q,h1,h2,h3,h4⟩:=ih (a++[t]) (by rw[List.nodup_append];exact⟨ha,by simp,fun x hx y hy=>by rw[List.mem_singleton] at hy;subst hy;rintro rfl;exact h.2 hx⟩)
   rw[e]
   refine⟨t::q,by rw[h1];simp,by simpa using h2,fun u hu=>?_,fun u hu hl=>?_⟩
   ·rcases List.mem_cons.1 hu with rfl | hu
    ·exact⟨by simp,h.1⟩
    ·exact⟨by simp[(h3 u hu).1],(h3 u hu).2⟩
   ·rcases List.mem_cons.1 hu with rfl | hu
    ·simp
    ·have:=h4 u hu hl;simpa using this
  ·have e:addF r v a t=a:=by unfold addF;rw[if_neg h]
   obtain⟨q,h1,h2,h3,h4⟩:=ih a ha
   rw[e]
   refine⟨q,h1,h2,fun u hu=>⟨by simp[(h3 u hu).1],(h3 u hu).2⟩,fun u hu hl=>?_⟩
   rcases List.mem_cons.1 hu with rfl | hu
   ·have:u∈a:=by
     rw[hasL_mem] at h
     by_cases hm:u∈a
     ·exact hm
     ·exact absurd ⟨hl,decide_eq_false hm⟩ h
    simp[this]
   ·exact h4 u hu hl
theorem nodup_len {a b:List Int} (ha:a.Nodup) (h:∀ x∈a,x∈b):a.length≤b.length:=by
 have:=sum_sub_mem (fun _:Int=>1) ha h
 have e:∀ l:List Int,(l.map fun _=>1).sum=l.length:=by
  intro l
  induction l with
  | nil=>rfl
  | cons x q ih=>rw[List.map_cons,List.sum_cons,ih,List.length_cons];omega
 rw[e,e] at this
 exact this
theorem clG_spec {r:Rul} {set:List Int} {s:Int}:∀(f k:Nat) (all:List Int),set.length<f+k→all.Nodup→s∈all→(∀ t∈all,t∈set∧Rc r set s t)→(∀ j v,all[j]?=some v→j<k→∀ t∈set,linkF r v t=true→t∈all) →
  ∀ t,t∈clG r set f k all↔Rc r set s t:=by
 intro f
 induction f with
 | zero=>
  intro k all hk hn hs hm hc t
  have hlen:=nodup_len hn (fun x hx=>(hm x hx).1)
  rw[clG]
  refine⟨fun h=>(hm t h).2,fun h=>?_⟩
  induction h with
  | refl=>exact hs
  | step _ h3 h4 ih=>
   obtain⟨j,hj,e⟩:=List.getElem_of_mem ih
   exact hc j _ (by rw[List.getElem?_eq_getElem hj,e]) (by omega) _ h4 h3
 | succ f ih=>
  intro k all hk hn hs hm hc t
  rw[clG]
  cases hv:all[k]? with
  | none=>
   dsimp only
   refine⟨fun h=>(hm t h).2,fun h=>?_⟩
   have hlen:all.length≤k:=by rw[List.getElem?_eq_none_iff] at hv;exact hv
   induction h with
   | refl=>exact hs
   | step _ h3 h4 ih2=>
    obtain⟨j,hj,e⟩:=List.getElem_of_mem ih2
    exact hc j _ (by rw[List.getElem?_eq_getElem hj,e]) (by omega) _ h4 h3
  | some v=>
   dsimp only
   obtain⟨q,h1,h2,h3,h4⟩:=add_fold r v set all hn
   rw[h1]
   have hvm:=List.mem_of_getElem? hv
   refine ih (k+1) (all++q) (by omega) h2 (by simp[hs]) (fun t ht=>?_) (fun j u hj hjk t ht hl=>?_) t
   ·rcases List.mem_append.1 ht with ht | ht
    ·exact hm t ht
    ·exact⟨(h3 t ht).1,.step (hm v hvm).2 (h3 t ht).2 (h3 t ht).1⟩
   ·by_cases hjk2:j<k
    ·have hjl:j<all.length:=Nat.lt_trans hjk2 (List.getElem?_eq_some_iff.1 hv).1
     rw[List.getElem?_append_left hjl] at hj
     exact List.mem_append_left _ (hc j u hj hjk2 t ht hl)
    ·obtain rfl:j=k:=by omega
     rw[List.getElem?_append_left (List.getElem?_eq_some_iff.1 hv).1,hv] at hj
     cases hj
     exact h4 t ht hl
theorem cl_spec {r:Rul} {set:List Int} {s:Int} (hs:s∈set) (t:Int):t∈clF r set s↔Rc r set s t:=by
 refine clG_spec _ _ _ (by omega) (by simp) (by simp) (fun t ht=>?_) (fun j v _ hj=>by omega) t
 rw[List.mem_singleton] at ht;subst ht;exact⟨hs,.refl⟩
theorem cls_mem {r:Rul} {set:List Int} {s:Int} (hs:s∈set) (t:Int):t∈clsF r set s↔Rc r set s t:=by
 unfold clsF
 rw[List.mem_filter,hasL_mem,decide_eq_true_eq,cl_spec hs]
 exact⟨fun h=>h.2,fun h=>⟨h.mem hs,h⟩⟩
theorem cls_ok {r:Rul} {set:List Int} (hn:set.Nodup):ClsI set (clsF r set):=by
 refine⟨hn,fun s hs=>(cls_mem hs s).2 .refl,fun s hs t ht=>?_,fun s _=>List.filter_sublist⟩
 have h1:=(cls_mem hs t).1 ht
 have htm:=h1.mem hs
 unfold clsF
 apply List.filter_congr
 intro u hu
 rw[hasL_mem,hasL_mem,decide_eq_decide,cl_spec hs,cl_spec htm]
 exact⟨fun h=>h1.trans h,fun h=>(h1.symm hs).trans h⟩
theorem comp_eq {r:Rul} {set:List Int} (hn:set.Nodup):compF r set=(set.filter (isMin (clsF r set))).map (clsF r set):=cm_eq (cls_ok hn)
end Go.Proofs.YtjakdikhdndlgaaGreatDoor
namespace Go.Proofs.YtjakdikhdndlgaaGreatDoor
open Go.RowKit Pop
def bk1 (f:Bool) (d:Int) (x:R5):Nat:=if f=true then (if x.d≤d - x.c∧d - x.c≤x.e then 2 ^ (d - x.c).toNat else 0) else (if x.d≤d∧d≤x.e then 2 ^ (d+x.c).toNat else 0)
def bkF (f:Bool) (ps:List R5) (sh:Nat) (d:Int):Nat:=ps.foldl (fun a x=>a ||| bk1 f d x) (sh &&& 2 ^ d.toNat)
theorem bk_take {f:Bool} {ps:List R5} {sh:Nat} {d:Int} {k:Nat} {x:R5} (h:ps[k]?=some x):bkF f (ps.take (k+1)) sh d=bkF f (ps.take k) sh d ||| bk1 f d x:=by
 unfold bkF;rw[List.take_add_one,h,List.foldl_append];rfl
theorem lt64 {x:Nat} (h:∀ k,64≤k→x.testBit k=false):x<18446744073709551616:=Nat.lt_pow_two_of_testBit x (n:=64) h
theorem pow_lt64 {k:Nat} (h:k<64):2 ^ k<18446744073709551616:=by
 have:=Nat.pow_lt_pow_right (a:=2) (by decide) h
 simpa using this
theorem or_lt64 {a b:Nat} (ha:a<18446744073709551616) (hb:b<18446744073709551616):a ||| b<18446744073709551616:=Nat.or_lt_two_pow (n:=64) ha hb
theorem bk1_lt {f:Bool} {d:Int} {x:R5} (hx:(-1≤x.c∧x.c≤1)∧2≤x.d∧x.d≤x.e∧x.e≤51):bk1 f d x<18446744073709551616:=by
 unfold bk1
 split
 ·split
  ·exact pow_lt64 (by omega)
  ·decide
 ·split
  ·exact pow_lt64 (by omega)
  ·decide
theorem bkF_lt {f:Bool} {ps:List R5} {sh:Nat} {d:Int} (hs:sh<18446744073709551616) (hp:∀ x∈ps,(-1≤x.c∧x.c≤1)∧2≤x.d∧x.d≤x.e∧x.e≤51):bkF f ps sh d<18446744073709551616:=by
 have key:∀(l:List R5) (a:Nat),a<18446744073709551616→(∀ x∈l,(-1≤x.c∧x.c≤1)∧2≤x.d∧x.d≤x.e∧x.e≤51)→l.foldl (fun a x=>a ||| bk1 f d x) a<18446744073709551616:=by
  intro l
  induction l with
  | nil=>intro a ha _;exact ha
  | cons x q ih=>intro a ha h;exact ih _ (or_lt64 ha (bk1_lt (h x (by simp)))) (fun y hy=>h y (by simp[hy]))
 exact key ps _ (Nat.lt_of_le_of_lt Nat.and_le_left hs) hp
theorem bkF_tb {f:Bool} {sh:Nat} {d:Int} {k:Nat}:∀(ps:List R5) ,(bkF f ps sh d).testBit k=((decide (d.toNat=k)&&sh.testBit k)||ps.any fun x=>(bk1 f d x).testBit k):=by
 have key:∀(l:List R5) (a:Nat),(l.foldl (fun a x=>a ||| bk1 f d x) a).testBit k=(a.testBit k||l.any fun x=>(bk1 f d x).testBit k):=by
  intro l
  induction l with
  | nil=>intro a;simp
  | cons x q ih=>intro a;rw[List.foldl_cons,ih,Nat.testBit_or,List.any_cons,Bool.or_assoc]
 intro ps
 unfold bkF
 rw[key,Nat.testBit_and,Nat.testBit_two_pow,Bool.and_comm]
theorem bk1_bp {f:Bool} {x:R5} (hx:(-1≤x.c∧x.c≤1)∧2≤x.d∧x.d≤x.e∧x.e≤51) {s t c d:Int} (hne:x.a≠x.b) (hf:if f=true then x.a=s∧x.b=t else x.a=t∧x.b=s) (hc:2≤c∧c≤51) (hd:2≤d∧d≤51):
  (bk1 f d x).testBit c.toNat=bpF x [(s,c),(t,d)]:=by
 have on1:onF [(s,c),(t,d)] s=c:=by rw[onF,if_pos rfl]
 cases f with
 | true=>
  rw[if_pos rfl] at hf
  obtain⟨rfl,rfl⟩:=hf
  have on2:onF [(x.a,c),(x.b,d)] x.b=d:=by rw[onF,if_neg hne,onF,if_pos rfl]
  unfold bpF bk1
  rw[on1,on2,if_pos rfl,decide_eq_false (show ¬c=0 by omega),decide_eq_false (show ¬d=0 by omega)]
  have hw:wrap64 (c+x.c)=c+x.c:=by unfold wrap64;omega
  rw[hw]
  by_cases h:x.d≤d - x.c∧d - x.c≤x.e
  ·rw[if_pos h,Nat.testBit_two_pow]
   by_cases hk:d=c+x.c
   ·rw[decide_eq_true (show (d - x.c).toNat=c.toNat by omega),decide_eq_true hk,decide_eq_true (show x.d≤c by omega),decide_eq_true (show c≤x.e by omega)];rfl
   ·rw[decide_eq_false (show ¬(d - x.c).toNat=c.toNat by omega),decide_eq_false hk];simp
  ·rw[if_neg h,Nat.zero_testBit]
   by_cases hk:d=c+x.c
   ·have h1:¬(x.d≤c∧c≤x.e):=by omega
    rw[decide_eq_true hk]
    by_cases h2:x.d≤c
    ·rw[decide_eq_true h2,decide_eq_false (show ¬c≤x.e by omega)];rfl
    ·rw[decide_eq_false h2];rfl
   ·rw[decide_eq_false hk];simp
 | false=>
  rw[if_neg (by decide)] at hf
  obtain⟨rfl,rfl⟩:=hf
  have hne':¬x.b=x.a:=fun e=>hne e.symm
  have on2:onF [(x.b,c),(x.a,d)] x.a=d:=by rw[onF,if_neg hne',onF,if_pos rfl]
  unfold bpF bk1
  rw[on1,on2,if_neg (by decide),decide_eq_false (show ¬c=0 by omega),decide_eq_false (show ¬d=0 by omega)]
  have hw:wrap64 (d+x.c)=d+x.c:=by unfold wrap64;omega
  rw[hw]
  by_cases h:x.d≤d∧d≤x.e
  ·rw[if_pos h,Nat.testBit_two_pow,decide_eq_true h.1,decide_eq_true h.2]
   by_cases hk:c=d+x.c
   ·rw[decide_eq_true hk,decide_eq_true (show (d+x.c).toNat=c.toNat by omega)];rfl
   ·rw[decide_eq_false hk,decide_eq_false (show ¬(d+x.c).toNat=c.toNat by omega)];rfl
  ·rw[if_neg h,Nat.zero_testBit]
   by_cases h2:x.d≤d
   ·rw[decide_eq_true h2,decide_eq_false (show ¬d≤x.e by omega)];rfl
   ·rw[decide_eq_false h2];rfl
structure LinkI (r:Rul) (s t:Int) (ps:List R5) (sh:Nat):Prop where
 pr:∀ x,x∈ps↔x∈r.pairs∧((x.a=s∧x.b=t)∨(x.a=t∧x.b=s))
 cm:∀ c:Int,2≤c→c≤51→sh.testBit c.toNat=r.loads.any (ldB r.caps s c t)
 lt:sh<18446744073709551616
theorem LinkI.symm {r:Rul} {s t:Int} {ps:List R5} {sh:Nat} (h:LinkI r s t ps sh):LinkI r t s ps sh:=
 ⟨fun x=>by rw[h.pr];exact and_congr_right fun _=>Or.comm,fun c h1 h2=>by
  rw[h.cm c h1 h2];congr 1;funext x;unfold ldB;rw[Bool.or_comm],h.lt⟩
theorem blk_bits {r:Rul} (hp:∀ x∈r.pairs,x.a<x.b∧(-1≤x.c∧x.c≤1)∧2≤x.d∧x.d≤x.e∧x.e≤51) {s t:Int} {ps:List R5} {sh:Nat} (h:LinkI r s t ps sh) (hst:s≠t) {c d:Int} (hc:2≤c∧c≤51) (hd:2≤d∧d≤51):
  (bkF (decide (s<t)) ps sh d).testBit c.toNat=blkd r s c t d:=by
 unfold blkd
 rw[if_neg hst,bkF_tb,h.cm c hc.1 hc.2,Bool.or_comm]
 congr 1
 ·rw[Bool.eq_iff_iff,List.any_eq_true,List.any_eq_true]
  constructor
  ·rintro⟨x,hx,hb⟩
   obtain⟨h1,h2⟩:=(h.pr x).1 hx
   have hxx:=hp x h1
   refine⟨x,h1,?_⟩
   rw[←bk1_bp (f:=decide (s<t)) hxx.2 (by omega) ?_ hc hd]
   ·exact hb
   ·rcases h2 with h2 | h2
    ·rw[if_pos (decide_eq_true (by omega))];exact h2
    ·rw[if_neg (by simp;omega)];exact h2
  ·rintro⟨x,hx,hb⟩
   have hxx:=hp x hx
   have h2:=bp_two (by omega) hb
   refine⟨x,(h.pr x).2 ⟨hx,h2⟩,?_⟩
   rw[bk1_bp hxx.2 (s:=s) (t:=t) (by omega) ?_ hc hd]
   ·exact hb
   ·rcases h2 with h2 | h2
    ·rw[if_pos (decide_eq_true (by omega))];exact h2
    ·rw[if_neg (by simp;omega)];exact h2
 ·congr 1
  rw[decide_eq_decide];omega
theorem chs_bit {l:List Int} (hl:∀ c∈l,2≤c∧c≤51) (k:Nat):(stS l).testBit k=decide ((k:Int)∈l):=by
 unfold stS
 rw[stS_bit,Nat.zero_testBit,Bool.false_or,Bool.eq_iff_iff,List.any_eq_true,decide_eq_true_eq]
 constructor
 ·rintro⟨c,hc,e⟩
  have:=hl c hc
  have e:c.toNat=k:=by simpa using e
  have:(k:Int)=c:=by omega
  rw[this];exact hc
 ·intro h
  exact⟨_,h,by simp⟩
theorem chs_lt64 {l:List Int} (hl:∀ c∈l,2≤c∧c≤51):stS l<18446744073709551616:=by
 refine lt64 (fun k hk=>?_)
 rw[chs_bit hl,decide_eq_false]
 intro h
 have:=hl _ h
 omega
theorem chs_as {l:List Int} (hl:∀ c∈l,2≤c∧c≤51) (hu:l.Pairwise (·<·)):l=((List.range 64).filter fun k:Nat=>decide ((k:Int)∈l)).map fun k:Nat=>(k:Int):=by
 refine inc_ext hu ?_ (fun x=>?_)
 ·rw[List.pairwise_map]
  exact(List.pairwise_lt_range.filter _).imp (fun {a b} h=>by omega)
 ·rw[List.mem_map]
  constructor
  ·intro h
   have:=hl x h
   refine⟨x.toNat,List.mem_filter.2 ⟨List.mem_range.2 (by omega),?_⟩,by omega⟩
   rw[decide_eq_true_eq,Int.toNat_of_nonneg (by omega)];exact h
  ·rintro⟨k,hk,rfl⟩
   exact of_decide_eq_true (List.mem_filter.1 hk).2
theorem pop_and {l:List Int} (hl:∀ c∈l,2≤c∧c≤51) (hu:l.Pairwise (·<·)) (y:Nat):pop (y &&& stS l)=l.countP fun c=>y.testBit c.toNat:=by
 conv=>rhs;rw[chs_as hl hu]
 rw[List.countP_map,List.countP_filter]
 unfold pop
 apply List.countP_congr
 intro k _
 rw[Nat.testBit_and,chs_bit hl]
 simp only[Function.comp_apply,Int.toNat_natCast]
theorem clear_low {x k:Nat} (hk:x.testBit k=true) (hlow:∀ j,j<k→x.testBit j=false) (i:Nat):(x &&& (x - 1)).testBit i=(decide (i≠k)&&x.testBit i):=by
 -- x=2 ^ k * (2 * q+1)
 have hm:x % 2 ^ k=0:=by
  apply Nat.eq_of_testBit_eq
  intro j
  rw[Nat.zero_testBit,Nat.testBit_mod_two_pow]
  by_cases hj:j<k
  ·rw[hlow j hj,Bool.and_false]
  ·rw[decide_eq_false hj,Bool.false_and]
 have ho:x / 2 ^ k % 2=1:=by
  rw[Nat.testBit_eq_decide_div_mod_eq,decide_eq_true_eq] at hk;exact hk
 have hx:x=2 ^ k * (2 * (x / 2 ^ k / 2))+2 ^ k:=by
  have h1:=Nat.div_add_mod x (2 ^ k)
  have h2:=Nat.div_add_mod (x / 2 ^ k) 2
  rw[hm,Nat.add_zero] at h1
  rw[ho] at h2
  conv=>lhs;rw[←h1,←h2]
  rw[Nat.mul_add,Nat.mul_one]
 generalize x / 2 ^ k / 2=q at hx
 have hp:0<2 ^ k:=Nat.two_pow_pos k
 have hx1:x - 1=2 ^ k * (2 * q)+(2 ^ k - 1):=by omega
 rw[Nat.testBit_and]
 have t1:x.testBit i=if i<k then false else (2 * q+1).testBit (i - k):=by
  have:x=2 ^ k * (2 * q+1)+0:=by rw[Nat.mul_add,Nat.mul_one,Nat.add_zero];exact hx
  rw[this,Nat.testBit_two_pow_mul_add _ hp,Nat.zero_testBit]
 have t2:(x - 1).testBit i=if i<k then true else (2 * q).testBit (i - k):=by
  rw[hx1,Nat.testBit_two_pow_mul_add _ (by omega),Nat.testBit_two_pow_sub_one]
  by_cases hi:i<k
  ·rw[if_pos hi,if_pos hi,decide_eq_true hi]
  ·rw[if_neg hi,if_neg hi]
 rw[t1,t2]
 by_cases hi:i<k
 ·rw[if_pos hi,if_pos hi];simp
 ·rw[if_neg hi,if_neg hi]
  by_cases hik:i=k
  ·subst hik
   rw[Nat.sub_self,decide_eq_false (by simp)]
   simp[Nat.testBit_zero]
  ·obtain⟨j,hj⟩:∃ j,i - k=j+1:=⟨i - k - 1,by omega⟩
   rw[hj,decide_eq_true hik,Bool.true_and,Nat.testBit_succ,Nat.testBit_succ]
   have e1:(2 * q+1) / 2=q:=by omega
   have e2:2 * q / 2=q:=by omega
   rw[e1,e2,Bool.and_self]
theorem chs_step {c:Int} {l:List Int} (hl:∀ x∈c::l,2≤x∧x≤51) (hu:(c::l).Pairwise (·<·)):stS (c::l)≠0∧(stS (c::l)).testBit c.toNat=true∧(∀ j,j<c.toNat→(stS (c::l)).testBit j=false)∧stS (c::l) &&& (stS (c::l) - 1)=stS l:=by
 rw[List.pairwise_cons] at hu
 have hc:=hl c (by simp)
 have h1:(stS (c::l)).testBit c.toNat=true:=by rw[chs_bit hl,decide_eq_true_eq,Int.toNat_of_nonneg (by omega)];simp
 have h2:∀ j,j<c.toNat→(stS (c::l)).testBit j=false:=fun j hj=>by
  rw[chs_bit hl,decide_eq_false_iff_not]
  intro hm
  rcases List.mem_cons.1 hm with e | hm
  ·omega
  ·have:=hu.1 _ hm;omega
 refine⟨(fun e=>by rw[e,Nat.zero_testBit] at h1;cases h1),h1,h2,?_⟩
 apply Nat.eq_of_testBit_eq
 intro i
 rw[clear_low h1 h2,chs_bit hl,chs_bit (fun x hx=>hl x (by simp[hx])),Bool.eq_iff_iff,Bool.and_eq_true,decide_eq_true_eq,decide_eq_true_eq,decide_eq_true_eq,List.mem_cons]
 constructor
 ·rintro⟨h3,h4 | h4⟩
  ·exact absurd (by omega) h3
  ·exact h4
 ·intro h3
  refine⟨fun e=>?_,.inr h3⟩
  have:=hu.1 _ h3
  omega
theorem blk_prog {D:Dms} {r:Rul} (hp:∀ x∈r.pairs,x.a<x.b∧(-1≤x.c∧x.c≤1)∧2≤x.d∧x.d≤x.e∧x.e≤51) {s t:Int} {ps:List R5} {sh:Nat} (h:LinkI r s t ps sh) (hst:s≠t)
  (hs:(∀ c∈chsOf D s,2≤c∧c≤51)∧(chsOf D s).Pairwise (·<·)) (ht:∀ c∈chsOf D t,2≤c∧c≤51):
  (chsOf D t).foldl (fun m d=>max m (pop (bkF (decide (s<t)) ps sh d &&& stS (chsOf D s)))) 0=blN D r s t:=by
 refine max_fold_congr _ _ _ _ (fun d hd=>?_)
 rw[pop_and hs.1 hs.2]
 unfold cntB
 apply List.countP_congr
 intro c hc
 rw[blk_bits hp h hst (hs.1 c hc) (ht d hd)]
end Go.Proofs.YtjakdikhdndlgaaGreatDoor
