/- What the last two laws of layer 19 say of calls on valid problems. -/
import Derived.Test.YtjakdikhdndlgaaGreatDoorRed28
import Derived.Test.YtjakdikhdndlgaaGreatDoorRed30
set_option maxRecDepth 100000
set_option maxHeartbeats 2000000
namespace Go.Proofs.YtjakdikhdndlgaaGreatDoor
open Go.RowKit
theorem bp_of {x:R5} (hx:x.a≠x.b) (l:List (Int×Int)):bpF x l=bpF x [(x.a,onF l x.a),(x.b,onF l x.b)]:=by
 have h1:onF [(x.a,onF l x.a),(x.b,onF l x.b)] x.a=onF l x.a:=by rw[onF,if_pos rfl]
 have h2:onF [(x.a,onF l x.a),(x.b,onF l x.b)] x.b=onF l x.b:=by rw[onF,if_neg hx,onF,if_pos rfl]
 unfold bpF
 rw[h1,h2]
theorem ext_fine {ds:List Dom} {r:Rul} (hv:VPr ds r) (hab:(∀ x∈r.pairs,x.a≠x.b)∧∀ x∈r.loads,x.a≠x.b) {l:List (Int×Int)} (h:fineF (resD (stS (peelF (ds.map Dom.say) r).2) ds) (resR (stS (peelF (ds.map Dom.say) r).2) r) l=true):
  fineF ds r (extF (ds.map Dom.say) r l)=true∧(extF (ds.map Dom.say) r l).filter (fun x=>decide (x.1∈(peelF (ds.map Dom.say) r).2))=l:=by
 have hC:∀ y∈(peelF (ds.map Dom.say) r).2,0≤y∧y<512:=fun y hy=>hv.sts.1 y (by rw[←say_st];exact core_sub _ _ y hy)
 obtain⟨hl,hc⟩:=fine_start hv h
 have hD:((ds.map Dom.say).map Prod.fst).Nodup:=by rw[say_st];exact inc_nodup hv.up
 have hE:=ext_all hD (chs_ne hv) hl hc
 have hL:∀ n:Int,n∈ds.map Dom.st↔n∈(ds.map Dom.say).map Prod.fst:=fun n=>by rw[say_st]
 generalize hpl:extG (ds.map Dom.say) r (peelF (ds.map Dom.say) r).1.reverse l=pl at hE
 have ha:extF (ds.map Dom.say) r l=outF (ds.map Dom.say) pl:=by unfold extF;rw[hpl]
 rw[ha]
 have hon:∀ n∈(ds.map Dom.say).map Prod.fst,onF (outF (ds.map Dom.say) pl) n=onF pl n:=fun n hn=>by rw[on_outF,if_pos hn]
 have hrng:∀ n∈(ds.map Dom.say).map Prod.fst,2≤onF pl n∧onF pl n≤51:=fun n hn=>by
  obtain⟨d,hd,_,hm⟩:=chs_mem (hE.ch n hn)
  obtain⟨e,he,rfl⟩:=List.mem_map.1 hd
  exact(hv.dom e he).1 _ hm
 have hfst:(outF (ds.map Dom.say) pl).map Prod.fst=ds.map Dom.st:=by unfold outF;rw[List.map_map,List.map_map];rfl
 simp only[fineF,okF,Bool.and_eq_true,List.all_eq_true] at h ⊢
 obtain⟨h1,h2,h3,h4,h5⟩:=h
 refine⟨⟨(vlGo_iff _ _).2 ⟨fun x hx=>?_,?_⟩,fun d hd=>?_,fun x hx=>?_,fun x hx=>?_,fun x hx=>?_⟩,?_⟩
 ·have hx2:=List.mem_map_of_mem (f:=Prod.fst) hx
  rw[hfst] at hx2
  unfold outF at hx
  obtain⟨d,hd,rfl⟩:=List.mem_map.1 hx
  have:=hrng d.1 (List.mem_map_of_mem hd)
  exact⟨(stF_iff _).2 (hv.sts.1 _ hx2),this.1,this.2,fun q e=>by cases e⟩
 ·have:=hv.up
  rw[←hfst] at this
  exact List.pairwise_map.1 this
 ·have hm:d.st∈(ds.map Dom.say).map Prod.fst:=(hL _).1 (List.mem_map_of_mem hd)
  have hr1:=hrng _ hm
  have hch:=hE.ch _ hm
  rw[show d.st=(Dom.say d).1 from rfl,chs_of hD (List.mem_map.2 ⟨d,hd,rfl⟩)] at hch
  unfold bdF
  rw[hon _ hm,hasL_mem]
  rw[decide_eq_false (show ¬onF pl d.st=0 by omega),decide_eq_true (show onF pl d.st∈d.chs from hch)]
  rfl
 ·rw[inD_mem,decide_eq_true_eq,←hfst]
  exact List.mem_map_of_mem hx
 ·obtain⟨⟨hxa,hxb⟩,_⟩:=hv.prs x hx
  have hxa':=(hL _).1 hxa
  have hxb':=(hL _).1 hxb
  rw[Bool.not_eq_true',bp_of (hab.1 x hx),hon _ hxa',hon _ hxb']
  by_cases hcore:x.a∈(peelF (ds.map Dom.say) r).2∧x.b∈(peelF (ds.map Dom.say) r).2
  ·rw[hE.core _ hcore.1,hE.core _ hcore.2,←bp_of (hab.1 x hx)]
   have:=h4 x (by
    unfold resR
    refine List.mem_filter.2 ⟨hx,?_⟩
    rw[hasS_mem hC,hasS_mem hC,decide_eq_true hcore.1,decide_eq_true hcore.2];rfl)
   simpa using this
  ·have hb:blkd r x.a (onF pl x.a) x.b (onF pl x.b)=false:=by
    by_cases hca:x.a∈(peelF (ds.map Dom.say) r).2
    ·rw[blkd_comm]
     exact hE.ok _ hxb' _ hxa' (fun hcb=>hcore ⟨hca,hcb⟩)
    ·exact hE.ok _ hxa' _ hxb' hca
   unfold blkd at hb
   rw[if_neg (hab.1 x hx),Bool.or_eq_false_iff] at hb
   cases hq:bpF x [(x.a,onF pl x.a),(x.b,onF pl x.b)] with
   | false=>rfl
   | true=>exact absurd hq (by rw[List.any_eq_false] at hb;exact hb.1 x hx)
 ·obtain⟨hxa,⟨hb0,_⟩,_⟩:=hv.cps x hx
  have hxa':=(hL _).1 hxa
  rw[Bool.not_eq_true']
  cases hq:bcF r.loads x (outF (ds.map Dom.say) pl) with
  | false=>rfl
  | true=>
   exfalso
   unfold bcF at hq
   simp only[Bool.and_eq_true,Bool.not_eq_true',decide_eq_true_eq,decide_eq_false_iff_not] at hq
   rw[hon _ hxa'] at hq
   obtain⟨_,q1,q2,q3⟩:=hq
   have hw:∀ y∈r.loads,1≤y.c∧y.c≤1073741824:=fun y hy=>(hv.lds y hy).2.1
   have hlen:=hv.sts.2.2.2.2.1
   rw[loss_sum x.a (onF pl x.a) _ r.loads 0 hw (Int.le_refl _) (by omega),Int.zero_add] at q3
   -- who adds to the loss is in the core
   have hin:∀ y∈r.loads,lossB x.a (onF pl x.a) (outF (ds.map Dom.say) pl) y=true→x.a∈(peelF (ds.map Dom.say) r).2∧y.b∈(peelF (ds.map Dom.say) r).2:=by
    intro y hy hly
    unfold lossB at hly
    simp only[Bool.and_eq_true,decide_eq_true_eq] at hly
    obtain⟨y1,y2,y3,y4⟩:=hly
    obtain⟨⟨_,hyb⟩,_⟩:=hv.lds y hy
    have hyb':=(hL _).1 hyb
    rw[hon _ hyb'] at y2
    have hne:=hab.2 y hy
    rw[y1] at hne
    have hcap:capF r.caps y.a (onF pl x.a)=true:=List.any_eq_true.2 ⟨x,hx,by rw[y1,decide_eq_true rfl,decide_eq_true q1,decide_eq_true q2];rfl⟩
    have hbl:blkd r x.a (onF pl x.a) y.b (onF pl y.b)=true:=by
     unfold blkd
     rw[if_neg hne,y2,decide_eq_true rfl,Bool.true_and,Bool.or_eq_true]
     refine .inr (List.any_eq_true.2 ⟨y,hy,?_⟩)
     unfold ldB
     rw[hcap,decide_eq_true y1,decide_eq_true y3,decide_eq_true y4,decide_eq_true (rfl:y.b=y.b)]
     rfl
    by_cases hca:x.a∈(peelF (ds.map Dom.say) r).2
    ·refine⟨hca,?_⟩
     by_cases hcb:y.b∈(peelF (ds.map Dom.say) r).2
     ·exact hcb
     ·have:=hE.ok _ hyb' _ hxa' hcb
      rw[blkd_comm,hbl] at this;cases this
    ·have:=hE.ok _ hxa' _ hyb' hca
     rw[hbl] at this;cases this
   by_cases hca:x.a∈(peelF (ds.map Dom.say) r).2
   ·have hcc:=h5 x (by
     unfold resR
     refine List.mem_filter.2 ⟨hx,?_⟩
     rw[hasS_mem hC,decide_eq_true hca])
    rw[Bool.not_eq_true'] at hcc
    unfold bcF at hcc
    rw[←hE.core _ hca] at hcc
    have hr1:=hrng _ hxa'
    rw[decide_eq_false (show ¬onF pl x.a=0 by omega),decide_eq_true q1,decide_eq_true q2] at hcc
    simp only[Bool.not_false,Bool.true_and,decide_eq_false_iff_not] at hcc
    have hw2:∀ y∈(resR (stS (peelF (ds.map Dom.say) r).2) r).loads,1≤y.c∧y.c≤1073741824:=fun y hy=>hw y (List.mem_filter.1 hy).1
    have hl2:(resR (stS (peelF (ds.map Dom.say) r).2) r).loads.length≤r.loads.length:=List.length_filter_le _ _
    rw[loss_sum x.a (onF pl x.a) l _ 0 hw2 (Int.le_refl _) (by omega),Int.zero_add] at hcc
    apply hcc
    have hle:sumW (r.loads.filter (lossB x.a (onF pl x.a) (outF (ds.map Dom.say) pl)))≤sumW ((resR (stS (peelF (ds.map Dom.say) r).2) r).loads.filter (lossB x.a (onF pl x.a) l)):=by
     unfold resR
     dsimp only
     rw[List.filter_filter]
     refine sumW_le (fun y hy=>(hw y hy).1) (fun y hy hly=>?_)
     obtain⟨c1,c2⟩:=hin y hy hly
     unfold lossB at hly ⊢
     simp only[Bool.and_eq_true,decide_eq_true_eq] at hly ⊢
     obtain⟨y1,y2,y3,y4⟩:=hly
     obtain⟨⟨_,hyb⟩,_⟩:=hv.lds y hy
     rw[hon _ ((hL _).1 hyb),hE.core _ c2] at y2
     rw[hasS_mem hC,hasS_mem hC,decide_eq_true_eq,decide_eq_true_eq]
     exact⟨⟨y1,y2,y3,y4⟩,y1 ▸ c1,c2⟩
    omega
   ·rw[List.filter_eq_nil_iff.2 (fun y hy hly=>hca (hin y hy hly).1)] at q3
    have:sumW ([]:List R5)=0:=rfl
    omega
 ·have hup:=hv.up
  have key:∀ a b:List (Int×Int),a.map Prod.fst=b.map Prod.fst→(∀ n∈a.map Prod.fst,onF a n=onF b n)→(a.map Prod.fst).Nodup→a=b:=by
   intro a b hab1 hab2 hn
   have hv1:a.map Prod.snd=b.map Prod.snd:=by
    have e:∀ c:List (Int×Int),(c.map Prod.fst).Nodup→c.map Prod.snd=(c.map Prod.fst).map (onF c):=fun c hc=>by
     rw[List.map_map]
     exact List.map_congr_left (fun x hx=>(on_of hc hx).symm)
    rw[e a hn,e b (hab1 ▸ hn),←hab1]
    exact List.map_congr_left hab2
   apply List.ext_getElem?
   intro k
   have e1:=congrArg (fun l=>l[k]?) hab1
   have e2:=congrArg (fun l=>l[k]?) hv1
   simp only[List.getElem?_map] at e1 e2
   cases ha:a[k]? with
   | none=>rw[ha] at e1;cases hb:b[k]? with
    | none=>rfl
    | some y=>rw[hb] at e1;cases e1
   | some x=>rw[ha] at e1 e2;cases hb:b[k]? with
    | none=>rw[hb] at e1;cases e1
    | some y=>rw[hb] at e1 e2;simp only[Option.map_some,Option.some.injEq] at e1 e2;rw[Prod.ext e1 e2]
  have hfl:((outF (ds.map Dom.say) pl).filter (fun x=>decide (x.1∈(peelF (ds.map Dom.say) r).2))).map Prod.fst=l.map Prod.fst:=by
   have:((outF (ds.map Dom.say) pl).filter (fun x=>decide (x.1∈(peelF (ds.map Dom.say) r).2))).map Prod.fst=((outF (ds.map Dom.say) pl).map Prod.fst).filter (fun s=>decide (s∈(peelF (ds.map Dom.say) r).2)):=by rw[List.filter_map];rfl
   rw[this,hfst,hl,←say_st,←core_list]
  refine key _ _ hfl (fun n hn=>?_) ?_
  ·rw[hfl,hl] at hn
   have:=on_filter (fun n=>decide (n∈(peelF (ds.map Dom.say) r).2)) n (outF (ds.map Dom.say) pl)
   rw[if_pos (decide_eq_true hn)] at this
   rw[this,hon _ (core_sub _ _ n hn),hE.core _ hn]
  ·rw[hfl,hl]
   rw[core_list]
   exact hD.filter _
theorem comp_part {r:Rul} {set:List Int} (hn:set.Nodup) {p:List Int} (hp:p∈compF r set):∃ s∈set,p=clsF r set s∧p.head?=some s:=by
 rw[comp_eq hn] at hp
 obtain⟨s,hs,rfl⟩:=List.mem_map.1 hp
 obtain⟨h1,h2⟩:=List.mem_filter.1 hs
 exact⟨s,h1,rfl,of_decide_eq_true h2⟩
theorem comp_sub {r:Rul} {set:List Int} (hn:set.Nodup) {p:List Int} (hp:p∈compF r set):p.Sublist set:=by
 obtain⟨s,hs,rfl,_⟩:=comp_part hn hp
 exact(cls_ok hn).sub s hs
theorem comp_cover {r:Rul} {set:List Int} (hn:set.Nodup) {x:Int} (hx:x∈set):clsF r set x∈compF r set:=by
 rw[comp_eq hn]
 have hself:=(cls_ok (r:=r) hn).self x hx
 obtain⟨t,ht⟩:∃ t,(clsF r set x).head?=some t:=by
  cases hc:clsF r set x with
  | nil=>rw[hc] at hself;cases hself
  | cons a u=>exact⟨a,rfl⟩
 have htc:t∈clsF r set x:=List.mem_of_head? ht
 have e:=(cls_ok (r:=r) hn).same x hx t htc
 exact List.mem_map.2 ⟨t,List.mem_filter.2 ⟨((cls_ok (r:=r) hn).sub x hx).subset htc,decide_eq_true (by rw[e,ht])⟩,e⟩
theorem comp_is {r:Rul} {set:List Int} (hn:set.Nodup) {p:List Int} (hp:p∈compF r set) {x:Int} (hx:x∈p):p=clsF r set x:=by
 obtain⟨s,hs,rfl,_⟩:=comp_part hn hp
 exact((cls_ok hn).same s hs x hx).symm
theorem comp_heads {r:Rul} {set:List Int} (hi:set.Pairwise (·<·)):(compF r set).Pairwise (fun p q=>∀ x y,p.head?=some x→q.head?=some y→x<y):=by
 rw[comp_eq (inc_nodup hi),List.pairwise_map,List.pairwise_filter]
 refine hi.imp (fun {a b} hab h1 h2 x y hx hy=>?_)
 unfold isMin at h1 h2
 rw[of_decide_eq_true h1] at hx
 rw[of_decide_eq_true h2] at hy
 simp only[Option.some.injEq] at hx hy
 omega
theorem comp_apart {r:Rul} {set:List Int} (hi:set.Pairwise (·<·)) {i k:Nat} {p q:List Int} (hp:(compF r set)[i]?=some p) (hq:(compF r set)[k]?=some q) (hik:i≠k):∀ x∈p,x∉q:=by
 intro x hx hy
 have hn:=inc_nodup hi
 have hpm:=List.mem_of_getElem? hp
 have hqm:=List.mem_of_getElem? hq
 have e:p=q:=(comp_is hn hpm hx).trans (comp_is hn hqm hy).symm
 obtain⟨s,_,_,hh⟩:=comp_part hn hpm
 obtain⟨h1,e1⟩:=List.getElem?_eq_some_iff.1 hp
 obtain⟨h2,e2⟩:=List.getElem?_eq_some_iff.1 hq
 rcases Nat.lt_or_ge i k with hlt | hge
 ·have:=List.pairwise_iff_getElem.1 (comp_heads hi) i k h1 h2 hlt s s (by rw[e1];exact hh) (by rw[e2,←e];exact hh)
  omega
 ·have:=List.pairwise_iff_getElem.1 (comp_heads hi) k i h2 h1 (by omega) s s (by rw[e2,←e];exact hh) (by rw[e1];exact hh)
  omega
theorem comp_sum {r:Rul} {set:List Int} (hi:set.Pairwise (·<·)):((compF r set).map List.length).sum=set.length:=by
 have hn:=inc_nodup hi
 have hnd:(compF r set).flatten.Nodup:=by
  have key:∀ L:List (List Int),(∀ p∈L,p.Nodup)→L.Pairwise (fun p q=>∀ x∈p,x∉q)→L.flatten.Nodup:=by
   intro L
   induction L with
   | nil=>intro _ _;exact List.nodup_nil
   | cons p L ih=>
    intro h1 h2
    rw[List.pairwise_cons] at h2
    rw[List.flatten_cons,List.nodup_append]
    refine⟨h1 p (by simp),ih (fun q hq=>h1 q (by simp[hq])) h2.2,fun a ha b hb e=>?_⟩
    obtain⟨q,hq,hbq⟩:=List.mem_flatten.1 hb
    exact h2.1 q hq a ha (e ▸ hbq)
  refine key _ (fun p hp=>hn.sublist (comp_sub hn hp)) ?_
  rw[List.pairwise_iff_getElem]
  intro i k hi' hk hlt x hx hy
  exact comp_apart hi (List.getElem?_eq_getElem hi') (List.getElem?_eq_getElem hk) (by omega) x hx hy
 have h1:=nodup_len hnd (fun x hx=>by
  obtain⟨p,hp,hxp⟩:=List.mem_flatten.1 hx
  exact(comp_sub hn hp).subset hxp:∀ x∈(compF r set).flatten,x∈set)
 have h2:=nodup_len hn (fun x hx=>List.mem_flatten.2 ⟨_,comp_cover (r:=r) hn hx,(cls_ok hn).self x hx⟩:∀ x∈set,x∈(compF r set).flatten)
 rw[List.length_flatten] at h1 h2
 omega
theorem vl_filterB {l:List (Int×Int)} (h:vlGo none l=true) (p:Int×Int→Bool):vlGo none (l.filter p)=true:=by
 rw[vlGo_iff] at h ⊢
 exact⟨fun x hx=>h.1 x (List.mem_filter.1 hx).1,h.2.filter _⟩
theorem filter_two {l:List (Int×Int)} {C p:List Int} (h:∀ x∈p,x∈C):(l.filter (fun x=>decide (x.1∈C))).filter (fun x=>decide (x.1∈p))=l.filter (fun x=>decide (x.1∈p)):=by
 rw[List.filter_filter]
 apply List.filter_congr
 intro x _
 by_cases hx:x.1∈p
 ·rw[decide_eq_true hx,decide_eq_true (h _ hx)];rfl
 ·rw[decide_eq_false hx];rfl
theorem fine_parts {ds:List Dom} {r:Rul} (hv:VPr ds r) {C:List Int} (hCi:C.Pairwise (·<·)) (hC:∀ y∈C,0≤y∧y<512) {l:List (Int×Int)} (hl:vlGo none l=true):
  fineF (resD (stS C) ds) (resR (stS C) r) (l.filter fun x=>decide (x.1∈C))=(compF r C).all fun p=>fineF (resD (stS p) ds) (resR (stS p) r) (l.filter fun x=>decide (x.1∈p)):=by
 have hn:=inc_nodup hCi
 have hpC:∀ p∈compF r C,∀ x∈p,x∈C:=fun p hp x hx=>(comp_sub hn hp).subset hx
 have hpr:∀ p∈compF r C,∀ y∈p,0≤y∧y<512:=fun p hp y hy=>hC y (hpC p hp y hy)
 have hhas:∀(T:List Int),(∀ y∈T,0≤y∧y<512)→∀ n,hasS (stS T) n=decide (n∈T):=fun T hT n=>hasS_mem hT n
 have hon:∀(T:List Int) n,n∈T→onF (l.filter fun x=>decide (x.1∈T)) n=onF l n:=fun T n hnT=>by
  rw[on_filter (fun n=>decide (n∈T)),if_pos (decide_eq_true hnT)]
 rw[Bool.eq_iff_iff,List.all_eq_true]
 constructor
 ·intro h p hp
  unfold fineF at h ⊢
  rw[Bool.and_eq_true] at h ⊢
  refine⟨vl_filterB hl _,?_⟩
  have:=rest_asg hv (S:=stS C) (T:=stS p) (fun x hx=>by
   rw[hhas C hC,decide_eq_true_eq]
   rw[hhas p (hpr p hp),decide_eq_true_eq] at hx
   exact hpC p hp x hx) h.2
  have e:(fun x:Int×Int=>hasS (stS p) x.1)=fun x=>decide (x.1∈p):=by funext x;rw[hhas p (hpr p hp)]
  rw[e,filter_two (hpC p hp)] at this
  exact this
 ·intro h
  have hcls:∀ n∈C,clsF r C n∈compF r C∧n∈clsF r C n:=fun n hnC=>⟨comp_cover hn hnC,(cls_ok hn).self n hnC⟩
  have hok:∀ n∈C,okF (resD (stS (clsF r C n)) ds) (resR (stS (clsF r C n)) r) (l.filter fun x=>decide (x.1∈clsF r C n)) true=true:=fun n hnC=>by
   have:=h _ (hcls n hnC).1
   unfold fineF at this
   rw[Bool.and_eq_true] at this
   exact this.2
  unfold fineF
  rw[Bool.and_eq_true]
  refine⟨vl_filterB hl _,?_⟩
  unfold okF at hok ⊢
  simp only[Bool.and_eq_true,List.all_eq_true] at hok ⊢
  refine⟨fun d hd=>?_,fun x hx=>?_,fun x hx=>?_,fun x hx=>?_⟩
  ·obtain⟨h1,h2⟩:=List.mem_filter.1 hd
   rw[hhas C hC,decide_eq_true_eq] at h2
   obtain⟨c1,c2⟩:=hcls _ h2
   have:=(hok _ h2).1 d (List.mem_filter.2 ⟨h1,by rw[hhas _ (hpr _ c1)];exact decide_eq_true c2⟩)
   unfold bdF at this ⊢
   rw[hon _ _ c2] at this
   rw[hon _ _ h2];exact this
  ·obtain⟨h1,h2⟩:=List.mem_filter.1 hx
   have h2:=of_decide_eq_true h2
   obtain⟨c1,c2⟩:=hcls _ h2
   have:=(hok _ h2).2.1 x (List.mem_filter.2 ⟨h1,decide_eq_true c2⟩)
   rw[inD_mem,decide_eq_true_eq,res_st (hpr _ c1)] at this
   rw[inD_mem,decide_eq_true_eq,res_st hC]
   exact List.mem_filter.2 ⟨(List.mem_filter.1 this).1,decide_eq_true h2⟩
  ·obtain⟨h1,h2⟩:=List.mem_filter.1 hx
   rw[hhas C hC,hhas C hC,Bool.and_eq_true,decide_eq_true_eq,decide_eq_true_eq] at h2
   obtain⟨c1,c2⟩:=hcls _ h2.1
   have hlink:linkF r x.a x.b=true:=by
    unfold linkF
    rw[Bool.or_eq_true]
    exact .inl (List.any_eq_true.2 ⟨x,h1,by simp⟩)
   have hb:x.b∈clsF r C x.a:=(cls_mem h2.1 _).2 (.step .refl hlink h2.2)
   have:=(hok _ h2.1).2.2.1 x (List.mem_filter.2 ⟨h1,by rw[hhas _ (hpr _ c1),hhas _ (hpr _ c1),decide_eq_true c2,decide_eq_true hb];rfl⟩)
   unfold bpF at this ⊢
   rw[hon _ _ c2,hon _ _ hb] at this
   rw[hon _ _ h2.1,hon _ _ h2.2];exact this
  ·obtain⟨h1,h2⟩:=List.mem_filter.1 hx
   rw[hhas C hC,decide_eq_true_eq] at h2
   obtain⟨c1,c2⟩:=hcls _ h2
   have hcap:=(hok _ h2).2.2.2 x (List.mem_filter.2 ⟨h1,by rw[hhas _ (hpr _ c1)];exact decide_eq_true c2⟩)
   rw[Bool.not_eq_true'] at hcap ⊢
   cases hq:bcF (resR (stS C) r).loads x (l.filter fun x=>decide (x.1∈C)) with
   | false=>rfl
   | true=>
    exfalso
    unfold bcF at hq hcap
    rw[hon _ _ h2] at hq
    rw[hon _ _ c2] at hcap
    simp only[Bool.and_eq_true,Bool.not_eq_true',decide_eq_true_eq,decide_eq_false_iff_not] at hq
    obtain⟨q0,q1,q2,q3⟩:=hq
    rw[decide_eq_false q0,decide_eq_true q1,decide_eq_true q2] at hcap
    simp only[Bool.not_false,Bool.true_and,decide_eq_false_iff_not] at hcap
    have hlen:=hv.sts.2.2.2.2.1
    have hw:∀ T:Nat,∀ y∈(resR T r).loads,1≤y.c∧y.c≤1073741824:=fun T y hy=>(hv.lds y (List.mem_filter.1 hy).1).2.1
    have hl2:∀ T:Nat,(resR T r).loads.length≤r.loads.length:=fun T=>List.length_filter_le _ _
    rw[loss_sum _ _ _ _ 0 (hw _) (Int.le_refl _) (by have:=hl2 (stS C);omega),Int.zero_add] at q3
    rw[loss_sum _ _ _ _ 0 (hw _) (Int.le_refl _) (by have:=hl2 (stS (clsF r C x.a));omega),Int.zero_add] at hcap
    apply hcap
    refine Int.lt_of_lt_of_le q3 ?_
    unfold resR
    dsimp only
    rw[List.filter_filter,List.filter_filter]
    refine sumW_le (fun y hy=>(hv.lds y hy).2.1.1) (fun y hy hly=>?_)
    unfold lossB at hly ⊢
    rw[hhas C hC,hhas C hC] at hly
    rw[hhas _ (hpr _ c1),hhas _ (hpr _ c1)]
    simp only[Bool.and_eq_true,decide_eq_true_eq] at hly ⊢
    obtain⟨⟨y1,y2,y3,y4⟩,y5,y6⟩:=hly
    have hlink:linkF r x.a y.b=true:=by
     unfold linkF
     rw[Bool.or_eq_true]
     exact .inr (List.any_eq_true.2 ⟨y,hy,by rw[y1];simp⟩)
    have hb:y.b∈clsF r C x.a:=(cls_mem h2 _).2 (.step .refl hlink y6)
    rw[hon _ _ y6] at y2
    rw[hon _ _ hb,y1]
    exact⟨⟨rfl,y2,y3,y4⟩,c2,hb⟩
theorem filter_take_one {α:Type} {p:α→Bool} {L:List α} {k:Nat} {x:α} (h:L[k]?=some x):(L.take (k+1)).filter p=(L.take k).filter p++if p x then [x] else []:=by
 rw[List.take_add_one,h,List.filter_append]
 congr 1
 by_cases hp:p x<;>simp[hp]
end Go.Proofs.YtjakdikhdndlgaaGreatDoor
namespace Go.Proofs.YtjakdikhdndlgaaGreatDoor
open Go.RowKit Go.Shelf Go.ChangeShapes Go.WideShapes Go.ChangeAt Go.Deep Go.Joins
theorem row_sv {w:World} {base e n:Nat} {A:Option Addr} {c:Nat} {l:List Int} (h:w.ownsRow base e 1 (sv (A,n,c)) l.length (l.map intV)):n=l.length∧Row1 intV w w.heap.size A n l:=by
 obtain⟨A',c',e',hr⟩:=row1_of_own h
 unfold sv at e'
 dsimp only at e'
 injection e' with e1 e2 e3
 subst e1 e2
 exact⟨rfl,hr⟩
end Go.Proofs.YtjakdikhdndlgaaGreatDoor
namespace Go.Proofs.YtjakdikhdndlgaaGreatDoor
open Go.RowKit
theorem core_inc {ds:List Dom} {r:Rul} (h:validP ds r=true):(peelF (ds.map Dom.say) r).2.Pairwise (·<·):=by
 rw[core_list,say_st]
 exact(vpr h).up.filter _
theorem filter_one {l:List Int} (hn:l.Nodup) {s:Int} (h:s∈l):(l.filter fun x=>!decide (x=s)).length+1=l.length:=by
 induction l with
 | nil=>cases h
 | cons a t ih=>
  obtain⟨h1,h2⟩:=List.nodup_cons.1 hn
  rw[List.filter_cons]
  by_cases e:a=s
  ·subst e
   have h3:t.filter (fun x=>!decide (x=a))=t:=List.filter_eq_self.2 (fun x hx=>by
    have:x≠a:=fun e=>h1 (e ▸ hx)
    simp[this])
   simp[h3]
  ·have hs:s∈t:=by
    rcases List.mem_cons.1 h with h | h
    ·exact absurd h.symm e
    ·exact h
   have:=ih h2 hs
   rw[if_pos (by simp[e])]
   simp only[List.length_cons]
   omega
theorem peelG_count (D:Dms) (r:Rul):∀(f:Nat) (out set:List Int),set.Nodup→(peelG D r f out set).1.length+(peelG D r f out set).2.length=out.length+set.length:=by
 intro f
 induction f with
 | zero=>intro out set _;rfl
 | succ f ih=>
  intro out set hn
  rw[peelG]
  cases hs:set.find? (easyF D r set) with
  | none=>rfl
  | some s=>
   dsimp only
   rw[ih _ _ (hn.filter _),List.length_append]
   have:=filter_one hn (List.mem_of_find?_eq_some hs)
   simp only[List.length_singleton]
   omega
theorem peel_count {ds:List Dom} {r:Rul} (h:validP ds r=true):(peelF (ds.map Dom.say) r).2.length+(peelF (ds.map Dom.say) r).1.length=ds.length:=by
 have h1:((ds.map Dom.say).map Prod.fst).Nodup:=by rw[say_st];exact inc_nodup (vpr h).up
 have h2:=peelG_count (ds.map Dom.say) r (ds.map Dom.say).length [] _ h1
 rw[List.length_map (f:=Prod.fst)] at h2
 unfold peelF
 simp only[List.length_nil,List.length_map] at h2 ⊢
 omega
theorem only_dec (l:List (Int×Int)) (L:List Int):(l.filter fun x=>hasL L x.1)=l.filter fun x=>decide (x.1∈L):=by
 congr 1
 funext x
 rw[hasL_mem]
def ptF (ds:List Dom) (r:Rul) (l:List (Int×Int)) (p:List Int):Bool:=fineF (resD (stS p) ds) (resR (stS p) r) (l.filter fun x=>hasL p x.1)
theorem parts_fit {ds:List Dom} {r:Rul} (h:validP ds r=true) {l:List (Int×Int)} (hl:vlGo none l=true):
  (compF r (peelF (ds.map Dom.say) r).2).all (ptF ds r l)=fitC ds r (l.filter fun x=>hasL (peelF (ds.map Dom.say) r).2 x.1):=by
 have h1:=fine_parts (vpr h) (core_inc h) (stOk_in (core_ok h)) hl
 unfold fitC
 rw[only_dec,h1]
 congr 1
 funext p
 unfold ptF
 rw[only_dec]
theorem parts_sum {ds:List Dom} {r:Rul} (h:validP ds r=true):((compF r (peelF (ds.map Dom.say) r).2).map List.length).sum=(peelF (ds.map Dom.say) r).2.length:=comp_sum (core_inc h)
theorem part_ok {ds:List Dom} {r:Rul} (h:validP ds r=true) {p:List Int} (hp:p∈compF r (peelF (ds.map Dom.say) r).2):stOk p=true∧mi (stS p) (stS (ds.map Dom.st))=0∧0<p.length∧p.length≤512:=by
 have hn:=inc_nodup (core_inc h)
 have hs:=comp_sub hn hp
 have hm:∀ x∈p,x∈ds.map Dom.st:=fun x hx=>core_mem x (hs.subset hx)
 have ho:=inc_ok h hm ((core_inc h).sublist hs)
 refine⟨ho,(sub_iff (stOk_in ho) (vpr h).sts.1).2 hm,?_,Nat.le_trans hs.length_le (core_len h)⟩
 obtain⟨s,_,_,h1⟩:=comp_part hn hp
 cases p with
 | nil=>cases h1
 | cons a b=>simp
theorem take_allH {α:Type} {q:α→Bool} {P:List α} {k:Nat} {p:α} (h:P[k]?=some p):(P.take (k+1)).all q=((P.take k).all q&&q p):=by
 rw[List.take_add_one,h,List.all_append]
 simp
theorem take_sumH {P:List (List Int)} {k:Nat} {p:List Int} (h:P[k]?=some p):((P.take (k+1)).map List.length).sum=((P.take k).map List.length).sum+p.length:=by
 rw[List.take_add_one,h]
 simp
theorem sum_take (P:List (List Int)) (k:Nat):((P.take k).map List.length).sum≤(P.map List.length).sum:=sum_sub_of List.length (List.take_sublist k P)
theorem ext_yes {ds:List Dom} {r:Rul} (h:validP ds r=true) {l:List (Int×Int)} (hl:vlGo none l=true) (hf:fitC ds r l=true):exR ds r l=(extF (ds.map Dom.say) r l,0)∧fineF ds r (extF (ds.map Dom.say) r l)=true∧(extF (ds.map Dom.say) r l).filter (fun x=>hasL (peelF (ds.map Dom.say) r).2 x.1)=l:=by
 obtain⟨h1,h2⟩:=ext_fine (vpr h) (valid_ne h) hf
 refine⟨?_,h1,by rw[only_dec];exact h2⟩
 unfold exR
 rw[if_pos ⟨h,hl⟩,if_pos hf]
theorem ext_no {ds:List Dom} {r:Rul} (h:validP ds r=true) {l:List (Int×Int)} (hl:vlGo none l=true) (hf:fitC ds r l=false):exR ds r l=([],10):=by
 unfold exR
 rw[if_pos ⟨h,hl⟩,if_neg (by rw[hf];decide)]
end Go.Proofs.YtjakdikhdndlgaaGreatDoor
namespace Go.Proofs.YtjakdikhdndlgaaGreatDoor
open Go.RowKit Go.Shelf
def ChsNew (O:Chs) (w:World) (e:Ending) (w':World):Prop:=∃ v,e=.returned v∧w'.ownsRow w.heap.size 75 2 v O.length (flat 2 chC O)∧Below w.heap.size w w'
theorem ronly_any (A B:Option Addr) (n c m d:Nat) (w:World) (l:Chs) (L:List Int) (hn:n≤100000) (hm:m≤9223372036854775807) (hl:RowS 2 chC w w.heap.size A n l) (hL:Row1 intV w w.heap.size B m L):
  Calls Tryz.prog 30 #[.slice A n c,.slice B m d] w (ChsNew (l.filter fun x=>hasL L x.1) w):=by
 obtain⟨i0,hi,hz0,hz1,hz2⟩:=info_parts ch_info
 have Hl:=Lib.hid hl
 have Hlen:=Eqn.mk hl.1
 have HHA:=Lib.hid (fun (x:Int) (W:World) (hb:Below w.heap.size w W)=>rhas_any B m d x W L hm (hL.keep hb))
 clear hl hL
 go_enter Tryz.func30,Tryz.ntmps30
 go_wp2_with fail
 go_loopw [5,6] (fun v i wr=>∃ k:Nat,k≤n∧i=.int .i64 k∧Hp w w wr [.row v 75 2 ((l.take k).filter fun x=>hasL L x.1).length (flat 2 chC ((l.take k).filter fun x=>hasL L x.1))] []) (fun _ i _=>n - (intOf i).toNat)
 case atStart=>exact⟨0,Nat.zero_le _,rfl,(Hp.start w).nil 75 2⟩
 case round=>
  obtain⟨k,hk,rfl,hP⟩:=hrel
  have HP:=Lib.hid hP
  obtain⟨A1,c1,rfl⟩:=hP.form 0 rfl
  by_cases hlt:k<n
  ·have j0:(k:Int)<(n:Int):=by omega
   obtain⟨x,hx⟩:∃ x,l[k]?=some x:=⟨_,List.getElem?_eq_getElem (by rw[Hlen.out];exact hlt)⟩
   have HSU:=Eqn.mk (filter_take_one (p:=fun x:Int×Int=>hasL L x.1) hx)
   have hol:((l.take k).filter fun x=>hasL L x.1).length≤100000:=by
    have:=List.length_filter_le (fun x:Int×Int=>hasL L x.1) (l.take k)
    rw[List.length_take] at this;omega
   obtain⟨b,off,rfl,hbw,hcell⟩:=(Hl.out.below hP.below).2 (by omega)
   have y0:wr.cell? ⟨b,off+k * 2,none⟩=some (.int .i64 x.1):=hcell k x hx 0 (by decide)
   have y1:wr.cell? ⟨b,off+k * 2+1,none⟩=some (.int .i64 x.2):=hcell k x hx 1 (by decide)
   obtain⟨xs,xc⟩:=x
   dsimp only at y0 y1 HSU
   generalize (l.take k).filter (fun x=>hasL L x.1)=O at *
   have HH1:=HHA.out xs wr hP.below
   generalize hasL L xs=hb at *
   have HH1:=Lib.hid HH1
   clear hP hx hcell hbw
   cases hb with
   | false=>
    have HSU2:Eqn ((l.take (k+1)).filter (fun x=>hasL L x.1)) O:=by rw[Eqn,HSU.out];simp
    clear HSU
    go_wp2_with fail
    refine HH1.out.mono ?_
    rintro e w5 ⟨rfl,rfl⟩
    go_wp2_with fail
    go_roundw
    case rel=>exact⟨k+1,hlt,by go_num,by rw[HSU2.out];exact HP.out⟩
    case measure=>simp[intOf];omega
   | true=>
    have HSU2:Eqn ((l.take (k+1)).filter (fun x=>hasL L x.1)) (O++[(xs,xc)]):=HSU
    clear HSU
    go_wp2_with fail
    refine HH1.out.mono ?_
    rintro e w5 ⟨rfl,rfl⟩
    go_wp2_with (at_builtin;refine wpList_append_own_at _ rfl _ _ 53 rfl w.heap.size 75 i0 (.agg #[.int .i64 0,.int .i64 0]) 2 16 Tryz.underlying53 hi hz0 hz1 hz2 rfl (by decide) _ _ _ rfl ((HP.out.row 0 rfl).alloc _) ⟨wr.heap.size,0,none⟩ 1 1 [.int .i64 xs,.int .i64 xc] rfl rfl (cells_newR wr [.int .i64 xs,.int .i64 xc] 75) (by simp[Value.oneCell']) (by unfold maxLen;omega) (by omega) (by have:=HP.out.below.size;simp;omega) ?_;intro v6 w6 hown' hgrow _ hat;have HP6:=Lib.hid ((HP.out.alloc0 _).grow 0 rfl hgrow hown' hat);obtain⟨A6,cp6,rfl⟩:=HP6.out.form 0 rfl;clear hown' hgrow hat)
    go_roundw
    case rel=>exact⟨k+1,hlt,by go_num,by rw[HSU2.out,flat_snoc,List.length_append];exact HP6.out.sub (List.Sublist.cons_cons _ (List.nil_sublist _))⟩
    case measure=>simp[intOf];omega
  ·obtain rfl:k=n:=by omega
   rw[List.take_of_length_le (by rw[Hlen.out];exact Nat.le_refl _)] at HP ⊢
   clear hP
   go_wp2_with fail
   go_ret
   exact⟨_,rfl,HP.out.row 0 rfl,HP.out.below⟩
theorem blk_cell {W:World} {g t:Nat} {s:List Value} (h:Blk W g t s) (k:Nat):W.cell? ⟨g,k,none⟩=s[k]?:=by
 simp[World.cell?,show W.heap[g]?=_ from h]
theorem cell_other {W:World} {b g:Nat} (hne:b≠g) (o i:Nat) (u:Value):(W.setCell ⟨g,i,none⟩ u).cell? ⟨b,o,none⟩=W.cell? ⟨b,o,none⟩:=by
 have h:=Below.heap_setCell W ⟨g,i,none⟩ u b (fun e=>hne e)
 unfold World.cell?
 dsimp only
 rw[h]
theorem rowS_set {α:Type} {sz:Nat} {f:α→Nat→Value} {W:World} {D:Nat} {A:Option Addr} {n:Nat} {xs:List α} (h:RowS sz f W D A n xs) (hsz:0<sz) (hf:∀ x,∃ z,f x 0=.int .i64 z) {g t:Nat} {s:List Value} (hb:Blk W g t s) (hs:Slices s) (i:Nat) (u:Value):RowS sz f (W.setCell ⟨g,i,none⟩ u) D A n xs:=by
 refine⟨h.1,fun hn=>?_⟩
 obtain⟨b,off,hA,hbl,hc⟩:=h.2 hn
 obtain⟨x,hx⟩:∃ x,xs[0]?=some x:=⟨_,List.getElem?_eq_getElem (by have:=h.1;omega)⟩
 have h0:=hc 0 x hx 0 hsz
 have hne:b≠g:=by
  rintro rfl
  obtain⟨z,hz⟩:=hf x
  rw[blk_cell hb,hz] at h0
  obtain⟨a,l,c,hv⟩:=hs _ _ h0
  cases hv
 exact⟨b,off,hA,hbl,fun k y hy j hj=>(cell_other hne _ i u).trans (hc k y hy j hj)⟩
theorem row1_set {W:World} {D:Nat} {A:Option Addr} {n:Nat} {xs:List Int} (h:Row1 intV W D A n xs) {g t:Nat} {s:List Value} (hb:Blk W g t s) (hs:Slices s) (i:Nat) (u:Value):Row1 intV (W.setCell ⟨g,i,none⟩ u) D A n xs:=by
 refine⟨h.1,fun hn=>?_⟩
 obtain⟨b,off,hA,hbl,hc⟩:=h.2 hn
 obtain⟨x,hx⟩:∃ x,xs[0]?=some x:=⟨_,List.getElem?_eq_getElem (by have:=h.1;omega)⟩
 have h0:=hc 0 x hx
 have hne:b≠g:=by
  rintro rfl
  rw[blk_cell hb] at h0
  obtain⟨a,l,c,hv⟩:=hs _ _ h0
  cases hv
 exact⟨b,off,hA,hbl,fun k y hy=>(cell_other hne _ i u).trans (hc k y hy)⟩
theorem PrbAt.set {W:World} {D:Nat} {s:PrbS} {ds:List Dom} {r:Rul} (h:PrbAt W D s ds r) {g t:Nat} {l:List Value} (hb:Blk W g t l) (hs:Slices l) (i:Nat) (u:Value):PrbAt (W.setCell ⟨g,i,none⟩ u) D s ds r:=
 ⟨⟨rowS_set h.1.1 (by decide) (fun x=>⟨_,rfl⟩) hb hs i u,fun d hd=>row1_set (h.1.2 d hd) hb hs i u⟩,rowS_set h.2.1 (by decide) (fun x=>⟨_,rfl⟩) hb hs i u,rowS_set h.2.2.1 (by decide) (fun x=>⟨_,rfl⟩) hb hs i u,rowS_set h.2.2.2.1 (by decide) (fun x=>⟨_,rfl⟩) hb hs i u,h.2.2.2.2⟩
theorem slices4 (a b c d:Option Addr) (n1 k1 n2 k2 n3 k3 n4 k4:Nat):Slices [.slice a n1 k1,.slice b n2 k2,.slice c n3 k3,.slice d n4 k4]:=by
 intro k v h
 match k,h with
 | 0,h=>simp at h;exact⟨_,_,_,h.symm⟩
 | 1,h=>simp at h;exact⟨_,_,_,h.symm⟩
 | 2,h=>simp at h;exact⟨_,_,_,h.symm⟩
 | 3,h=>simp at h;exact⟨_,_,_,h.symm⟩
 | k+4,h=>simp at h
def ss4 (s:PrbS):List Value:=[.slice s.ad s.nd s.cd,.slice s.rs.a0 s.rs.n0 s.rs.c0,.slice s.rs.a1 s.rs.n1 s.rs.c1,.slice s.rs.a2 s.rs.n2 s.rs.c2]
theorem prb_store {W:World} {g:Nat} {s:PrbS} {ds:List Dom} {r:Rul} (h:PrbAt W W.heap.size s ds r) (hb:Blk W g 29 [.slice none 0 0,.slice none 0 0,.slice none 0 0,.slice none 0 0]) {W1:World} (hB:Below W1.heap.size W1 W) (hg:W1.heap.size≤g):
  Blk ((((W.setCell ⟨g,0,none⟩ (.slice s.ad s.nd s.cd)).setCell ⟨g,1,none⟩ (.slice s.rs.a0 s.rs.n0 s.rs.c0)).setCell ⟨g,2,none⟩ (.slice s.rs.a1 s.rs.n1 s.rs.c1)).setCell ⟨g,3,none⟩ (.slice s.rs.a2 s.rs.n2 s.rs.c2)) g 29 (ss4 s) ∧
  PrbAt ((((W.setCell ⟨g,0,none⟩ (.slice s.ad s.nd s.cd)).setCell ⟨g,1,none⟩ (.slice s.rs.a0 s.rs.n0 s.rs.c0)).setCell ⟨g,2,none⟩ (.slice s.rs.a1 s.rs.n1 s.rs.c1)).setCell ⟨g,3,none⟩ (.slice s.rs.a2 s.rs.n2 s.rs.c2)) W.heap.size s ds r ∧
  Below W1.heap.size W1 ((((W.setCell ⟨g,0,none⟩ (.slice s.ad s.nd s.cd)).setCell ⟨g,1,none⟩ (.slice s.rs.a0 s.rs.n0 s.rs.c0)).setCell ⟨g,2,none⟩ (.slice s.rs.a1 s.rs.n1 s.rs.c1)).setCell ⟨g,3,none⟩ (.slice s.rs.a2 s.rs.n2 s.rs.c2)):=by
 have b1:=hb.set_ 0 (.slice s.ad s.nd s.cd)
 have b2:=b1.set_ 1 (.slice s.rs.a0 s.rs.n0 s.rs.c0)
 have b3:=b2.set_ 2 (.slice s.rs.a1 s.rs.n1 s.rs.c1)
 have b4:=b3.set_ 3 (.slice s.rs.a2 s.rs.n2 s.rs.c2)
 refine⟨b4,(((h.set hb (slices4 _ _ _ _ _ _ _ _ _ _ _ _) 0 _).set b1 (slices4 _ _ _ _ _ _ _ _ _ _ _ _) 1 _).set b2 (slices4 _ _ _ _ _ _ _ _ _ _ _ _) 2 _).set b3 (slices4 _ _ _ _ _ _ _ _ _ _ _ _) 3 _,?_⟩
 exact(((hB.setCell (p:=⟨g,0,none⟩) hg _).setCell (p:=⟨g,1,none⟩) hg _).setCell (p:=⟨g,2,none⟩) hg _).setCell (p:=⟨g,3,none⟩) hg _
theorem rcomps_yes (s:PrbS) (W:World) (hT:Tab W) {es:List Dom} {q:Rul} {P:List (List Int)} {m:Nat} (hn:s.nd≤9223372036854775807) (hd:∀ d∈es,d.len≤9223372036854775807) (hv:validP es q=true) (hP:compF q (peelF (es.map Dom.say) q).2=P) (hm:P.length=m) (h:PrbAt W W.heap.size s es q):
  Calls Tryz.prog 18 #[s.val] W fun e w'=>∃ A c cs,e=.returned (.tuple #[.slice A m c,.int .i64 0])∧cs.map Prod.snd=P∧Hp W W w' (.row (.slice A m c) 32 1 m (cs.map fun x=>sv x.1)::exI cs) []:=by
 refine(rcomps_any s W hT es q hn hd h).mono (fun e w' hh=>?_)
 unfold cmpR at hh
 rw[if_pos hv,hP] at hh
 obtain⟨A,c,cs,h1,h2,h3⟩:=hh
 dsimp only at h2
 have h4:cs.length=m:=by rw[←hm,←h2,List.length_map]
 rw[h4] at h1 h3
 exact⟨A,c,cs,h1,h2,h3⟩
theorem only_yes (A B:Option Addr) (n c m d:Nat) (W:World) {l lf:List (Int×Int)} {L:List Int} {nf:Nat} (hlf:(l.filter fun x=>hasL L x.1)=lf) (hnf:lf.length=nf) (hn:n≤100000) (hm:m≤9223372036854775807) (hl:RowS 2 chC W W.heap.size A n l) (hL:Row1 intV W W.heap.size B m L):
  Calls Tryz.prog 30 #[.slice A n c,.slice B m d] W fun e w'=>∃ A' c',e=.returned (.slice A' nf c')∧RowS 2 chC w' w'.heap.size A' nf lf∧Below W.heap.size W w':=by
 refine(ronly_any A B n c m d W l L hn hm hl hL).mono (fun e w' hh=>?_)
 obtain⟨v,rfl,ho,hb⟩:=hh
 rw[hlf,hnf] at ho
 obtain⟨A',c',rfl,hr⟩:=own_formS (by decide) ho
 exact⟨A',c',rfl,hr,hb⟩
theorem only_len {l lf:List (Int×Int)} {L:List Int} (hlf:(l.filter fun x=>hasL L x.1)=lf):lf.length≤l.length:=by
 rw[←hlf]
 exact List.length_filter_le _ _
theorem ext_form {E:List (Int×Int)} {k:Int} {m:Nat} {w:World} {e:Ending} {w':World} (h:ChsPost (E,k) w e w') (hm:E.length=m):∃ A c,e=.returned (.tuple #[.slice A m c,.int .i64 k])∧RowS 2 chC w' w'.heap.size A m E∧Below w.heap.size w w':=by
 obtain⟨v,rfl,ho,hb⟩:=h
 dsimp only at ho ⊢
 rw[hm] at ho
 obtain⟨A,c,rfl,hr⟩:=own_formS (by decide) ho
 exact⟨A,c,rfl,hr,hb⟩
theorem extF_len (ds:List Dom) (r:Rul) (l:List (Int×Int)):(extF (ds.map Dom.say) r l).length=ds.length:=by
 unfold extF outF
 rw[List.length_map,List.length_map]
def RowsH (W:World) (g:Nat) (cs:Cs):Prop:=∀(k:Nat) (A:Option Addr) (n c:Nat) (l:List Int),cs[k]?=some ((A,n,c),l)→n=l.length∧W.cell? ⟨g,k,none⟩=some (.slice A n c)∧Row1 intV W W.heap.size A n l
theorem rowsH_at {w u W:World} {g n c:Nat} {cs:Cs} (h:Hp w u W (.row (.slice (some ⟨g,0,none⟩) n c) 32 1 n (cs.map fun x=>sv x.1)::exI cs) []):RowsH W g cs:=by
 intro k A n c l hk
 obtain⟨g1,c1,e1,y1,_,_⟩:=h.at 0 k rfl (show (cs.map fun x=>sv x.1)[k]?=some (.slice A n c) by rw[List.getElem?_map,hk];rfl)
 injection e1 with e1 _ _
 injection e1 with e1
 injection e1 with e1
 subst e1
 have h2:=row_sv (l:=l) (A:=A) (n:=n) (c:=c) (h.row (1+k) (exI_at (L:=[_]) rfl hk))
 exact⟨h2.1,y1,h2.2⟩
end Go.Proofs.YtjakdikhdndlgaaGreatDoor
