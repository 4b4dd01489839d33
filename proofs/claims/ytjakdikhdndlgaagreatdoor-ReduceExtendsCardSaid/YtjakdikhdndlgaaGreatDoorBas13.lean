/- Lemmas of the proof, part 13. Conditions: none. -/
import Derived.Test.YtjakdikhdndlgaaGreatDoorBas12
set_option maxRecDepth 100000
set_option maxHeartbeats 40000000
namespace Go.Proofs.YtjakdikhdndlgaaGreatDoor
open Go.RowKit
theorem stF_iff (n:Int):stF n=true↔0≤n∧n<512:=by unfold stF;rw[Bool.and_eq_true,decide_eq_true_eq,decide_eq_true_eq];omega
theorem betwF_iff (n lo hi:Int):betwF n lo hi=true↔lo≤n∧n≤hi:=by unfold betwF;rw[Bool.and_eq_true,decide_eq_true_eq,decide_eq_true_eq]
theorem vl_facts:∀(l:List (Int×Int)) (prev:Option Int),vlGo prev l=true→(∀ x∈l,(0≤x.1∧x.1<512)∧(2≤x.2∧x.2≤51)∧∀ q,prev=some q→q<x.1)∧l.Pairwise (fun x y=>x.1<y.1):=by
 intro l
 induction l with
 | nil=>intro _ _;exact⟨fun _ h=>(by cases h),List.Pairwise.nil⟩
 | cons x r ih=>
  intro prev h
  rw[vlGo_cons] at h
  split at h
  ·rename_i hc
   rw[Bool.and_eq_true,Bool.and_eq_true,stF_iff,betwF_iff] at hc
   obtain⟨h1,h2⟩:=ih _ h
   have hq:∀ q,prev=some q→q<x.1:=by
    intro q e
    subst e
    have:=hc.2
    unfold notUp at this
    simp at this
    exact this
   refine⟨fun y hy=>?_,List.pairwise_cons.2 ⟨fun y hy=>(h1 y hy).2.2 x.1 rfl,h2⟩⟩
   rcases List.mem_cons.1 hy with rfl | hy
   ·exact⟨hc.1.1,hc.1.2,hq⟩
   ·have h3:=h1 y hy
    exact⟨h3.1,h3.2.1,fun q e=>by have:=hq q e;have:=h3.2.2 x.1 rfl;omega⟩
  ·cases h
def arrF (l:List (Int×Int)):List Int:=l.foldl (fun O x=>O.set x.1.toNat x.2) (List.replicate 512 0)
theorem arrF_take {l:List (Int×Int)} {k:Nat} {x:Int×Int} (h:l[k]?=some x):arrF (l.take (k+1))=(arrF (l.take k)).set x.1.toNat x.2:=by unfold arrF;rw[List.take_add_one,h,List.foldl_append];rfl
theorem arrF_len (l:List (Int×Int)):(arrF l).length=512:=by
 have:∀(l:List (Int×Int)) (X:List Int),(l.foldl (fun O x=>O.set x.1.toNat x.2) X).length=X.length:=by
  intro l
  induction l with
  | nil=>intro X;rfl
  | cons x r ih=>intro X;rw[List.foldl_cons,ih,List.length_set]
 unfold arrF;rw[this,List.length_replicate]
theorem arr_on {l:List (Int×Int)} (hv:vlGo none l=true) (n:Nat) (hn:n<512):(arrF l).getD n 0=onF l (n:Int):=by
 obtain⟨h1,h2⟩:=vl_facts l none hv
 have key:∀(r:List (Int×Int)) (X:List Int),X.length=512→(∀ x∈r,0≤x.1∧x.1<512)→r.Pairwise (fun x y=>x.1<y.1)→(r.foldl (fun O x=>O.set x.1.toNat x.2) X).getD n 0=if ∃ x∈r,x.1=(n:Int) then onF r (n:Int) else X.getD n 0:=by
  intro r
  induction r with
  | nil=>intro X _ _ _;simp
  | cons x r ih=>
   intro X hX hr hp
   obtain⟨hp1,hp2⟩:=List.pairwise_cons.1 hp
   rw[List.foldl_cons,ih (X.set x.1.toNat x.2) (by rw[List.length_set];exact hX) (fun y hy=>hr y (by simp[hy])) hp2,onF]
   have hx:=hr x (by simp)
   by_cases hxn:x.1=(n:Int)
   ·have hno:¬∃ y∈r,y.1=(n:Int):=by
     rintro⟨y,hy,e⟩
     have:=hp1 y hy;omega
    have e:x.1.toNat=n:=by omega
    rw[if_neg hno,if_pos ⟨x,by simp,hxn⟩,if_pos hxn,List.getD_eq_getElem?_getD,List.getElem?_set,e,if_pos rfl,if_pos (by omega)];rfl
   ·rw[if_neg hxn]
    have e:¬x.1.toNat=n:=by omega
    by_cases hy:∃ y∈r,y.1=(n:Int)
    ·rw[if_pos hy,if_pos (by obtain⟨y,hy1,hy2⟩:=hy;exact⟨y,by simp[hy1],hy2⟩)]
    ·rw[if_neg hy,if_neg (by
      rintro⟨y,hy1,hy2⟩
      rcases List.mem_cons.1 hy1 with rfl | h
      ·exact hxn hy2
      ·exact hy ⟨y,h,hy2⟩),List.getD_eq_getElem?_getD,List.getElem?_set,if_neg e,←List.getD_eq_getElem?_getD]
 unfold arrF
 rw[key l _ (List.length_replicate ..) (fun x hx=>(h1 x hx).1) h2]
 split
 ·rfl
 ·rename_i hne
  have h0:onF l (n:Int)=0:=by
   clear hv h1 h2 key
   induction l with
   | nil=>rfl
   | cons x r ih=>
    rw[onF,if_neg (fun e=>hne ⟨x,by simp,e⟩)]
    exact ih (fun ⟨y,hy,e⟩=>hne ⟨y,by simp[hy],e⟩)
  rw[h0,List.getD_eq_getElem?_getD,List.getElem?_replicate,if_pos hn];rfl
theorem arr_onI {l:List (Int×Int)} (hv:vlGo none l=true) (x:Int) (hx:0≤x∧x<512):(arrF l).getD x.toNat 0=onF l x:=by
 have:=arr_on hv x.toNat (by omega)
 rwa [Int.toNat_of_nonneg hx.1] at this
theorem on_range {l:List (Int×Int)} (hv:vlGo none l=true) (x:Int):onF l x=0∨(2≤onF l x∧onF l x≤51):=by
 have h1:=(vl_facts l none hv).1
 clear hv
 induction l with
 | nil=>exact .inl rfl
 | cons y r ih=>
  rw[onF]
  split
  ·exact .inr (h1 y (by simp)).2.1
  ·exact ih (fun z hz=>h1 z (by simp[hz]))
theorem lost_loss {l:List (Int×Int)} (hv:vlGo none l=true) (n:Int) (hn:0≤n∧n<512) (loads:List R5) (hr:∀ r∈loads,(0≤r.a∧r.a<512)∧0≤r.b∧r.b<512):(lostF (arrF l) loads).getD n.toNat 0=lossGo n (onF l n) l 0 loads:=by
 have key:∀(loads:List R5) (X:List Int),(∀ r∈loads,(0≤r.a∧r.a<512)∧0≤r.b∧r.b<512)→X.length=512→(loads.foldl (lostStep (arrF l)) X).getD n.toNat 0=lossGo n (onF l n) l (X.getD n.toNat 0) loads:=by
  intro loads
  induction loads with
  | nil=>intro X _ _;rfl
  | cons r q ih=>
   intro X hr hX
   have h1:=hr r (by simp)
   rw[List.foldl_cons,ih _ (fun y hy=>hr y (by simp[hy])) (by unfold lostStep;split<;>simp[hX]),lossGo]
   congr 1
   unfold lostStep lossB
   rw[arr_onI hv r.a h1.1,arr_onI hv r.b h1.2]
   by_cases hc:r.d≤onF l r.a∧onF l r.a≤r.e∧onF l r.b=onF l r.a
   ·rw[if_pos hc,List.getD_eq_getElem?_getD,List.getElem?_set]
    by_cases ha:r.a=n
    ·subst ha
     rw[if_pos rfl,if_pos (by omega),if_pos]
     ·rfl
     ·rw[Bool.and_eq_true,Bool.and_eq_true,Bool.and_eq_true]
      exact⟨decide_eq_true rfl,decide_eq_true hc.2.2,decide_eq_true hc.1,decide_eq_true hc.2.1⟩
    ·rw[if_neg (by omega),←List.getD_eq_getElem?_getD,if_neg (by rw[decide_eq_false ha];simp)]
   ·rw[if_neg hc,if_neg]
    rw[Bool.and_eq_true,Bool.and_eq_true,Bool.and_eq_true]
    rintro⟨a1,a2,a3,a4⟩
    have a1:=of_decide_eq_true a1
    subst a1
    exact hc ⟨of_decide_eq_true a3,of_decide_eq_true a4,of_decide_eq_true a2⟩
 unfold lostF
 rw[key loads _ hr (List.length_replicate ..),List.getD_eq_getElem?_getD,List.getElem?_replicate,if_pos (by omega)];rfl
theorem pair_breaks {l:List (Int×Int)} (hv:vlGo none l=true) {x:R5} (hx:goodP x=true):(betwF (onF l x.a) x.d x.e&&decide (onF l x.b=wrap64 (onF l x.a+x.c)))=bpF x l:=by
 unfold goodP spF at hx
 simp only[Bool.and_eq_true,decide_eq_true_eq] at hx
 have h1:=on_range hv x.a
 have h2:=on_range hv x.b
 unfold betwF bpF
 rw[Bool.eq_iff_iff]
 simp only[Bool.and_eq_true,Bool.not_eq_true',decide_eq_true_eq,decide_eq_false_iff_not]
 constructor
 ·rintro⟨⟨a1,a2⟩,a3⟩
  have a4:=a3
  unfold wrap64 at a3
  exact⟨by omega,by omega,a1,a2,a4⟩
 ·rintro⟨_,_,a1,a2,a3⟩;exact⟨⟨a1,a2⟩,a3⟩
theorem cap_breaks {l:List (Int×Int)} (hv:vlGo none l=true) {x:R4} (hx:goodC x=true) (loads:List R5) (hr:∀ r∈loads,(0≤r.a∧r.a<512)∧0≤r.b∧r.b<512):(betwF (onF l x.a) x.c x.d&&decide (x.b<(lostF (arrF l) loads).getD x.a.toNat 0))=bcF loads x l:=by
 unfold goodC spF at hx
 simp only[Bool.and_eq_true,decide_eq_true_eq,stF_iff] at hx
 rw[lost_loss hv x.a hx.1.1 loads hr]
 unfold betwF bcF
 rw[Bool.eq_iff_iff]
 simp only[Bool.and_eq_true,Bool.not_eq_true',decide_eq_true_eq,decide_eq_false_iff_not]
 constructor
 ·rintro⟨⟨a1,a2⟩,a3⟩;exact⟨by omega,a1,a2,a3⟩
 ·rintro⟨_,a1,a2,a3⟩;exact⟨⟨a1,a2⟩,a3⟩
theorem inc_ext:∀ {a b:List Int},a.Pairwise (·<·)→b.Pairwise (·<·)→(∀ x,x∈a↔x∈b)→a=b:=by
 intro a
 induction a with
 | nil=>
  intro b _ _ h
  cases b with
  | nil=>rfl
  | cons y r=>have:=(h y).2 (by simp);cases this
 | cons x r ih=>
  intro b ha hb h
  cases b with
  | nil=>have:=(h x).1 (by simp);cases this
  | cons y s=>
   obtain⟨h1,h2⟩:=List.pairwise_cons.1 ha
   obtain⟨h3,h4⟩:=List.pairwise_cons.1 hb
   have hxy:x=y:=by
    have hx:=(h x).1 (by simp)
    have hy:=(h y).2 (by simp)
    rcases List.mem_cons.1 hx with hx | hx
    ·exact hx
    ·rcases List.mem_cons.1 hy with hy | hy
     ·exact hy.symm
     ·have:=h1 y hy;have:=h3 x hx;omega
   subst hxy
   congr 1
   refine ih h2 h4 (fun z=>?_)
   constructor
   ·intro hz
    rcases List.mem_cons.1 ((h z).1 (by simp[hz])) with rfl | hz'
    ·have:=h1 _ hz;omega
    ·exact hz'
   ·intro hz
    rcases List.mem_cons.1 ((h z).2 (by simp[hz])) with rfl | hz'
    ·have:=h3 _ hz;omega
    ·exact hz'
theorem vlGo_iff:∀(l:List (Int×Int)) (p:Option Int),vlGo p l=true↔(∀ x∈l,stF x.1=true∧2≤x.2∧x.2≤51∧(∀ q,p=some q→q<x.1))∧l.Pairwise (fun x y=>x.1<y.1):=by
 intro l
 induction l with
 | nil=>intro p;simp[vlGo]
 | cons x r ih=>
  intro p
  rw[vlGo]
  by_cases hb:stF x.1=false∨x.2<2∨51<x.2∨notUp p x.1=true
  ·rw[if_pos hb]
   refine⟨fun h=>(by cases h),fun h=>?_⟩
   obtain⟨h1,h2,h3,h4⟩:=h.1 x (by simp)
   rcases hb with hb | hb | hb | hb
   ·rw[h1] at hb;cases hb
   ·omega
   ·omega
   ·cases p with
    | none=>cases hb
    | some q=>have:=h4 q rfl;simp[notUp] at hb;omega
  ·rw[if_neg hb,ih]
   have hs:stF x.1=true:=by
    cases h:stF x.1 with
    | true=>rfl
    | false=>exact absurd (.inl h) hb
   have h2:¬x.2<2:=fun h=>hb (.inr (.inl h))
   have h5:¬51<x.2:=fun h=>hb (.inr (.inr (.inl h)))
   have hxp:∀ q,p=some q→q<x.1:=by
    rintro q rfl
    have:¬notUp (some q) x.1=true:=fun h=>hb (.inr (.inr (.inr h)))
    simp[notUp] at this
    exact this
   constructor
   ·rintro⟨h1,h3⟩
    refine⟨fun y hy=>?_,List.pairwise_cons.2 ⟨fun y hy=>(h1 y hy).2.2.2 x.1 rfl,h3⟩⟩
    rcases List.mem_cons.1 hy with rfl | hy
    ·exact⟨hs,by omega,by omega,hxp⟩
    ·obtain⟨g1,g2,g3,g4⟩:=h1 y hy
     exact⟨g1,g2,g3,fun q hq=>Int.lt_trans (hxp q hq) (g4 x.1 rfl)⟩
   ·rintro⟨h1,h3⟩
    obtain⟨h6,h4⟩:=List.pairwise_cons.1 h3
    refine⟨fun y hy=>?_,h4⟩
    obtain⟨g1,g2,g3,_⟩:=h1 y (by simp[hy])
    exact⟨g1,g2,g3,fun q hq=>(by cases hq;exact h6 y hy)⟩
theorem onF_mem:∀ {l:List (Int×Int)} {n:Int},onF l n≠0→n∈l.map Prod.fst:=by
 intro l
 induction l with
 | nil=>intro n h;exact absurd rfl h
 | cons x r ih=>
  intro n h
  rw[onF] at h
  by_cases he:x.1=n
  ·simp[he]
  ·rw[if_neg he] at h
   have:=ih h
   simp only[List.map_cons,List.mem_cons]
   exact .inr this
theorem onF_at:∀ {l:List (Int×Int)},l.Pairwise (fun x y=>x.1<y.1)→∀ x∈l,onF l x.1=x.2:=by
 intro l
 induction l with
 | nil=>intro _ x h;cases h
 | cons y r ih=>
  intro hp x hx
  obtain⟨h1,h2⟩:=List.pairwise_cons.1 hp
  rw[onF]
  rcases List.mem_cons.1 hx with rfl | hx
  ·rw[if_pos rfl]
  ·have:=h1 x hx
   rw[if_neg (by omega)]
   exact ih h2 x hx
theorem fine_st {ds:List Dom} {r:Rul} {l:List (Int×Int)} (h:fineF ds r l=true) (hi:(ds.map Dom.st).Pairwise (·<·)):l.map Prod.fst=ds.map Dom.st:=by
 simp only[fineF,okF,Bool.and_eq_true,List.all_eq_true] at h
 obtain⟨h1,h2,h3,_⟩:=h
 have hv:=(vlGo_iff l none).1 h1
 refine inc_ext (List.pairwise_map.2 hv.2) hi (fun x=>⟨fun hx=>?_,fun hx=>?_⟩)
 ·obtain⟨y,hy,rfl⟩:=List.mem_map.1 hx
  have:=h3 y hy
  rw[inD_mem] at this
  exact of_decide_eq_true this
 ·obtain⟨d,hd,rfl⟩:=List.mem_map.1 hx
  have:=h2 d hd
  refine onF_mem (fun h0=>?_)
  simp[bdF,h0] at this
theorem fine_ch {ds:List Dom} {r:Rul} {l:List (Int×Int)} (h:fineF ds r l=true) (hi:(ds.map Dom.st).Pairwise (·<·)) (k:Nat) (d:Dom) (x:Int×Int) (hd:ds[k]?=some d) (hx:l[k]?=some x):x.2∈d.chs:=by
 have hs:=fine_st h hi
 have hst:x.1=d.st:=by
  have h1:(l.map Prod.fst)[k]?=some x.1:=by rw[List.getElem?_map,hx];rfl
  have h2:(ds.map Dom.st)[k]?=some d.st:=by rw[List.getElem?_map,hd];rfl
  rw[hs,h2] at h1
  exact(Option.some.inj h1).symm
 simp only[fineF,okF,Bool.and_eq_true,List.all_eq_true] at h
 obtain⟨h1,h2,_⟩:=h
 have hv:=(vlGo_iff l none).1 h1
 have hon:=onF_at hv.2 x (List.mem_of_getElem? hx)
 have:=h2 d (List.mem_of_getElem? hd)
 unfold bdF at this
 rw[←hst,hon] at this
 have hc:=(hv.1 x (List.mem_of_getElem? hx)).2.1
 have hc0:x.2≠0:=by omega
 simp[hc0] at this
 rw[hasL_mem] at this
 exact of_decide_eq_true this
theorem st_bit (l:List Int) (k:Nat):(stS l).testBit k=l.any (fun i=>i.toNat == k):=by unfold stS;rw[stS_bit];simp
theorem sub_iff {a b:List Int} (ha:∀ y∈a,0≤y∧y<512) (hb:∀ y∈b,0≤y∧y<512):mi (stS a) (stS b)=0↔∀ x∈a,x∈b:=by
 constructor
 ·intro h x hx
  have h1:(mi (stS a) (stS b)).testBit x.toNat=false:=by rw[h,Nat.zero_testBit]
  rw[mi_tb,st_bit,st_bit] at h1
  have h2:a.any (fun i=>i.toNat == x.toNat)=true:=List.any_eq_true.2 ⟨x,hx,by simp⟩
  rw[h2,Bool.true_and,Bool.not_eq_false'] at h1
  obtain⟨y,hy,e⟩:=List.any_eq_true.1 h1
  have e:y.toNat=x.toNat:=by simpa using e
  have:=ha x hx;have:=hb y hy
  have:y=x:=by omega
  rw[←this];exact hy
 ·intro h
  apply Nat.eq_of_testBit_eq
  intro k
  rw[Nat.zero_testBit,mi_tb,st_bit,st_bit]
  cases hk:a.any (fun i=>i.toNat == k) with
  | false=>rfl
  | true=>
   obtain⟨y,hy,e⟩:=List.any_eq_true.1 hk
   rw[Bool.true_and,Bool.not_eq_false']
   exact List.any_eq_true.2 ⟨y,h y hy,e⟩
theorem st_say {ds es:List Dom} (h:ds.map Dom.say=es.map Dom.say):ds.map Dom.st=es.map Dom.st:=by
 have:=congrArg (List.map Prod.fst) h
 simpa[List.map_map,Function.comp_def,Dom.say] using this
theorem all_say {ds es:List Dom} (f:Int×List Int→Bool) (h:ds.map Dom.say=es.map Dom.say):ds.all (fun d=>f (Dom.say d))=es.all (fun d=>f (Dom.say d)):=by
 have:∀ l:List Dom,l.all (fun d=>f (Dom.say d))=(l.map Dom.say).all f:=fun l=>by rw[List.all_map];rfl
 rw[this,this,h]
theorem inc_say:∀ {ds es:List Dom},ds.map Dom.say=es.map Dom.say→incF (fun x y:Dom=>cmpF x.st y.st) ds=incF (fun x y:Dom=>cmpF x.st y.st) es:=by
 have key:∀ l:List Dom,incF (fun x y:Dom=>cmpF x.st y.st) l=incF cmpF (l.map Dom.st):=by
  intro l
  induction l with
  | nil=>rfl
  | cons x r ih=>
   cases r with
   | nil=>rfl
   | cons y r=>simp only[List.map_cons] at ih ⊢;unfold incF;rw[ih]
 intro ds es h
 rw[key,key,st_say h]
theorem valid_say {ds es:List Dom} (h:ds.map Dom.say=es.map Dom.say) (r:Rul):validP ds r=validP es r:=by
 unfold validP validD
 rw[st_say h,inc_say h]
 have:=all_say (fun d=>stF d.1&&d.2.all chGood&&incF cmpF d.2) h
 have e:∀ l:List Dom,l.all goodD=l.all (fun d=>(fun d:Int×List Int=>stF d.1&&d.2.all chGood&&incF cmpF d.2) (Dom.say d)):=fun l=>rfl
 rw[e ds,e es,this]
theorem ok_say {ds es:List Dom} (h:ds.map Dom.say=es.map Dom.say) (r:Rul) (l:List (Int×Int)) (a:Bool):okF ds r l a=okF es r l a:=by
 unfold okF
 have h1:=all_say (fun d=>!((decide (onF l d.1=0)&&a)||(!decide (onF l d.1=0)&&!hasL d.2 (onF l d.1)))) h
 have e1:∀ l':List Dom,l'.all (fun d=>!bdF a l d)=l'.all (fun d=>(fun d:Int×List Int=>!((decide (onF l d.1=0)&&a)||(!decide (onF l d.1=0)&&!hasL d.2 (onF l d.1)))) (Dom.say d)):=fun l'=>rfl
 have e2:∀ x:Int,inD ds x=inD es x:=fun x=>by rw[inD_mem,inD_mem,st_say h]
 have e3:inD ds=inD es:=funext e2
 rw[e1 ds,e1 es,h1,e3]
def resD (S:Nat) (ds:List Dom):List Dom:=ds.filter fun d=>hasS S d.st
theorem rest_valid {ds es:List Dom} {r:Rul} {L:List Int} (h:validP ds r=true) (he:es.map Dom.say=(resD (stS L) ds).map Dom.say):validP es (resR (stS L) r)=true:=by
 rw[valid_say he]
 have hst:=valid_st h
 unfold validP validD at h ⊢
 simp only[Bool.and_eq_true] at h ⊢
 obtain⟨⟨⟨h1,h2⟩,h3⟩,h4,h5,h6⟩:=h
 have hmem:∀ x:Int,hasS (stS L) x=true→x∈ds.map Dom.st→hasS (stS ((resD (stS L) ds).map Dom.st)) x=true:=by
  intro x hx hm
  rw[hasS_mem (fun y hy=>by
   obtain⟨d,hd,rfl⟩:=List.mem_map.1 hy
   exact hst.1 _ (List.mem_map.2 ⟨d,(List.mem_filter.1 hd).1,rfl⟩)),decide_eq_true_eq]
  obtain⟨d,hd,rfl⟩:=List.mem_map.1 hm
  exact List.mem_map.2 ⟨d,List.mem_filter.2 ⟨hd,hx⟩,rfl⟩
 have hin:∀ x:Int,hasS (stS (ds.map Dom.st)) x=true→x∈ds.map Dom.st:=fun x hx=>by rw[hasS_mem hst.1,decide_eq_true_eq] at hx;exact hx
 rw[List.all_eq_true] at h4 h5 h6
 refine⟨⟨⟨?_,?_⟩,?_⟩,?_,?_,?_⟩
 ·rw[List.all_eq_true] at h1 ⊢
  exact fun d hd=>h1 d (List.mem_filter.1 hd).1
 ·exact rules_filter h2 _ _ _
 ·exact incF_filter (fun x y:Dom=>cmpF x.st y.st) (fun d=>[d.st]) (fun x y=>cmpF_less x.st y.st) _ h3
 ·rw[List.all_eq_true]
  intro x hx
  obtain⟨hx1,hx2⟩:=List.mem_filter.1 hx
  have:=h4 x hx1
  simp only[Bool.and_eq_true] at this hx2 ⊢
  exact⟨hmem _ hx2.1 (hin _ this.1),hmem _ hx2.2 (hin _ this.2)⟩
 ·rw[List.all_eq_true]
  intro x hx
  obtain⟨hx1,hx2⟩:=List.mem_filter.1 hx
  have:=h5 x hx1
  simp only[Bool.and_eq_true] at this hx2 ⊢
  exact⟨hmem _ hx2.1 (hin _ this.1),hmem _ hx2.2 (hin _ this.2)⟩
 ·rw[List.all_eq_true]
  intro x hx
  obtain⟨hx1,hx2⟩:=List.mem_filter.1 hx
  exact hmem _ hx2 (hin _ (h6 x hx1))
structure VPr (ds:List Dom) (r:Rul):Prop where
 dom:∀ d∈ds,(∀ c∈d.chs,2≤c∧c≤51)∧d.chs.Pairwise (·<·)
 prs:∀ x∈r.pairs,(x.a∈ds.map Dom.st∧x.b∈ds.map Dom.st)∧(-1≤x.c∧x.c≤1)∧2≤x.d∧x.d≤x.e∧x.e≤51
 lds:∀ x∈r.loads,(x.a∈ds.map Dom.st∧x.b∈ds.map Dom.st)∧(1≤x.c∧x.c≤1073741824)∧2≤x.d∧x.d≤x.e∧x.e≤51
 cps:∀ x∈r.caps,x.a∈ds.map Dom.st∧(0≤x.b∧x.b≤1099511627776)∧2≤x.c∧x.c≤x.d∧x.d≤51
 sts:(∀ y∈ds.map Dom.st,0≤y∧y<512)∧ds.length≤512∧(∀ d∈ds,d.chs.length≤50)∧r.pairs.length≤4096∧r.loads.length≤1024∧r.caps.length≤1024
 up:(ds.map Dom.st).Pairwise (·<·)
theorem vpr {ds:List Dom} {r:Rul} (h:validP ds r=true):VPr ds r:=by
 have hst:=valid_st h
 have hup:=valid_inc h
 unfold validP validD rulesF goodP goodL goodC goodD spF chGood at h
 simp only[Bool.and_eq_true,List.all_eq_true,decide_eq_true_eq] at h
 obtain⟨⟨⟨h1,h2⟩,h3⟩,h4,h5,h6⟩:=h
 have hs:∀ x:Int,hasS (stS (ds.map Dom.st)) x=true→x∈ds.map Dom.st:=fun x hx=>by rw[hasS_mem hst.1,decide_eq_true_eq] at hx;exact hx
 refine⟨fun d hd=>⟨fun c hc=>(h1 d hd).1.2 c hc,?_⟩,fun x hx=>⟨⟨hs _ (h4 x hx).1,hs _ (h4 x hx).2⟩,?_⟩,fun x hx=>⟨⟨hs _ (h5 x hx).1,hs _ (h5 x hx).2⟩,?_⟩,fun x hx=>⟨hs _ (h6 x hx),?_⟩,hst,hup⟩
 ·have:=(h1 d hd).2
  rw[incF_pair cmpF (fun x=>[x]) cmpF_less] at this
  refine this.imp (fun {a b} hab=>?_)
  unfold lessL at hab
  split at hab
  ·exact of_decide_eq_true hab
  ·cases hab
 ·have:=h2.1.1.1.1.1.1.1.2 x hx;omega
 ·have:=h2.1.1.1.1.2 x hx;omega
 ·have:=h2.1.2 x hx;omega
def capF (caps:List R4) (s c:Int):Bool:=caps.any fun x=>decide (x.a=s)&&(decide (x.c≤c)&&decide (c≤x.d))
def ldB (caps:List R4) (s c t:Int) (x:R5):Bool:=((decide (x.a=s)&&decide (x.b=t))||(decide (x.a=t)&&decide (x.b=s)))&&(decide (x.d≤c)&&(decide (c≤x.e)&&capF caps x.a c))
def blkd (r:Rul) (s c t d:Int):Bool:=if s=t then false else r.pairs.any (fun x=>bpF x [(s,c),(t,d)])||(decide (c=d)&&r.loads.any (ldB r.caps s c t))
abbrev Dms:=List (Int×List Int)
def chsOf (D:Dms) (s:Int):List Int:=((D.find? fun d=>decide (d.1=s)).map (·.2)).getD []
def cntB (r:Rul) (s:Int) (own:List Int) (t d:Int):Nat:=own.countP fun c=>blkd r s c t d
def blN (D:Dms) (r:Rul) (s t:Int):Nat:=(chsOf D t).foldl (fun m d=>max m (cntB r s (chsOf D s) t d)) 0
def easyF (D:Dms) (r:Rul) (set:List Int) (s:Int):Bool:=decide ((set.map (blN D r s)).sum<(chsOf D s).length)
def peelG (D:Dms) (r:Rul):Nat→List Int→List Int→List Int×List Int
 | 0,out,set=>(out,set)
 | f+1,out,set=>match set.find? (easyF D r set) with
  | none=>(out,set)
  | some s=>peelG D r f (out++[s]) (set.filter fun x=>!decide (x=s))
def peelF (D:Dms) (r:Rul):List Int×List Int:=peelG D r D.length [] (D.map Prod.fst)
theorem max_fold_le {α:Type} (f:α→Nat) (l:List α) (m n:Nat) (hm:m≤n) (h:∀ x∈l,f x≤n):l.foldl (fun m x=>max m (f x)) m≤n:=by
 induction l generalizing m with
 | nil=>exact hm
 | cons x q ih=>rw[List.foldl_cons];exact ih _ (Nat.max_le.2 ⟨hm,h x (by simp)⟩) (fun y hy=>h y (by simp[hy]))
theorem le_max_fold {α:Type} (f:α→Nat) (l:List α) (m:Nat):m≤l.foldl (fun m x=>max m (f x)) m∧∀ x∈l,f x≤l.foldl (fun m x=>max m (f x)) m:=by
 induction l generalizing m with
 | nil=>exact⟨Nat.le_refl _,fun _ h=>(by cases h)⟩
 | cons x q ih=>
  rw[List.foldl_cons]
  obtain⟨h1,h2⟩:=ih (max m (f x))
  refine⟨Nat.le_trans (Nat.le_max_left ..) h1,fun y hy=>?_⟩
  rcases List.mem_cons.1 hy with rfl | hy
  ·exact Nat.le_trans (Nat.le_max_right ..) h1
  ·exact h2 y hy
theorem max_fold_congr {α:Type} (f g:α→Nat) (l:List α) (m:Nat) (h:∀ x∈l,f x=g x):l.foldl (fun m x=>max m (f x)) m=l.foldl (fun m x=>max m (g x)) m:=by
 induction l generalizing m with
 | nil=>rfl
 | cons x q ih=>rw[List.foldl_cons,List.foldl_cons,h x (by simp)];exact ih _ (fun y hy=>h y (by simp[hy]))
theorem cnt_le_blk {D:Dms} {r:Rul} {s t d:Int} (hd:d∈chsOf D t):cntB r s (chsOf D s) t d≤blN D r s t:=(le_max_fold (fun d=>cntB r s (chsOf D s) t d) (chsOf D t) 0).2 d hd
theorem blk_le (D:Dms) (r:Rul) (s t:Int):blN D r s t≤(chsOf D s).length:=max_fold_le _ _ _ _ (Nat.zero_le _) (fun _ _=>List.countP_le_length)
def linkF (r:Rul) (a b:Int):Bool:=r.pairs.any (fun x=>(decide (x.a=a)&&decide (x.b=b))||(decide (x.a=b)&&decide (x.b=a)))||r.loads.any (fun x=>(decide (x.a=a)&&decide (x.b=b))||(decide (x.a=b)&&decide (x.b=a)))
theorem link_comm (r:Rul) (a b:Int):linkF r a b=linkF r b a:=by
 unfold linkF
 congr 1<;>(congr 1;funext x;rw[Bool.or_comm])
theorem bp_two {x:R5} (hx:x.a≠x.b) {s c t d:Int} (h:bpF x [(s,c),(t,d)]=true):(x.a=s∧x.b=t)∨(x.a=t∧x.b=s):=by
 unfold bpF at h
 simp only[Bool.and_eq_true,Bool.not_eq_true',decide_eq_false_iff_not] at h
 obtain⟨h1,h2,_⟩:=h
 have on:∀ n,onF [(s,c),(t,d)] n≠0→n=s∨n=t:=by
  intro n hn
  simp only[onF] at hn
  split at hn
  ·rename_i e;exact .inl e.symm
  ·split at hn
   ·rename_i e;exact .inr e.symm
   ·exact absurd rfl hn
 rcases on _ h1 with a1 | a1<;>rcases on _ h2 with a2 | a2
 ·exact absurd (a1.trans a2.symm) hx
 ·exact .inl ⟨a1,a2⟩
 ·exact .inr ⟨a1,a2⟩
 ·exact absurd (a1.trans a2.symm) hx
theorem blkd_link {r:Rul} (hp:∀ x∈r.pairs,x.a≠x.b) {s c t d:Int} (h:blkd r s c t d=true):linkF r s t=true:=by
 unfold blkd at h
 split at h
 ·cases h
 ·unfold linkF
  rw[Bool.or_eq_true] at h ⊢
  rcases h with h | h
  ·refine .inl ?_
   obtain⟨x,hx,hb⟩:=List.any_eq_true.1 h
   refine List.any_eq_true.2 ⟨x,hx,?_⟩
   rw[Bool.or_eq_true,Bool.and_eq_true,Bool.and_eq_true,decide_eq_true_eq,decide_eq_true_eq,decide_eq_true_eq,decide_eq_true_eq]
   exact bp_two (hp x hx) hb
  ·refine .inr ?_
   rw[Bool.and_eq_true] at h
   obtain⟨x,hx,hb⟩:=List.any_eq_true.1 h.2
   refine List.any_eq_true.2 ⟨x,hx,?_⟩
   unfold ldB at hb
   rw[Bool.and_eq_true] at hb
   exact hb.1
theorem blk_link {D:Dms} {r:Rul} (hp:∀ x∈r.pairs,x.a≠x.b) {s t:Int} (h:linkF r s t=false):blN D r s t=0:=by
 refine Nat.le_antisymm (max_fold_le _ _ _ _ (Nat.le_refl _) (fun x _=>?_)) (Nat.zero_le _)
 unfold cntB
 rw[List.countP_eq_zero.2]
 ·exact Nat.le_refl _
 ·intro c _ hb
  rw[blkd_link hp hb] at h;cases h
theorem sum_le_of {α:Type} (f g:α→Nat):∀ l:List α,(∀ x∈l,f x≤g x)→(l.map f).sum≤(l.map g).sum
 | [],_=>Nat.le_refl _
 | x::r,h=>by
  rw[List.map_cons,List.map_cons,List.sum_cons,List.sum_cons]
  exact Nat.add_le_add (h x (by simp)) (sum_le_of f g r (fun y hy=>h y (by simp[hy])))
theorem peelG_spec (D:Dms) (r:Rul):∀(f:Nat) (out set:List Int),(∃ p:Int→Bool,(peelG D r f out set).2=set.filter p)∧(∃ q,(peelG D r f out set).1=out++q):=by
 intro f
 induction f with
 | zero=>intro out set;exact⟨⟨fun _=>true,(List.filter_eq_self.2 (fun _ _=>rfl)).symm⟩,⟨[],by simp[peelG]⟩⟩
 | succ f ih=>
  intro out set
  rw[peelG]
  split
  ·exact⟨⟨fun _=>true,(List.filter_eq_self.2 (fun _ _=>rfl)).symm⟩,⟨[],by simp⟩⟩
  ·rename_i s _
   obtain⟨⟨p,hp⟩,⟨q,hq⟩⟩:=ih (out++[s]) (set.filter fun x=>!decide (x=s))
   refine⟨⟨fun x=>p x&&!decide (x=s),by rw[hp,List.filter_filter]⟩,⟨s::q,by rw[hq];simp⟩⟩
theorem peelG_mem (D:Dms) (r:Rul):∀(f:Nat) (out set:List Int) (x:Int),(x∈(peelG D r f out set).1∨x∈(peelG D r f out set).2)↔(x∈out∨x∈set):=by
 intro f
 induction f with
 | zero=>intro out set x;rfl
 | succ f ih=>
  intro out set x
  rw[peelG]
  split
  ·rfl
  ·rename_i s hs
   have hs:=List.mem_of_find?_eq_some hs
   rw[ih]
   simp only[List.mem_append,List.mem_singleton,List.mem_filter,Bool.not_eq_true',decide_eq_false_iff_not]
   constructor
   ·rintro((h | rfl) | h)
    ·exact .inl h
    ·exact .inr hs
    ·exact .inr h.1
   ·rintro(h | h)
    ·exact .inl (.inl h)
    ·by_cases hx:x=s
     ·exact .inl (.inr hx)
     ·exact .inr ⟨h,hx⟩
theorem peelG_disj (D:Dms) (r:Rul):∀(f:Nat) (out set:List Int),(∀ x∈out,x∉set)→∀ x∈(peelG D r f out set).1,x∉(peelG D r f out set).2:=by
 intro f
 induction f with
 | zero=>intro out set h;exact h
 | succ f ih=>
  intro out set h
  rw[peelG]
  split
  ·exact h
  ·rename_i s hs
   refine ih _ _ (fun x hx hm=>?_)
   obtain⟨h1,h2⟩:=List.mem_filter.1 hm
   rcases List.mem_append.1 hx with hx | hx
   ·exact h x hx h1
   ·rw[List.mem_singleton] at hx;simp[hx] at h2
theorem peelG_none {D:Dms} {r:Rul} {set:List Int} (h:∀ s∈set,easyF D r set s=false) (f:Nat) (out:List Int):peelG D r f out set=(out,set):=by
 cases f with
 | zero=>rfl
 | succ f=>rw[peelG,List.find?_eq_none.2 (fun s hs=>by rw[h s hs];simp)]
theorem peelG_out (D:Dms) (r:Rul):∀(f:Nat) (out set:List Int),peelG D r f out set=(out++(peelG D r f [] set).1,(peelG D r f [] set).2):=by
 intro f
 induction f with
 | zero=>intro out set;simp[peelG]
 | succ f ih=>
  intro out set
  rw[peelG,peelG]
  split
  ·simp
  ·rw[ih,ih ([]++[_])];simp
theorem peelG_at (D:Dms) (r:Rul):∀(f:Nat) (set:List Int),set.Nodup→∀(k:Nat) (s:Int),(peelG D r f [] set).1[k]?=some s →
  ∃ T:List Int,easyF D r T s=true∧T.Nodup∧s∈T∧(∀ x,x∈T↔(x∈(peelG D r f [] set).1.drop k∨x∈(peelG D r f [] set).2))∧T.Sublist set:=by
 intro f
 induction f with
 | zero=>intro set _ k s hk;simp[peelG] at hk
 | succ f ih=>
  intro set hnd k s hk
  rw[peelG] at hk ⊢
  cases hu:set.find? (easyF D r set) with
  | none=>rw[hu] at hk;simp at hk
  | some u=>
   rw[hu] at hk
   dsimp only at hk ⊢
   have hmu:=List.mem_of_find?_eq_some hu
   rw[peelG_out] at hk ⊢
   cases k with
   | zero=>
    simp only[List.nil_append,List.singleton_append,List.getElem?_cons_zero,Option.some.injEq] at hk
    subst hk
    refine⟨set,List.find?_some hu,hnd,hmu,fun x=>?_,List.Sublist.refl _⟩
    have hm:=peelG_mem D r f [] (set.filter fun x=>!decide (x=u)) x
    simp only[List.nil_append,List.singleton_append,List.drop_zero,List.mem_cons,or_assoc,hm,List.mem_filter,Bool.not_eq_true',decide_eq_false_iff_not,List.not_mem_nil,false_or]
    constructor
    ·intro h
     by_cases e:x=u
     ·exact .inl e
     ·exact .inr ⟨h,e⟩
    ·rintro(rfl | h)
     ·exact hmu
     ·exact h.1
   | succ k=>
    simp only[List.nil_append,List.singleton_append,List.getElem?_cons_succ] at hk
    obtain⟨T,h1,h2,h5,h3,h4⟩:=ih (set.filter fun x=>!decide (x=u)) (hnd.filter _) k s hk
    exact⟨T,h1,h2,h5,fun x=>by rw[h3];simp,h4.trans List.filter_sublist⟩
theorem capped_any (s:PrbS) (st c:Int) (w:World) (ds:List Dom) (r:Rul) (hcl:r.caps.length≤100000) (h:PrbAt w w.heap.size s ds r):
  Calls Tryz.prog 101 #[s.val,.int .i64 st,.int .i64 c] w (RetPost (.bool (capF r.caps st c)) w.heap.size w):=by
 obtain⟨R,hR⟩:∃ R,R=capF r.caps st c:=⟨_,rfl⟩
 have HRV:=Lib.hid hR
 rw[←hR]
 clear hR
 obtain⟨Ad,nd,cd,⟨A0,n0,c0,A1,n1,c1,A2,n2,c2⟩⟩:=s
 have hrl:r.caps.length=n2:=h.2.2.2.1.1
 have HRL:=Eqn.mk hrl
 have HC:=Lib.hid h.2.2.2.1
 dsimp only at HC
 have hn2:n2≤100000:=by omega
 unfold PrbS.val
 dsimp only
 clear h hrl hcl
 obtain⟨W0,hW0⟩:∃ W0,W0=w.alloc (.cells #[.slice Ad nd cd,.slice A0 n0 c0,.slice A1 n1 c1,.slice A2 n2 c2] 29):=⟨_,rfl⟩
 have HB0:Hid (Below w.heap.size w W0):=Lib.hid (by rw[hW0];exact(Below.refl _ w).alloc (Nat.le_refl _) _)
 have HX:Hid (Blk W0 w.heap.size 29 [.slice Ad nd cd,.slice A0 n0 c0,.slice A1 n1 c1,.slice A2 n2 c2]):=Lib.hid (by rw[hW0];exact blk_new w _ _)
 go_enter Tryz.func101,Tryz.ntmps101
 go_upto_region 2 with fail
 rw[←hW0]
 clear hW0
 go_loopw [7] (fun iv wr=>∃ k:Nat,k≤n2∧iv=.int .i64 k∧(r.caps.take k).any (fun x=>decide (x.a=st)&&(decide (x.c≤c)&&decide (c≤x.d)))=false∧Below W0.heap.size W0 wr) (fun iv _=>n2 - (intOf iv).toNat)
 case atStart=>exact⟨0,Nat.zero_le _,rfl,by rw[List.take_zero];rfl,Below.refl _ _⟩
 case round=>
  obtain⟨k,hk,rfl,hno,hbw⟩:=hrel
  have HNO:=Lib.hid hno
  have HBW:=Lib.hid hbw
  have q3:=(HX.out.keep hbw).cell (i:=3) rfl
  have q4:=(HX.out.keep hbw).lt
  by_cases hkl:k<n2
  ·have j0:(k:Int)<(n2:Int):=by omega
   obtain⟨x,hx⟩:∃ x,r.caps[k]?=some x:=⟨_,List.getElem?_eq_getElem (by have:=HRL.out;omega)⟩
   obtain⟨b3,o3,rfl,hb3,hcell⟩:=((HC.out.keep HB0.out).keep hbw).2 (by omega)
   have y0:wr.cell? ⟨b3,o3+k * 4,none⟩=some (.int .i64 x.a):=hcell k x hx 0 (by decide)
   have y1:wr.cell? ⟨b3,o3+k * 4+1,none⟩=some (.int .i64 x.b):=hcell k x hx 1 (by decide)
   have y2:wr.cell? ⟨b3,o3+k * 4+2,none⟩=some (.int .i64 x.c):=hcell k x hx 2 (by decide)
   have y3:wr.cell? ⟨b3,o3+k * 4+3,none⟩=some (.int .i64 x.d):=hcell k x hx 3 (by decide)
   have HTK:Hid ((r.caps.take (k+1)).any (fun x=>decide (x.a=st)&&(decide (x.c≤c)&&decide (c≤x.d)))=(decide (x.a=st)&&(decide (x.c≤c)&&decide (c≤x.d)))):=Lib.hid (by rw[List.take_add_one,hx,Option.toList_some,List.any_append,HNO.out];simp)
   have HHI:Hid ((decide (x.a=st)&&(decide (x.c≤c)&&decide (c≤x.d)))=true→R=true):=Lib.hid (fun hh=>by
    rw[HRV.out];unfold capF;exact List.any_eq_true.2 ⟨x,List.mem_of_getElem? hx,hh⟩)
   obtain⟨xa,xb,xc,xd⟩:=x
   dsimp only at y0 y1 y2 y3 HTK HHI
   obtain⟨V1,hV1⟩:∃ V,V=wr.alloc (.cells #[.int .i64 xa,.int .i64 xb,.int .i64 xc,.int .i64 xd] 71):=⟨_,rfl⟩
   obtain⟨p8,hp8⟩:∃ p,p=wr.heap.size:=⟨_,rfl⟩
   have HBV:Hid (Below W0.heap.size W0 V1):=Lib.hid (by rw[hV1];exact hbw.alloc hbw.size _)
   have hXN:Blk V1 p8 71 [.int .i64 xa,.int .i64 xb,.int .i64 xc,.int .i64 xd]:=by rw[hV1,hp8];exact blk_new wr _ _
   have z0:=hXN.cell (i:=0) rfl
   have z2:=hXN.cell (i:=2) rfl
   have z3:=hXN.cell (i:=3) rfl
   have z4:=hXN.lt
   clear hXN hcell hx hno hbw
   go_upto_region 5 with fail
   rw[←hV1,←hp8]
   clear hV1 hp8 y0 y1 y2 y3 q3 q4
   by_cases e1:xa=st
   ·by_cases e2:xc≤c
    ·by_cases e3:c≤xd
     ·obtain rfl:R=true:=HHI.out (by simp[e1,e2,e3])
      go_wp2_with fail
      go_ret
      exact⟨rfl,HB0.out.trans (HBV.out.mono HB0.out.size)⟩
     ·have hKF:Hid ((r.caps.take (k+1)).any (fun x=>decide (x.a=st)&&(decide (x.c≤c)&&decide (c≤x.d)))=false):=Lib.hid (by rw[HTK.out];simp[e3])
      go_wp2_with fail
      go_roundw
      case rel=>exact⟨k+1,hkl,by go_num,hKF.out,HBV.out⟩
      case measure=>simp[intOf];omega
    ·have hKF:Hid ((r.caps.take (k+1)).any (fun x=>decide (x.a=st)&&(decide (x.c≤c)&&decide (c≤x.d)))=false):=Lib.hid (by rw[HTK.out];simp[e2])
     go_wp2_with fail
     go_roundw
     case rel=>exact⟨k+1,hkl,by go_num,hKF.out,HBV.out⟩
     case measure=>simp[intOf];omega
   ·have hKF:Hid ((r.caps.take (k+1)).any (fun x=>decide (x.a=st)&&(decide (x.c≤c)&&decide (c≤x.d)))=false):=Lib.hid (by rw[HTK.out];simp[e1])
    go_wp2_with fail
    go_roundw
    case rel=>exact⟨k+1,hkl,by go_num,hKF.out,HBV.out⟩
    case measure=>simp[intOf];omega
  ·obtain rfl:k=n2:=by omega
   have j0:¬((k:Nat):Int)<(k:Int):=by omega
   have hRF:Hid (R=false):=Lib.hid (by
    rw[List.take_of_length_le (by rw[HRL.out];exact Nat.le_refl _)] at hno
    rw[HRV.out];exact hno)
   obtain rfl:R=false:=hRF.out
   clear hno hbw
   go_wp2_with fail
   go_ret
   exact⟨rfl,HB0.out.trans (HBW.out.mono HB0.out.size)⟩
theorem rowS_blk {α:Type} {sz:Nat} {f:α→Nat→Value} {W:World} {b t D:Nat} {s:List Value} (xs:List α) (h:Blk W b t s) (hs:s=flat sz f xs) (hD:b<D):RowS sz f W D (some ⟨b,0,none⟩) xs.length xs:=by
 subst hs
 refine⟨rfl,fun _=>⟨b,0,rfl,hD,fun k x hk j hj=>?_⟩⟩
 rw[Nat.zero_add]
 exact h.cell (flat_at sz f xs k x hk j hj)
theorem any_ff {α:Type} {p:α→Bool} {l:List α} {k:Nat} {x:α} (hx:l[k]?=some x) (h:(l.take k).any p=false) (hn:p x=false):(l.take (k+1)).any p=false:=by
 rw[List.take_add_one,hx,Option.toList_some,List.any_append,h];simp[hn]
theorem any_tt {α:Type} {p:α→Bool} {l:List α} {k:Nat} {x:α} (hx:l[k]?=some x) (h:p x=true):l.any p=true:=List.any_eq_true.2 ⟨x,List.mem_of_getElem? hx,h⟩
theorem rblocked_any (ps:PrbS) (s c t d:Int) (w:World) (ds:List Dom) (r:Rul) (hpl:r.pairs.length≤100000) (hll:r.loads.length≤100000) (hcl:r.caps.length≤100000) (h:PrbAt w w.heap.size ps ds r):
  Calls Tryz.prog 52 #[ps.val,.int .i64 s,.int .i64 c,.int .i64 t,.int .i64 d] w (RetPost (.bool (blkd r s c t d)) w.heap.size w):=by
 have HCP:=Lib.hid (fun x W (hb:Below w.heap.size w W)=>capped_any ps x c W ds r hcl ⟨h.1.keep hb,h.2.keep hb⟩)
 have HBP:=Lib.hid (fun (x:R5) (g:Nat) (W:World) (hbk:Blk W g 75 [.int .i64 s,.int .i64 c,.int .i64 t,.int .i64 d])=>rbp_any x (some ⟨g,0,none⟩) 2 2 W [(s,c),(t,d)] (by decide) (rowS_blk [(s,c),(t,d)] hbk rfl hbk.lt))
 obtain⟨R,hR⟩:∃ R,R=blkd r s c t d:=⟨_,rfl⟩
 have HRV:=Lib.hid hR
 rw[←hR]
 clear hR
 obtain⟨Ad,nd,cd,⟨A0,n0,c0,A1,n1,c1,A2,n2,c2⟩⟩:=ps
 have HL0:=Eqn.mk h.2.1.1
 have HL1:=Eqn.mk h.2.2.1.1
 have HC0:=Lib.hid h.2.1
 have HC1:=Lib.hid h.2.2.1
 unfold PrbS.val at *
 dsimp only at HC0 HC1 HL0 HL1 HCP ⊢
 unfold R5.val at HBP
 have hn0:n0≤100000:=by have:=HL0.out;omega
 have hn1:n1≤100000:=by have:=HL1.out;omega
 clear h hpl hll hcl
 obtain⟨W0,hW0⟩:∃ W0,W0=w.alloc (.cells #[.slice Ad nd cd,.slice A0 n0 c0,.slice A1 n1 c1,.slice A2 n2 c2] 29):=⟨_,rfl⟩
 have HB0:Hid (Below w.heap.size w W0):=Lib.hid (by rw[hW0];exact(Below.refl _ w).alloc (Nat.le_refl _) _)
 have HX0:Hid (Blk W0 w.heap.size 29 [.slice Ad nd cd,.slice A0 n0 c0,.slice A1 n1 c1,.slice A2 n2 c2]):=Lib.hid (by rw[hW0];exact blk_new w _ _)
 go_enter Tryz.func52,Tryz.ntmps52
 go_upto_region 1 with fail
 rw[←hW0]
 clear hW0
 by_cases hst:s=t
 ·have HRE:Hid (R=false):=Lib.hid (by rw[HRV.out];unfold blkd;rw[if_pos hst])
  have d0:(s == t)=true:=by simpa using hst
  clear hst
  go_wp2_with fail
  go_ret
  exact⟨ret_bool HRE.out.symm,HB0.out⟩
 have HST:=Lib.hid hst
 have d0:(s == t)=false:=by simpa using hst
 have HRE:Hid (R=(r.pairs.any (fun x=>bpF x [(s,c),(t,d)])||(decide (c=d)&&r.loads.any (ldB r.caps s c t)))):=Lib.hid (by rw[HRV.out];unfold blkd;rw[if_neg hst])
 obtain⟨p11,hp11⟩:∃ p,p=W0.heap.size:=⟨_,rfl⟩
 obtain⟨W1,hW1⟩:∃ W,W=W0.alloc (.cells #[.int .i64 s,.int .i64 c,.int .i64 t,.int .i64 d] 75):=⟨_,rfl⟩
 have HB1:Hid (Below w.heap.size w W1):=Lib.hid (by rw[hW1];exact HB0.out.alloc HB0.out.size _)
 have HX:Hid (Blk W1 w.heap.size 29 [.slice Ad nd cd,.slice A0 n0 c0,.slice A1 n1 c1,.slice A2 n2 c2]):=Lib.hid (by rw[hW1];exact HX0.out.alloc _)
 have HY:Hid (Blk W1 p11 75 [.int .i64 s,.int .i64 c,.int .i64 t,.int .i64 d]):=Lib.hid (by rw[hW1,hp11];exact blk_new W0 _ _)
 clear HX0 HB0 HRV hst
 go_upto_region 4 with fail
 rw[←hW1,←hp11]
 clear hW1 hp11
 go_wp2_with fail
 go_loopw [12] (fun iv wr=>∃ k:Nat,k≤n0∧iv=.int .i64 k∧(r.pairs.take k).any (fun x=>bpF x [(s,c),(t,d)])=false∧Below W1.heap.size W1 wr) (fun iv _=>n0 - (intOf iv).toNat)
 case atStart=>exact⟨0,Nat.zero_le _,rfl,by rw[List.take_zero];rfl,Below.refl _ _⟩
 case round=>
  obtain⟨k,hk,rfl,hno,hbw⟩:=hrel
  have HNO:=Lib.hid hno
  have HBW:=Lib.hid hbw
  have q1:=(HX.out.keep hbw).cell (i:=1) rfl
  have q4:=(HX.out.keep hbw).lt
  by_cases hkl:k<n0
  ·have j0:(k:Int)<(n0:Int):=by omega
   obtain⟨x,hx⟩:∃ x,r.pairs[k]?=some x:=⟨_,List.getElem?_eq_getElem (by have:=HL0.out;omega)⟩
   obtain⟨b3,o3,rfl,hb3,hcell⟩:=((HC0.out.keep HB1.out).keep hbw).2 (by omega)
   have y0:wr.cell? ⟨b3,o3+k * 5,none⟩=some (.int .i64 x.a):=hcell k x hx 0 (by decide)
   have y1:wr.cell? ⟨b3,o3+k * 5+1,none⟩=some (.int .i64 x.b):=hcell k x hx 1 (by decide)
   have y2:wr.cell? ⟨b3,o3+k * 5+2,none⟩=some (.int .i64 x.c):=hcell k x hx 2 (by decide)
   have y3:wr.cell? ⟨b3,o3+k * 5+3,none⟩=some (.int .i64 x.d):=hcell k x hx 3 (by decide)
   have y4:wr.cell? ⟨b3,o3+k * 5+4,none⟩=some (.int .i64 x.e):=hcell k x hx 4 (by decide)
   have HTK:=Lib.hid (fun hn=>any_ff (p:=fun x=>bpF x [(s,c),(t,d)]) hx hno hn)
   have HHI:Hid (bpF x [(s,c),(t,d)]=true→R=true):=Lib.hid (fun hh=>by
    rw[HRE.out,any_tt (p:=fun x=>bpF x [(s,c),(t,d)]) hx hh];rfl)
   have HCX:=HBP.out x p11 wr (HY.out.keep hbw)
   obtain⟨xa,xb,xc,xd,xe⟩:=x
   dsimp only at y0 y1 y2 y3 y4 HCX
   generalize bpF ⟨xa,xb,xc,xd,xe⟩ [(s,c),(t,d)]=bb at *
   clear hcell hx hno hbw
   cases bb with
   | true=>
    obtain rfl:R=true:=HHI.out rfl
    have HCX:=Lib.hid HCX
    go_wp2_with fail
    refine HCX.out.mono ?_
    rintro e W4 ⟨rfl,hb4⟩
    have HB4:=Lib.hid (HB1.out.trans ((HBW.out.trans (hb4.mono HBW.out.size)).mono HB1.out.size))
    clear hb4
    go_wp2_with fail
    go_ret
    exact⟨rfl,HB4.out⟩
   | false=>
    have HKF:=Lib.hid (HTK.out rfl)
    have HCX:=Lib.hid HCX
    go_wp2_with fail
    refine HCX.out.mono ?_
    rintro e W4 ⟨rfl,hb4⟩
    have HB4:=Lib.hid (HBW.out.trans (hb4.mono HBW.out.size))
    clear hb4 y0 y1 y2 y3 y4 q1 q4
    go_wp2_with fail
    go_roundw
    case rel=>exact⟨k+1,hkl,by go_num,HKF.out,HB4.out⟩
    case measure=>simp[intOf];omega
  ·obtain rfl:k=n0:=by omega
   have j0:¬((k:Nat):Int)<(k:Int):=by omega
   rw[List.take_of_length_le (by rw[HL0.out];exact Nat.le_refl _)] at hno
   have HNP:=Lib.hid hno
   have HBE:=Lib.hid hbw
   obtain⟨wo,rfl⟩:∃ wo:World,wo=wr:=⟨_,rfl⟩
   clear hno hbw HNO HBW
   go_wp2_with fail
   clear q1 q4
   by_cases hcd:c=d
   ·subst hcd
    have HRL:Hid (R=r.loads.any (ldB r.caps s c t)):=Lib.hid (by rw[HRE.out,HNP.out];simp)
    clear HRE HNP HBP
    go_loopw [13] (fun iv wr=>∃ k:Nat,k≤n1∧iv=.int .i64 k∧(r.loads.take k).any (ldB r.caps s c t)=false∧Below W1.heap.size W1 wr) (fun iv _=>n1 - (intOf iv).toNat)
    case atStart=>exact⟨0,Nat.zero_le _,rfl,by rw[List.take_zero];rfl,HBE.out⟩
    case round=>
     obtain⟨k,hk,rfl,hno,hbw⟩:=hrel
     have HNO:=Lib.hid hno
     have HBW:=Lib.hid hbw
     have q2:=(HX.out.keep hbw).cell (i:=2) rfl
     have q4:=(HX.out.keep hbw).lt
     by_cases hkl:k<n1
     ·have j0:(k:Int)<(n1:Int):=by omega
      obtain⟨x,hx⟩:∃ x,r.loads[k]?=some x:=⟨_,List.getElem?_eq_getElem (by have:=HL1.out;omega)⟩
      obtain⟨b3,o3,rfl,hb3,hcell⟩:=((HC1.out.keep HB1.out).keep hbw).2 (by omega)
      have y0:wr.cell? ⟨b3,o3+k * 5,none⟩=some (.int .i64 x.a):=hcell k x hx 0 (by decide)
      have y1:wr.cell? ⟨b3,o3+k * 5+1,none⟩=some (.int .i64 x.b):=hcell k x hx 1 (by decide)
      have y2:wr.cell? ⟨b3,o3+k * 5+2,none⟩=some (.int .i64 x.c):=hcell k x hx 2 (by decide)
      have y3:wr.cell? ⟨b3,o3+k * 5+3,none⟩=some (.int .i64 x.d):=hcell k x hx 3 (by decide)
      have y4:wr.cell? ⟨b3,o3+k * 5+4,none⟩=some (.int .i64 x.e):=hcell k x hx 4 (by decide)
      have HTK:=Lib.hid (fun hn=>any_ff (p:=ldB r.caps s c t) hx hno hn)
      have HHI:Hid (ldB r.caps s c t x=true→R=true):=Lib.hid (fun hh=>by
       rw[HRL.out,any_tt hx hh])
      obtain⟨xa,xb,xc,xd,xe⟩:=x
      have HLD:Hid (ldB r.caps s c t ⟨xa,xb,xc,xd,xe⟩=(((decide (xa=s)&&decide (xb=t))||(decide (xa=t)&&decide (xb=s)))&&(decide (xd≤c)&&(decide (c≤xe)&&capF r.caps xa c)))):=Lib.hid rfl
      dsimp only at y0 y1 y2 y3 y4
      obtain⟨V1,hV1⟩:∃ V,V=wr.alloc (.cells #[.int .i64 xa,.int .i64 xb,.int .i64 xc,.int .i64 xd,.int .i64 xe] 69):=⟨_,rfl⟩
      obtain⟨p8,hp8⟩:∃ p,p=wr.heap.size:=⟨_,rfl⟩
      have HBV:Hid (Below W1.heap.size W1 V1):=Lib.hid (by rw[hV1];exact hbw.alloc hbw.size _)
      have HBT:Hid (Below w.heap.size w V1):=Lib.hid (HB1.out.trans (HBV.out.mono HB1.out.size))
      have hXN:Blk V1 p8 69 [.int .i64 xa,.int .i64 xb,.int .i64 xc,.int .i64 xd,.int .i64 xe]:=by rw[hV1,hp8];exact blk_new wr _ _
      have z0:=hXN.cell (i:=0) rfl
      have z1:=hXN.cell (i:=1) rfl
      have z2:=hXN.cell (i:=3) rfl
      have z3:=hXN.cell (i:=4) rfl
      have z4:=hXN.lt
      have HXV:=Lib.hid (HX.out.keep HBV.out)
      have r0:=HXV.out.cell (i:=0) rfl
      have r1:=HXV.out.cell (i:=1) rfl
      have r2:=HXV.out.cell (i:=2) rfl
      have r3:=HXV.out.cell (i:=3) rfl
      have r4:=HXV.out.lt
      have HCX:=Lib.hid (HCP.out xa V1 HBT.out)
      generalize capF r.caps xa c=bb at *
      clear hXN hcell hx hno hbw
      go_upto_region 13 with fail
      rw[←hV1,←hp8]
      clear hV1 hp8 y0 y1 y2 y3 y4 q2 q4
      by_cases e1:xa=s
      ·have de1:(xa == s)=true:=by simpa using e1
       have e3:¬xa=t:=fun e=>HST.out (e1.symm.trans e)
       have de3:(xa == t)=false:=by simpa using e3
       by_cases e2:xb=t
       ·have de2:(xb == t)=true:=by simpa using e2
        by_cases g1:xd≤c
        ·by_cases g2:c≤xe
         ·cases bb with
          | true=>
           obtain rfl:R=true:=HHI.out (by rw[HLD.out];simp only[Bool.and_true,Bool.or_eq_true,Bool.and_eq_true,decide_eq_true_eq];omega)
           clear HLD HTK HHI e1 e2 e3
           go_wp2_with fail
           refine HCX.out.mono ?_
           rintro e W4 ⟨rfl,hb4⟩
           have HB4:=Lib.hid (HBT.out.trans (hb4.mono HBT.out.size))
           clear hb4
           go_wp2_with fail
           go_ret
           exact⟨rfl,HB4.out⟩
          | false=>
           have hKF:=Lib.hid (HTK.out (by rw[HLD.out];simp))
           clear HLD HTK HHI e1 e2 e3
           go_wp2_with fail
           refine HCX.out.mono ?_
           rintro e W4 ⟨rfl,hb4⟩
           have HB4:=Lib.hid (HBV.out.trans (hb4.mono HBV.out.size))
           clear hb4 r0 r1 r2 r3 r4 z0 z1 z2 z3 z4
           go_wp2_with fail
           go_roundw
           case rel=>exact⟨k+1,hkl,by go_num,hKF.out,HB4.out⟩
           case measure=>simp[intOf];omega
         ·have hKF:=Lib.hid (HTK.out (by rw[HLD.out,Bool.eq_false_iff];simp only[ne_eq,Bool.or_eq_true,Bool.and_eq_true,decide_eq_true_eq];omega))
          clear HLD HTK HHI e1 e2 e3
          go_wp2_with fail
          go_roundw
          case rel=>exact⟨k+1,hkl,by go_num,hKF.out,HBV.out⟩
          case measure=>simp[intOf];omega
        ·have hKF:=Lib.hid (HTK.out (by rw[HLD.out,Bool.eq_false_iff];simp only[ne_eq,Bool.or_eq_true,Bool.and_eq_true,decide_eq_true_eq];omega))
         clear HLD HTK HHI e1 e2 e3
         go_wp2_with fail
         go_roundw
         case rel=>exact⟨k+1,hkl,by go_num,hKF.out,HBV.out⟩
         case measure=>simp[intOf];omega
       ·have de2:(xb == t)=false:=by simpa using e2
        have hKF:=Lib.hid (HTK.out (by rw[HLD.out,Bool.eq_false_iff];simp only[ne_eq,Bool.or_eq_true,Bool.and_eq_true,decide_eq_true_eq];omega))
        clear HLD HTK HHI e1 e2 e3
        go_wp2_with fail
        go_roundw
        case rel=>exact⟨k+1,hkl,by go_num,hKF.out,HBV.out⟩
        case measure=>simp[intOf];omega
      ·have de1:(xa == s)=false:=by simpa using e1
       by_cases e3:xa=t
       ·have de3:(xa == t)=true:=by simpa using e3
        by_cases e4:xb=s
        ·have de4:(xb == s)=true:=by simpa using e4
         by_cases g1:xd≤c
         ·by_cases g2:c≤xe
          ·cases bb with
           | true=>
            obtain rfl:R=true:=HHI.out (by rw[HLD.out];simp only[Bool.and_true,Bool.or_eq_true,Bool.and_eq_true,decide_eq_true_eq];omega)
            clear HLD HTK HHI e1 e3 e4
            go_wp2_with fail
            refine HCX.out.mono ?_
            rintro e W4 ⟨rfl,hb4⟩
            have HB4:=Lib.hid (HBT.out.trans (hb4.mono HBT.out.size))
            clear hb4
            go_wp2_with fail
            go_ret
            exact⟨rfl,HB4.out⟩
           | false=>
            have hKF:=Lib.hid (HTK.out (by rw[HLD.out];simp))
            clear HLD HTK HHI e1 e3 e4
            go_wp2_with fail
            refine HCX.out.mono ?_
            rintro e W4 ⟨rfl,hb4⟩
            have HB4:=Lib.hid (HBV.out.trans (hb4.mono HBV.out.size))
            clear hb4 r0 r1 r2 r3 r4 z0 z1 z2 z3 z4
            go_wp2_with fail
            go_roundw
            case rel=>exact⟨k+1,hkl,by go_num,hKF.out,HB4.out⟩
            case measure=>simp[intOf];omega
          ·have hKF:=Lib.hid (HTK.out (by rw[HLD.out,Bool.eq_false_iff];simp only[ne_eq,Bool.or_eq_true,Bool.and_eq_true,decide_eq_true_eq];omega))
           clear HLD HTK HHI e1 e3 e4
           go_wp2_with fail
           go_roundw
           case rel=>exact⟨k+1,hkl,by go_num,hKF.out,HBV.out⟩
           case measure=>simp[intOf];omega
         ·have hKF:=Lib.hid (HTK.out (by rw[HLD.out,Bool.eq_false_iff];simp only[ne_eq,Bool.or_eq_true,Bool.and_eq_true,decide_eq_true_eq];omega))
          clear HLD HTK HHI e1 e3 e4
          go_wp2_with fail
          go_roundw
          case rel=>exact⟨k+1,hkl,by go_num,hKF.out,HBV.out⟩
          case measure=>simp[intOf];omega
        ·have de4:(xb == s)=false:=by simpa using e4
         have hKF:=Lib.hid (HTK.out (by rw[HLD.out,Bool.eq_false_iff];simp only[ne_eq,Bool.or_eq_true,Bool.and_eq_true,decide_eq_true_eq];omega))
         clear HLD HTK HHI e1 e3 e4
         go_wp2_with fail
         go_roundw
         case rel=>exact⟨k+1,hkl,by go_num,hKF.out,HBV.out⟩
         case measure=>simp[intOf];omega
       ·have de3:(xa == t)=false:=by simpa using e3
        have hKF:=Lib.hid (HTK.out (by rw[HLD.out,Bool.eq_false_iff];simp only[ne_eq,Bool.or_eq_true,Bool.and_eq_true,decide_eq_true_eq];omega))
        clear HLD HTK HHI e1 e3
        go_wp2_with fail
        go_roundw
        case rel=>exact⟨k+1,hkl,by go_num,hKF.out,HBV.out⟩
        case measure=>simp[intOf];omega
     ·obtain rfl:k=n1:=by omega
      have j0:¬((k:Nat):Int)<(k:Int):=by omega
      rw[List.take_of_length_le (by rw[HL1.out];exact Nat.le_refl _)] at hno
      obtain rfl:R=false:=by rw[HRL.out,hno]
      clear hno hbw
      go_wp2_with fail
      go_ret
      exact⟨rfl,HB1.out.trans (HBW.out.mono HB1.out.size)⟩
   ·obtain rfl:R=false:=by rw[HRE.out,HNP.out,decide_eq_false hcd];rfl
    clear HRE HNP HBP
    go_loopw [13] (fun iv wr=>iv=.int .i64 0∧Below W1.heap.size W1 wr) (fun _ _=>0)
    case atStart=>exact⟨rfl,HBE.out⟩
    case round=>
     obtain⟨rfl,hbw⟩:=hrel
     have HBW:=Lib.hid hbw
     have q2:=(HX.out.keep hbw).cell (i:=2) rfl
     have q4:=(HX.out.keep hbw).lt
     clear hbw
     by_cases hkl:0<n1
     ·have j0:(0:Int)<(n1:Int):=by omega
      go_wp2_with fail
      go_ret
      exact⟨rfl,HB1.out.trans (HBW.out.mono HB1.out.size)⟩
     ·have j0:¬(0:Int)<(n1:Int):=by omega
      go_wp2_with fail
      go_ret
      exact⟨rfl,HB1.out.trans (HBW.out.mono HB1.out.size)⟩
theorem blkd_comm (r:Rul) (s c t d:Int):blkd r s c t d=blkd r t d s c:=by
 unfold blkd
 by_cases hst:s=t
 ·rw[if_pos hst,if_pos hst.symm]
 ·rw[if_neg hst,if_neg (Ne.symm hst)]
  have hon:∀ n,onF [(s,c),(t,d)] n=onF [(t,d),(s,c)] n:=by
   intro n
   simp only[onF]
   by_cases h1:s=n
   ·subst h1;rw[if_pos rfl,if_neg (Ne.symm hst),if_pos rfl]
   ·rw[if_neg h1,if_neg h1]
  have h1:∀ x,bpF x [(s,c),(t,d)]=bpF x [(t,d),(s,c)]:=by
   intro x;unfold bpF;rw[hon,hon]
  congr 1
  ·congr 1;funext x;exact h1 x
  ·by_cases hcd:c=d
   ·subst hcd
    congr 1;congr 1;funext x;unfold ldB;rw[Bool.or_comm]
   ·rw[decide_eq_false hcd,decide_eq_false (Ne.symm hcd)];rfl
def exGo (r:Rul) (s:Int):List Int→List (Int×Int)→List (Int×Int)
 | [],pl=>pl
 | c::q,pl=>if onF pl s=0 then exGo r s q (if (pl.all fun x=>!blkd r s c x.1 x.2)=true then pl++[(s,c)] else pl) else pl
def extG (D:Dms) (r:Rul) (rem:List Int) (pl:List (Int×Int)):List (Int×Int):=rem.foldl (fun pl s=>exGo r s (chsOf D s) pl) pl
def outF (D:Dms) (pl:List (Int×Int)):List (Int×Int):=D.map fun d=>(d.1,onF pl d.1)
def extF (D:Dms) (r:Rul) (l:List (Int×Int)):List (Int×Int):=outF D (extG D r (peelF D r).1.reverse l)
theorem on_append (a b:List (Int×Int)) (n:Int):onF (a++b) n=if n∈a.map Prod.fst then onF a n else onF b n:=by
 induction a with
 | nil=>rfl
 | cons x q ih=>
  rw[List.cons_append,onF,onF,List.map_cons]
  by_cases h:x.1=n
  ·rw[if_pos h,if_pos h,if_pos (by simp[h])]
  ·rw[if_neg h,if_neg h,ih]
   by_cases h2:n∈q.map Prod.fst
   ·rw[if_pos h2,if_pos (by simp[h2])]
   ·rw[if_neg h2,if_neg (by simp only[List.mem_cons,not_or];exact⟨fun e=>h e.symm,h2⟩)]
theorem on_none {a:List (Int×Int)} {n:Int} (h:n∉a.map Prod.fst):onF a n=0:=by
 induction a with
 | nil=>rfl
 | cons x q ih=>
  rw[List.map_cons,List.mem_cons,not_or] at h
  rw[onF,if_neg (fun e=>h.1 e.symm),ih h.2]
theorem on_of {a:List (Int×Int)} (hn:(a.map Prod.fst).Nodup) {x:Int×Int} (hx:x∈a):onF a x.1=x.2:=by
 induction a with
 | nil=>cases hx
 | cons y q ih=>
  rw[List.map_cons,List.nodup_cons] at hn
  rw[onF]
  rcases List.mem_cons.1 hx with rfl | hx
  ·rw[if_pos rfl]
  ·rw[if_neg (fun e=>hn.1 (by rw[e];exact List.mem_map_of_mem hx)),ih hn.2 hx]
theorem exGo_on {r:Rul} {s:Int}:∀(q:List Int) {pl:List (Int×Int)},onF pl s≠0→exGo r s q pl=pl
 | [],_,_=>rfl
 | _::_,_,h=>by rw[exGo,if_neg h]
theorem exGo_eq {r:Rul} {s:Int}:∀(q:List Int) {pl:List (Int×Int)},s∉pl.map Prod.fst→(∀ c∈q,c≠0)→exGo r s q pl=match q.find? (fun c=>pl.all fun x=>!blkd r s c x.1 x.2) with
  | none=>pl
  | some c=>pl++[(s,c)]
 | [],_,_,_=>rfl
 | c::q,pl,h,hq=>by
  rw[exGo,if_pos (on_none h),List.find?_cons]
  cases hc:(pl.all fun x=>!blkd r s c x.1 x.2) with
  | true=>
   rw[if_pos rfl]
   dsimp only
   refine exGo_on q ?_
   rw[on_append,if_neg h,onF,if_pos rfl]
   exact hq c (by simp)
  | false=>
   rw[if_neg (by simp)]
   exact exGo_eq q h (fun c hc=>hq c (by simp[hc]))
theorem count_any {α β:Type} (p:β→α→Bool) (own:List α):∀(pl:List β),own.countP (fun c=>pl.any fun x=>p x c)≤(pl.map fun x=>own.countP (p x)).sum
 | []=>by simp
 | x::q=>by
  rw[List.map_cons,List.sum_cons]
  have h1:=count_any p own q
  have h2:own.countP (fun c=>(x::q).any fun x=>p x c)≤own.countP (p x)+own.countP (fun c=>q.any fun x=>p x c):=by
   clear h1
   induction own with
   | nil=>simp
   | cons c own ih=>
    simp only[List.countP_cons,List.any_cons] at ih ⊢
    cases p x c<;>cases q.any (fun x=>p x c)<;>simp<;>omega
  omega
theorem sum_perm {α:Type} (f:α→Nat) {a b:List α} (h:a.Perm b):(a.map f).sum=(b.map f).sum:=by
 induction h with
 | nil=>rfl
 | cons x _ ih=>rw[List.map_cons,List.map_cons,List.sum_cons,List.sum_cons,ih]
 | swap x y l=>simp only[List.map_cons,List.sum_cons];omega
 | trans _ _ ih1 ih2=>exact ih1.trans ih2
theorem sum_sub_mem {α:Type} [DecidableEq α] (f:α→Nat):∀ {a b:List α},a.Nodup→(∀ x∈a,x∈b)→(a.map f).sum≤(b.map f).sum
 | [],_,_,_=>by simp
 | x::q,b,hn,h=>by
  rw[List.nodup_cons] at hn
  have h1:=sum_sub_mem f (b:=b.erase x) hn.2 (fun y hy=>(List.mem_erase_of_ne (by rintro rfl;exact hn.1 hy)).2 (h y (by simp[hy])))
  have h2:=sum_perm f (List.perm_cons_erase (h x (by simp)))
  rw[List.map_cons,List.sum_cons] at h2 ⊢
  omega
theorem free_ex {D:Dms} {r:Rul} {s:Int} {T:List Int} (he:easyF D r T s=true) {pl:List (Int×Int)} (hn:(pl.map Prod.fst).Nodup) (hT:∀ x∈pl,x.1∈T∧x.2∈chsOf D x.1):
  ∃ c,(chsOf D s).find? (fun c=>pl.all fun x=>!blkd r s c x.1 x.2)=some c:=by
 cases hf:(chsOf D s).find? (fun c=>pl.all fun x=>!blkd r s c x.1 x.2) with
 | some c=>exact⟨c,rfl⟩
 | none=>
  exfalso
  have h1:=List.find?_eq_none.1 hf
  have h2:(chsOf D s).countP (fun c=>pl.any fun x=>blkd r s c x.1 x.2)=(chsOf D s).length:=by
   rw[List.countP_eq_length]
   intro c hc
   cases ha:(pl.any fun x=>blkd r s c x.1 x.2) with
   | true=>rfl
   | false=>
    refine absurd ?_ (h1 c hc)
    rw[List.all_eq_true]
    intro x hx
    rw[List.any_eq_false] at ha
    have:=ha x hx
    simpa using this
  have h3:=count_any (fun (x:Int×Int) c=>blkd r s c x.1 x.2) (chsOf D s) pl
  have h4:(pl.map fun x=>(chsOf D s).countP fun c=>blkd r s c x.1 x.2).sum≤(pl.map fun x=>blN D r s x.1).sum:=sum_le_of _ _ _ (fun x hx=>cnt_le_blk (hT x hx).2)
  have h5:(pl.map fun x=>blN D r s x.1).sum=((pl.map Prod.fst).map (blN D r s)).sum:=by rw[List.map_map];rfl
  have h6:=sum_sub_mem (blN D r s) hn (fun y hy=>by obtain⟨x,hx,rfl⟩:=List.mem_map.1 hy;exact(hT x hx).1:∀ y∈pl.map Prod.fst,y∈T)
  unfold easyF at he
  rw[decide_eq_true_eq] at he
  omega
structure PlI (D:Dms) (r:Rul) (l:List (Int×Int)) (rem:List Int) (pl:List (Int×Int)):Prop where
 ex:∃ q,pl=l++q∧q.map Prod.fst=rem
 nd:(pl.map Prod.fst).Nodup
 ch:∀ x∈pl,x.2∈chsOf D x.1
 ok:∀ x∈pl,∀ y∈pl,x.1∈rem→blkd r x.1 x.2 y.1 y.2=false
theorem pl_step {D:Dms} {r:Rul} (h0:∀ s,∀ c∈chsOf D s,c≠0) {l:List (Int×Int)} {rem:List Int} {pl:List (Int×Int)} (h:PlI D r l rem pl) {s:Int} {T:List Int} (hs:s∉pl.map Prod.fst) (he:easyF D r T s=true) (hT:∀ x∈pl,x.1∈T):
  PlI D r l (rem++[s]) (exGo r s (chsOf D s) pl):=by
 obtain⟨c,hc⟩:=free_ex he h.nd (fun x hx=>⟨hT x hx,h.ch x hx⟩)
 rw[exGo_eq _ hs (h0 s),hc]
 have hfree:∀ x∈pl,blkd r s c x.1 x.2=false:=by
  have:=List.find?_some hc
  simpa using this
 have hself:∀ e,blkd r s c s e=false:=fun e=>by unfold blkd;rw[if_pos rfl]
 obtain⟨q,h1,h2⟩:=h.ex
 refine⟨⟨q++[(s,c)],by rw[h1];simp,by simp[h2]⟩,?_,?_,?_⟩
 ·rw[List.map_append,List.map_singleton,List.nodup_append]
  exact⟨h.nd,by simp,fun a ha b hb=>by rw[List.mem_singleton] at hb;subst hb;rintro rfl;exact hs ha⟩
 ·intro x hx
  rcases List.mem_append.1 hx with hx | hx
  ·exact h.ch x hx
  ·rw[List.mem_singleton] at hx;subst hx;exact List.mem_of_find?_eq_some hc
 ·intro x hx y hy hxr
  rcases List.mem_append.1 hx with hx | hx<;>rcases List.mem_append.1 hy with hy | hy
  ·refine h.ok x hx y hy ?_
   rcases List.mem_append.1 hxr with hxr | hxr
   ·exact hxr
   ·rw[List.mem_singleton] at hxr
    exact absurd (hxr ▸ List.mem_map_of_mem hx) hs
  ·rw[List.mem_singleton] at hy;subst hy;rw[blkd_comm];exact hfree x hx
  ·rw[List.mem_singleton] at hx;subst hx;exact hfree y hy
  ·rw[List.mem_singleton] at hx hy;subst hx;subst hy;exact hself _
theorem ext_pl {D:Dms} {r:Rul} (hD:(D.map Prod.fst).Nodup) (h0:∀ s,∀ c∈chsOf D s,c≠0) {l:List (Int×Int)} (hl:l.map Prod.fst=(peelF D r).2) (hc:∀ x∈l,x.2∈chsOf D x.1):
  ∀(j k:Nat),k+j=(peelF D r).1.length→PlI D r l ((peelF D r).1.drop k).reverse (extG D r ((peelF D r).1.drop k).reverse l):=by
 have hsub:∃ p:Int→Bool,(peelF D r).2=(D.map Prod.fst).filter p:=(peelG_spec D r D.length [] (D.map Prod.fst)).1
 have hcn:(peelF D r).2.Nodup:=by obtain⟨p,e⟩:=hsub;rw[e];exact hD.filter p
 have hdis:∀ x∈(peelF D r).1,x∉(peelF D r).2:=peelG_disj D r D.length [] (D.map Prod.fst) (fun x hx=>by cases hx)
 intro j
 induction j with
 | zero=>
  intro k hk
  rw[List.drop_of_length_le (by omega)]
  exact⟨⟨[],by simp[extG],rfl⟩,by rw[extG,List.reverse_nil,List.foldl_nil,hl];exact hcn,hc,fun x _ y _ h=>(by cases h)⟩
 | succ j ih=>
  intro k hk
  have h1:=ih (k+1) (by omega)
  have hk':k<(peelF D r).1.length:=by omega
  obtain⟨T,t1,t2,t3,t4,t5⟩:=peelG_at D r D.length (D.map Prod.fst) hD k _ (List.getElem?_eq_getElem hk')
  have hd:(peelF D r).1.drop k=(peelF D r).1[k]::(peelF D r).1.drop (k+1):=List.drop_eq_getElem_cons hk'
  have e:extG D r ((peelF D r).1.drop k).reverse l=exGo r (peelF D r).1[k] (chsOf D (peelF D r).1[k]) (extG D r ((peelF D r).1.drop (k+1)).reverse l):=by
   rw[hd,List.reverse_cons,extG,List.foldl_append];rfl
  rw[e,hd,List.reverse_cons]
  obtain⟨q,hq1,hq2⟩:=h1.ex
  have hmem:∀ x,x∈(extG D r ((peelF D r).1.drop (k+1)).reverse l).map Prod.fst↔(x∈(peelF D r).1.drop (k+1)∨x∈(peelF D r).2):=by
   intro x;rw[hq1,List.map_append,List.mem_append,hl,hq2,List.mem_reverse];exact Or.comm
  refine pl_step h0 h1 ?_ t1 (fun x hx=>?_)
  ·rw[hmem]
   rintro(h | h)
   ·have hn:((peelF D r).1).Nodup:=by
     have:∀(f:Nat) (out set:List Int),out.Nodup→set.Nodup→(∀ x∈out,x∉set)→(peelG D r f out set).1.Nodup:=by
      intro f
      induction f with
      | zero=>intro out set h _ _;exact h
      | succ f ih=>
       intro out set h1 h2 h3
       rw[peelG]
       split
       ·exact h1
       ·rename_i s hs
        have hs:=List.mem_of_find?_eq_some hs
        refine ih _ _ ?_ (h2.filter _) ?_
        ·rw[List.nodup_append]
         exact⟨h1,by simp,fun a ha b hb=>by rw[List.mem_singleton] at hb;subst hb;rintro rfl;exact h3 a ha hs⟩
        ·intro x hx hm
         obtain⟨m1,m2⟩:=List.mem_filter.1 hm
         rcases List.mem_append.1 hx with hx | hx
         ·exact h3 x hx m1
         ·rw[List.mem_singleton] at hx;simp[hx] at m2
     exact this D.length [] (D.map Prod.fst) List.nodup_nil hD (fun x hx=>by cases hx)
    have hdn:=hn.sublist (List.drop_sublist k (peelF D r).1)
    rw[hd,List.nodup_cons] at hdn
    exact hdn.1 h
   ·exact hdis _ (List.getElem_mem hk') h
  ·have:=(hmem x.1).1 (List.mem_map_of_mem hx)
   refine(t4 x.1).2 ?_
   rcases this with h | h
   ·refine .inl ?_
    have hh:x.1∈(peelF D r).1.drop k:=by rw[hd];exact List.mem_cons_of_mem _ h
    exact hh
   ·exact .inr h
end Go.Proofs.YtjakdikhdndlgaaGreatDoor
