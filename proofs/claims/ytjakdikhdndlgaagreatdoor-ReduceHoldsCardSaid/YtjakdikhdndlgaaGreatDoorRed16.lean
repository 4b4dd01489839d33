/- Lemmas of the proof, part 16. Conditions: none. -/
import Derived.Test.YtjakdikhdndlgaaGreatDoorRed15
set_option maxRecDepth 100000
set_option maxHeartbeats 8000000
namespace Go.Proofs.YtjakdikhdndlgaaGreatDoor
open Go.RowKit
theorem nodup_at {α:Type} {l:List α} (h:l.Nodup) {i j:Nat} {x:α} (hi:l[i]?=some x) (hj:l[j]?=some x):i=j:=by
 obtain⟨h1,e1⟩:=List.getElem?_eq_some_iff.1 hi
 obtain⟨h2,e2⟩:=List.getElem?_eq_some_iff.1 hj
 rcases Nat.lt_trichotomy i j with hlt | heq | hgt
 ·exact absurd (e1.trans e2.symm) (List.pairwise_iff_getElem.1 h i j h1 h2 hlt)
 ·exact heq
 ·exact absurd (e2.trans e1.symm) (List.pairwise_iff_getElem.1 h j i h2 h1 hgt)
structure LkAll (D:Dms) (r:Rul) (LK:List Lk):Prop where
 nd:∀ i,i<D.length→((nbs LK i).map Nb.o).Nodup
 nbr:∀ i x,i<D.length→x∈nbs LK i→x.o<D.length∧x.o≠i∧x.f=decide (stA D i<stA D x.o)∧∃ l,LK.find? (fun l=>decide (l.g=x.g))=some l∧LkOk l∧LinkI r (stA D i) (stA D x.o) l.ps l.sh
 no:∀ i k,i<D.length→k<D.length→k∉(nbs LK i).map Nb.o→linkF r (stA D i) (stA D k)=false
theorem LkAll.len {D:Dms} {r:Rul} {LK:List Lk} (h:LkAll D r LK) {i:Nat} (hi:i<D.length):(nbs LK i).length≤D.length:=by
 have h1:=sum_sub_mem (fun _:Nat=>1) (h.nd i hi) (fun x hx=>by
  obtain⟨y,hy,rfl⟩:=List.mem_map.1 hx
  exact List.mem_range.2 (h.nbr i y hi hy).1:∀ x∈(nbs LK i).map Nb.o,x∈List.range D.length)
 have e:∀ l:List Nat,(l.map fun _=>1).sum=l.length:=by
  intro l
  induction l with
  | nil=>rfl
  | cons x q ih=>rw[List.map_cons,List.sum_cons,ih,List.length_cons];omega
 rw[e,e,List.length_map,List.length_range] at h1
 exact h1
structure PrI (D:Dms) (r:Rul):Prop where
 len:D.length≤512
 ch:ChGd D
 nd:(D.map Prod.fst).Nodup
 prs:∀ x∈r.pairs,x.a<x.b∧(-1≤x.c∧x.c≤1)∧2≤x.d∧x.d≤x.e∧x.e≤51
 chl:∀ d∈D,d.2.length≤50
theorem PrI.chs {D:Dms} {r:Rul} (h:PrI D r) (s:Int):(chsOf D s).length≤50:=by
 unfold chsOf
 cases hf:D.find? (fun d=>decide (d.1=s)) with
 | none=>exact Nat.zero_le _
 | some d=>exact h.chl d (List.mem_of_find?_eq_some hf)
theorem st_inj {D:Dms} (hn:(D.map Prod.fst).Nodup) {i j:Nat} (hi:i<D.length) (hj:j<D.length) (h:stA D i=stA D j):i=j:=by
 unfold stA at h
 have h1:(D.map Prod.fst)[i]?=some ((D.map Prod.fst).getD i 0):=by rw[List.getD_eq_getElem?_getD,List.getElem?_eq_getElem (by rw[List.length_map];exact hi)];rfl
 have h2:(D.map Prod.fst)[j]?=some ((D.map Prod.fst).getD j 0):=by rw[List.getD_eq_getElem?_getD,List.getElem?_eq_getElem (by rw[List.length_map];exact hj)];rfl
 rw[←h] at h2
 exact nodup_at hn h1 h2
theorem LkAll.blk {D:Dms} {r:Rul} {LK:List Lk} (h:LkAll D r LK) (hp:PrI D r) {i:Nat} {x:Nb} (hi:i<D.length) (hx:x∈nbs LK i) {l:Lk} (hl:LK.find? (fun l=>decide (l.g=x.g))=some l):bmF D x.f l.ps l.sh i (chA D x.o)=bN D r i x.o:=by
 obtain⟨h1,h2,h3,l',h4,_,h6⟩:=h.nbr i x hi hx
 rw[hl] at h4
 cases h4
 have hst:stA D i≠stA D x.o:=fun e=>h2 (st_inj hp.nd hi h1 e).symm
 have:=blk_prog (D:=D) hp.prs h6 hst (by rw[chA_of hp.nd hi];exact hp.ch.at i) (by rw[chA_of hp.nd h1];exact(hp.ch.at x.o).1)
 rw[chA_of hp.nd hi,chA_of hp.nd h1,←h3] at this
 exact this
theorem LkAll.zero {D:Dms} {r:Rul} {LK:List Lk} (h:LkAll D r LK) (hp:PrI D r) {i k:Nat} (hi:i<D.length) (hk:k<D.length) (hn:k∉(nbs LK i).map Nb.o):bN D r i k=0∧bN D r k i=0:=by
 have h1:=h.no i k hi hk hn
 have hab:∀ x∈r.pairs,x.a≠x.b:=fun x hx=>by have:=(hp.prs x hx).1;omega
 exact⟨blk_link hab h1,blk_link hab (by rw[link_comm];exact h1)⟩
def encI (k:Int):Value:=.int .i64 k
def lossF (B:Nat→Nat) (l:List Nat) (y:Int):Option Value:=if y∈l.map (fun o:Nat=>(o:Int)) then some (.int .i64 (B y.toNat:Nat)) else none
theorem loss_nil (B:Nat→Nat):lossF B []=fun _=>none:=by funext y;unfold lossF;rw[if_neg (by simp)]
theorem loss_snoc (B:Nat→Nat) (l:List Nat) (o:Nat):lossF B (l++[o])=fun y=>if y=(o:Int) then some (.int .i64 (B o:Nat)) else lossF B l y:=by
 funext y
 unfold lossF
 by_cases h:y=(o:Int)
 ·subst h;rw[if_pos (by simp),if_pos rfl,Int.toNat_natCast]
 ·rw[if_neg h]
  by_cases h2:y∈l.map (fun o:Nat=>(o:Int))
  ·rw[if_pos h2,if_pos (by rw[List.map_append];exact List.mem_append_left _ h2)]
  ·rw[if_neg h2,if_neg (by
    rw[List.map_append,List.mem_append,not_or]
    exact⟨h2,by simpa using h⟩)]
structure LsI (w W:World) (MB:List Nat) (F:Nat→Int→Option Value):Prop where
 mp:∀ j b,MB[j]?=some b→MapF encI W b (F j)
 lo:∀ b∈MB,w.heap.size≤b
 nd:MB.Nodup
theorem LsI.keep {w W X:World} {MB:List Nat} {F:Nat→Int→Option Value} (h:LsI w W MB F) (hb:Below W.heap.size W X):LsI w X MB F:=
 ⟨fun j b hj=>(h.mp j b hj).below hb (h.mp j b hj).lt,h.lo,h.nd⟩
theorem LsI.cells {w u W X:World} {MB:List Nat} {F:Nat→Int→Option Value} {L:List Ent} {ds:List Nat} (h:LsI w W MB F) (hP:Hp w u W L ds) {e:Ent} (he:e∈L) (hg:W.grownBy X e.dst):LsI w X MB F:=
 ⟨fun j b hj=>hP.mapKeep (h.mp j b hj) he hg,h.lo,h.nd⟩
theorem LsI.put {w W X:World} {MB:List Nat} {F:Nat→Int→Option Value} (h:LsI w W MB F) {j b:Nat} (hj:MB[j]?=some b) {g:Int→Option Value} (hm:MapF encI X b g) (hg:W.grownBy X (some b)):LsI w X MB (fun i=>if i=j then g else F i):=by
 refine⟨fun i c hi=>?_,h.lo,h.nd⟩
 by_cases hij:i=j
 ·subst hij
  rw[hj] at hi
  cases hi
  rw[if_pos rfl];exact hm
 ·rw[if_neg hij]
  refine(h.mp i c hi).grown hg (fun e=>hij ?_)
  injection e with e
  subst e
  exact nodup_at h.nd hi hj
theorem LsI.snoc {w W:World} {MB:List Nat} {F:Nat→Int→Option Value} (h:LsI w W MB F) (hB:w.heap.size≤W.heap.size) (hF:F MB.length=fun _=>none):LsI w (W.alloc (.map #[] 0)) (MB++[W.heap.size]) F:=by
 have hk:=h.keep ((Below.refl _ W).alloc (Nat.le_refl _) (.map #[] 0))
 refine⟨fun j b hj=>?_,fun b hb=>?_,?_⟩
 ·rcases Nat.lt_trichotomy j MB.length with hlt | heq | hgt
  ·rw[List.getElem?_append_left hlt] at hj;exact hk.mp j b hj
  ·subst heq
   rw[List.getElem?_append_right (Nat.le_refl _),Nat.sub_self] at hj
   simp only[List.getElem?_cons_zero,Option.some.injEq] at hj
   subst hj
   rw[hF];exact MapF.made encI W
  ·rw[List.getElem?_eq_none (by rw[List.length_append];simp;omega)] at hj;cases hj
 ·rcases List.mem_append.1 hb with hb | hb
  ·exact h.lo b hb
  ·rw[List.mem_singleton] at hb;subst hb;exact hB
 ·rw[List.nodup_append]
  refine⟨h.nd,by simp,fun a ha b hb=>?_⟩
  rw[List.mem_singleton] at hb
  subst hb
  rintro rfl
  obtain⟨j,hj⟩:=List.getElem?_of_mem ha
  have:=(h.mp j _ hj).lt
  omega
theorem LsI.congr {w W:World} {MB:List Nat} {F G:Nat→Int→Option Value} (h:LsI w W MB F) (he:∀ j,j<MB.length→F j=G j):LsI w W MB G:=
 ⟨fun j b hj=>by rw[←he j (List.getElem?_eq_some_iff.1 hj).1];exact h.mp j b hj,h.lo,h.nd⟩
theorem made_one (z:Value) (hz:z.cells=#[z]) (n:Nat):(madeCells z.cells (n * 1)).toList=List.replicate n z:=by
 rw[hz]
 apply List.ext_getElem?
 intro j
 by_cases hj:j<n
 ·simp[madeCells,hj,Nat.mod_one]
 ·rw[List.getElem?_eq_none (by simp[madeCells];omega),List.getElem?_eq_none (by simp;omega)]
theorem map_info:(Tryz.prog.info? 151).map (fun i=>(i.zero,i.size,i.bytes))=some (some (.map none),1,8):=by kernel_rfl
theorem bool_info:(Tryz.prog.info? 4).map (fun i=>(i.zero,i.size,i.bytes))=some (some (.bool false),1,1):=by kernel_rfl
theorem Hp.madeV {w u W X:World} {L:List Ent} {ds:List Nat} (h:Hp w u W L ds) {g t n:Nat} {xs:List Value} (hown:X.ownsRow w.heap.size t 1 (.slice (some ⟨g,0,none⟩) n n) n xs) (hg:W.grownBy X none) (hl:W.heap.size≤g):Hp w u X (L++[.blk g t xs]) ds:=
 h.pushBlk ⟨hg.os,hg.tape,hg.output,hg.size,fun k hk=>hg.block k hk (by simp)⟩ (blk_of_own hown).1 hl
theorem Hp.base {w u W:World} {L:List Ent} (h:Hp w u W L []):Hp w w W L []:=⟨h.below,⟨h.below.size,fun k _ hk _=>(h.below.block k (Array.getElem?_eq_some_iff.1 hk).1).trans hk⟩,h.all,h.low,h.apart,fun _ hd=>(by cases hd),List.Pairwise.nil⟩
def PeelPost (D:Dms) (r:Rul) (w:World) (e:Ending) (w':World):Prop:=∃ O:List Nat,O.map (stA D)=(peelF D r).1∧(∀ o∈O,o<D.length)∧O.Nodup∧∃ v,e=.returned v∧w'.ownsRow w.heap.size 3 1 v O.length ((O.map fun o:Nat=>(o:Int)).map intV)∧Below w.heap.size w w'
def roomK (D:Dms) (r:Rul) (k:Nat):List Int:=((List.range D.length).map (rmF D r (List.range D.length))).take k++List.replicate (D.length - k) 0
theorem room_set {D:Dms} {r:Rul} {k:Nat} (hk:k<D.length) (X:Int):((roomK D r k).set k X).set k (rmF D r (List.range D.length) k)=roomK D r (k+1):=by
 rw[List.set_set]
 exact fill_set 0 _ _ k _ (by simp) (by rw[List.getElem?_map,List.getElem?_range hk];rfl)
theorem room_len {D:Dms} {r:Rul} {k:Nat} (hk:k≤D.length):(roomK D r k).length=D.length:=by unfold roomK;simp;omega
def lossC (n:Nat) (MB:List Nat):List Value:=MB.map (fun b:Nat=>Value.map (some b))++List.replicate (n - MB.length) (.map none)
theorem loss_set {n:Nat} {MB:List Nat} (h:MB.length<n) (b:Nat):(lossC n MB).set MB.length (.map (some b))=lossC n (MB++[b]):=by
 unfold lossC
 rw[List.set_append_right _ _ (by rw[List.length_map];exact Nat.le_refl _),List.length_map,Nat.sub_self,List.map_append,List.append_assoc,List.length_append]
 obtain⟨q,hq⟩:∃ q,n - MB.length=q+1:=⟨n - MB.length - 1,by omega⟩
 rw[hq,List.replicate_succ,List.set_cons_zero]
 have:n - (MB.length+[b].length)=q:=by simp;omega
 rw[this]
 rfl
theorem loss_at {n:Nat} {MB:List Nat} {k b:Nat} (h:MB[k]?=some b):(lossC n MB)[k]?=some (.map (some b)):=by
 unfold lossC
 have hk:=(List.getElem?_eq_some_iff.1 h).1
 rw[List.getElem?_append_left (by rw[List.length_map];exact hk),List.getElem?_map,h];rfl
theorem pop_chs {l:List Int} (hl:∀ c∈l,2≤c∧c≤51) (hu:l.Pairwise (·<·)):Pop.pop (stS l)=l.length:=by
 have:=pop_and hl hu (stS l)
 rw[Nat.and_self] at this
 rw[this,List.countP_eq_length]
 intro c hc
 rw[chs_bit hl,decide_eq_true_eq,Int.toNat_of_nonneg (by have:=hl c hc;omega)]
 exact hc
def roomN (D:Dms) (r:Rul) (i:Nat) (l:List Nat):Int:=((chA D i).length:Int) - (((l.map (bN D r i)).sum:Nat):Int)
theorem roomN_bd {D:Dms} {r:Rul} (hp:PrI D r) (i:Nat) (l:List Nat) (hl:l.length≤512):-30000≤roomN D r i l∧roomN D r i l≤30000:=by
 have h1:(l.map (bN D r i)).sum≤50 * l.length:=by
  clear hl
  induction l with
  | nil=>exact Nat.le_refl _
  | cons x q ih=>
   rw[List.map_cons,List.sum_cons,List.length_cons]
   have:bN D r i x≤50:=Nat.le_trans (blk_le _ _ _ _) (hp.chs _)
   omega
 have h2:(chA D i).length≤50:=by
  unfold chA
  rw[List.getD_eq_getElem?_getD]
  cases hk:D[i]? with
  | none=>exact Nat.zero_le _
  | some d=>exact hp.chl d (List.mem_of_getElem? hk)
 unfold roomN;omega
theorem roomN_snoc (D:Dms) (r:Rul) (i:Nat) (l:List Nat) (o:Nat):roomN D r i (l++[o])=roomN D r i l - (bN D r i o:Int):=by unfold roomN;simp;omega
theorem room_full (D:Dms) (r:Rul):roomK D r D.length=(List.range D.length).map (rmF D r (List.range D.length)):=by
 unfold roomK;rw[List.take_of_length_le (by simp),Nat.sub_self];simp
def gC (n:Nat) (S:List Nat):List Value:=(List.range n).map fun j=>Value.bool (!decide (j∈S))
theorem gC_at {n k:Nat} (S:List Nat) (hk:k<n):(gC n S)[k]?=some (.bool (!decide (k∈S))):=by unfold gC;rw[List.getElem?_map,List.getElem?_range hk];rfl
theorem gC_full (n:Nat):gC n (List.range n)=List.replicate n (.bool false):=by
 apply List.ext_getElem?
 intro k
 by_cases hk:k<n
 ·rw[gC_at _ hk,List.getElem?_replicate,if_pos hk,decide_eq_true (List.mem_range.2 hk)];rfl
 ·rw[List.getElem?_eq_none (by unfold gC;simp;omega),List.getElem?_eq_none (by simp;omega)]
theorem gC_set {n i:Nat} (S:List Nat) (hi:i<n):(gC n S).set i (.bool true)=gC n (S.filter fun j=>!decide (j=i)):=by
 apply List.ext_getElem?
 intro k
 rw[List.getElem?_set]
 by_cases hk:k<n
 ·rw[gC_at _ hk,gC_at _ hk]
  by_cases hki:i=k
  ·subst hki
   rw[if_pos rfl,if_pos (by unfold gC;simp;omega),decide_eq_false (by simp)];rfl
  ·rw[if_neg hki]
   congr 3
   rw[decide_eq_decide,List.mem_filter]
   exact⟨fun h=>⟨h,by rw[decide_eq_false (fun e:k=i=>hki e.symm)];rfl⟩,fun h=>h.1⟩
 ·rw[if_neg (by omega),List.getElem?_eq_none (by unfold gC;simp;omega),List.getElem?_eq_none (by unfold gC;simp;omega)]
theorem find_first {p:Int→Bool} {g:Nat→Int} {i:Nat}:∀ {S:List Nat},S.Pairwise (·<·)→i∈S→p (g i)=true→(∀ j∈S,j<i→p (g j)=false)→(S.map g).find? p=some (g i)
 | [],_,h,_,_=>by cases h
 | x::q,hS,hi,h1,h2=>by
  rw[List.pairwise_cons] at hS
  rw[List.map_cons,List.find?_cons]
  by_cases hx:x=i
  ·subst hx;rw[h1]
  ·have hiq:i∈q:=by
    rcases List.mem_cons.1 hi with e | h
    ·exact absurd e.symm hx
    ·exact h
   rw[h2 x (by simp) (hS.1 i hiq)]
   exact find_first hS.2 hiq h1 (fun j hj=>h2 j (by simp[hj]))
theorem filter_ne_map {g:Nat→Int} {i:Nat}:∀ {S:List Nat},(∀ j∈S,g j=g i→j=i)→(S.map g).filter (fun x=>!decide (x=g i))=(S.filter fun j=>!decide (j=i)).map g
 | [],_=>rfl
 | x::q,h=>by
  rw[List.map_cons,List.filter_cons,List.filter_cons,filter_ne_map (fun j hj=>h j (by simp[hj]))]
  by_cases hx:x=i
  ·subst hx;rw[if_neg (by simp),if_neg (by simp)]
  ·rw[if_pos (by simp;exact fun e=>hx (h x (by simp) e)),if_pos (by simp[hx]),List.map_cons]
structure PlS (D:Dms) (r:Rul) (i:Nat) (S O:List Nat):Prop where
 up:S.Pairwise (·<·)
 lt:∀ j∈S,j<D.length
 on:O.Nodup
 ol:∀ o∈O,o<D.length∧o∉S
 pf:∃ f,S.length≤f∧peelF D r=peelG D r f (O.map (stA D)) (S.map (stA D))
 no:∀ j∈S,j<i→easyF D r (S.map (stA D)) (stA D j)=false
theorem PlS.start (D:Dms) (r:Rul):PlS D r 0 (List.range D.length) []:=by
 refine⟨List.pairwise_lt_range,fun j hj=>List.mem_range.1 hj,List.Pairwise.nil,fun o ho=>(by cases ho),⟨D.length,by simp,?_⟩,fun j _ hj=>by omega⟩
 unfold peelF
 have e:D.map Prod.fst=(List.range D.length).map (stA D):=by
  apply List.ext_getElem?
  intro k
  by_cases hk:k<D.length
  ·rw[List.getElem?_map,List.getElem?_map,List.getElem?_range hk,List.getElem?_eq_getElem hk,Option.map_some,Option.map_some,stA_at (List.getElem?_eq_getElem hk)]
  ·rw[List.getElem?_eq_none (by simp;omega),List.getElem?_eq_none (by simp;omega)]
 rw[←e];rfl
theorem PlS.skip {D:Dms} {r:Rul} {i:Nat} {S O:List Nat} (h:PlS D r i S O) (hn:i∈S→easyF D r (S.map (stA D)) (stA D i)=false):PlS D r (i+1) S O:=
 ⟨h.up,h.lt,h.on,h.ol,h.pf,fun j hj hji=>by
  by_cases e:j=i
  ·subst e;exact hn hj
  ·exact h.no j hj (by omega)⟩
theorem PlS.take {D:Dms} {r:Rul} (hnd:(D.map Prod.fst).Nodup) {i:Nat} {S O:List Nat} (h:PlS D r i S O) (hi:i∈S) (he:easyF D r (S.map (stA D)) (stA D i)=true):PlS D r 0 (S.filter fun j=>!decide (j=i)) (O++[i]):=by
 refine⟨h.up.filter _,fun j hj=>h.lt j (List.mem_filter.1 hj).1,?_,fun o ho=>?_,?_,fun j _ hj=>by omega⟩
 ·rw[List.nodup_append]
  exact⟨h.on,by simp,fun a ha b hb=>by rw[List.mem_singleton] at hb;subst hb;rintro rfl;exact(h.ol a ha).2 hi⟩
 ·rcases List.mem_append.1 ho with ho | ho
  ·exact⟨(h.ol o ho).1,fun hm=>(h.ol o ho).2 (List.mem_filter.1 hm).1⟩
  ·rw[List.mem_singleton] at ho;subst ho
   exact⟨h.lt o hi,fun hm=>by simpa using(List.mem_filter.1 hm).2⟩
 ·obtain⟨f,h1,h2⟩:=h.pf
  have hpos:0<S.length:=List.length_pos_of_mem hi
  obtain⟨g,rfl⟩:∃ g,f=g+1:=⟨f - 1,by omega⟩
  refine⟨g,?_,?_⟩
  ·have:(S.filter fun j=>!decide (j=i)).length<S.length:=by
    rw[List.length_filter_lt_length_iff_exists];exact⟨i,hi,by simp⟩
   omega
  ·rw[h2,peelG,find_first h.up hi he h.no]
   dsimp only
   rw[filter_ne_map (fun j hj e=>st_inj hnd (h.lt j hj) (h.lt i hi) e),List.map_append];rfl
theorem PlS.done {D:Dms} {r:Rul} {S O:List Nat} (h:PlS D r D.length S O):O.map (stA D)=(peelF D r).1:=by
 obtain⟨f,_,h2⟩:=h.pf
 rw[h2,peelG_none (fun s hs=>by
  obtain⟨j,hj,rfl⟩:=List.mem_map.1 hs
  exact h.no j hj (h.lt j hj))]
theorem nat_len {S:List Nat} {n:Nat} (hS:S.Nodup) (h:∀ j∈S,j<n):S.length≤n:=by
 have h1:=sum_sub_mem (fun _:Nat=>1) hS (fun x hx=>List.mem_range.2 (h x hx):∀ x∈S,x∈List.range n)
 have e:∀ l:List Nat,(l.map fun _=>1).sum=l.length:=by
  intro l
  induction l with
  | nil=>rfl
  | cons x q ih=>rw[List.map_cons,List.sum_cons,ih,List.length_cons];omega
 rw[e,e,List.length_range] at h1
 exact h1
theorem PlS.len {D:Dms} {r:Rul} {i:Nat} {S O:List Nat} (h:PlS D r i S O):O.length≤D.length:=by
 have h1:=sum_sub_mem (fun _:Nat=>1) h.on (fun x hx=>List.mem_range.2 (h.ol x hx).1:∀ x∈O,x∈List.range D.length)
 have e:∀ l:List Nat,(l.map fun _=>1).sum=l.length:=by
  intro l
  induction l with
  | nil=>rfl
  | cons x q ih=>rw[List.map_cons,List.sum_cons,ih,List.length_cons];omega
 rw[e,e,List.length_range] at h1
 exact h1
def lenOf:Value→Nat
 | .slice _ l _=>l
 | _=>0
theorem loss_look {D:Dms} {r:Rul} {LK:List Lk} (h:LkAll D r LK) (hp:PrI D r) {o i:Nat} (ho:o<D.length) (hi:i<D.length):(lossF (bN D r o) ((nbs LK o).map Nb.o) (i:Int)).getD (.int .i64 0)=.int .i64 (bN D r o i:Nat):=by
 unfold lossF
 by_cases hm:(i:Int)∈((nbs LK o).map Nb.o).map (fun o:Nat=>(o:Int))
 ·rw[if_pos hm,Int.toNat_natCast];rfl
 ·rw[if_neg hm]
  have:bN D r o i=0:=(h.zero hp ho hi (fun hx=>hm (List.mem_map.2 ⟨i,hx,rfl⟩))).1
  rw[this];rfl
theorem peel_any (t:Nat) (D:Dms) (LK:List Lk) (r:Rul) (w:World) (hT:Tab w) (h:TabR w t D LK) (hl:LkAll D r LK) (hp:PrI D r):
  Calls Tryz.prog 43 #[.pointer (some ⟨t,0,none⟩)] w (PeelPost D r w):=by
 obtain⟨i0,hi0,hz0,hz1,hz2⟩:=info_parts int_info
 obtain⟨i1,hi1,hy0,hy1,hy2⟩:=info_parts map_info
 obtain⟨i2,hi2,hx0,hx1,hx2⟩:=info_parts bool_info
 have HBL:=Lib.hid (fun (i:Nat) (x:Nb) (W:World) (hi:i<D.length) (hx:x∈nbs LK i) (hb:Below w.heap.size w W)=>(by
  obtain⟨h1,_,_,l,h4,h5,_⟩:=hl.nbr i x hi hx
  have hg:x.g=l.g:=(show l.g=x.g by simpa using List.find?_some h4).symm
  have:=blocks_any i t x l D LK W (hT.keep hb) (h.keep hb) (List.mem_of_find?_eq_some h4) hg hi h1 h5 hp.ch
  rw[hl.blk hp hi hx h4] at this
  exact this:Calls Tryz.prog 51 #[.pointer (some ⟨t,0,none⟩),.int .i64 i,.agg #[.int .i64 x.o,.bool x.f,.pointer (some ⟨x.g,0,none⟩)]] W (RetPost (.int .i64 (bN D r i x.o:Nat)) W.heap.size W)))
 have HLK:=Lib.hid hl
 have HPR:=Lib.hid hp
 have HTB:=Lib.hid h
 have HTW:=Lib.hid hT
 have hlen:=hp.len
 obtain⟨⟨A0,A1,A2,c0,c1,c2,NV,hnv,q0,q1,q2,hr0,hr1,hr2,hr3⟩,_,ht,_⟩:=h
 have HR1:=Lib.hid hr1
 have HR2:=Lib.hid hr2
 have HR3:=Lib.hid hr3
 have HNV:=Lib.hid hnv
 clear hT hl hp hr0 hr1 hr2 hr3 hnv
 go_enter Tryz.func43,Tryz.ntmps43
 go_upto_region 2 with (at_make;refine wpList_make_full _ rfl _ _ 32 rfl w.heap.size 3 i0 (.int .i64 0) 1 Tryz.underlying32 hi0 hz0 hz1 .i64 .i64 _ _ D.length rfl rfl rfl rfl (by rw[hz2];omega) (by unfold maxLen;omega) (Nat.le_refl _) ?_;intro W1 hown hgrow;rw[made_ints] at hown;have HP1:=Lib.hid ((Hp.start w).madeV hown hgrow (Nat.le_refl _));clear hown hgrow)
 have hb1:=HP1.out.below
 have q0':=(hb1.cell (p:=⟨t,0,none⟩) ht).trans q0
 have ht':=Nat.lt_of_lt_of_le ht hb1.size
 clear hb1
 go_upto_region 3 with (at_make;refine wpList_make_full _ rfl _ _ 149 rfl w.heap.size 151 i1 (.map none) 1 Tryz.underlying149 hi1 hy0 hy1 .i64 .i64 _ _ D.length rfl rfl rfl rfl (by rw[hy2];omega) (by unfold maxLen;omega) HP1.out.below.size ?_;intro W2 hown hgrow;rw[made_one (.map none) (by simp[Value.cells])] at hown;have HP2:=Lib.hid (HP1.out.madeV hown hgrow (Nat.le_refl _));clear hown hgrow)
 have HS12:Hid (w.heap.size≤W1.heap.size):=Lib.hid HP1.out.below.size
 clear HP1 q0' ht'
 generalize W1.heap.size=p4 at *
 obtain⟨p3,hp3⟩:∃ p,p=w.heap.size:=⟨_,rfl⟩
 rw[←hp3] at HP2 ⊢
 have HP3:=Lib.hid hp3
 clear hp3
 have hb2:=HP2.out.below
 have q1':=(hb2.cell (p:=⟨t,1,none⟩) ht).trans q1
 have ht':=Nat.lt_of_lt_of_le ht hb2.size
 clear hb2
 go_wp2_with fail
 have HP2:Hid (Hp w w W2 [.blk p3 3 ((roomK D r 0).map intV),.blk p4 151 (lossC D.length [])] []):=Lib.hid (by
  have e1:roomK D r 0=List.replicate D.length 0:=by unfold roomK;simp
  have e2:lossC D.length []=List.replicate D.length (.map none):=by unfold lossC;simp
  rw[e1,e2];exact HP2.out)
 clear q1' ht'
 go_loopw [31] (fun iv wr=>∃(k:Nat) (MB:List Nat),k≤D.length∧iv=.int .i64 k∧MB.length=k∧LsI w wr MB (fun j=>lossF (bN D r j) ((nbs LK j).map Nb.o))∧Hp w w wr [.blk p3 3 ((roomK D r k).map intV),.blk p4 151 (lossC D.length MB)] []) (fun iv _=>D.length - (intOf iv).toNat)
 case atStart=>exact⟨0,[],Nat.zero_le _,rfl,rfl,⟨fun j b h=>(by cases h),fun b h=>(by cases h),List.Pairwise.nil⟩,HP2.out⟩
 case round=>
  clear HP2
  obtain⟨k,MB,hk,rfl,hMB,hM,hP⟩:=hrel
  obtain⟨wo,rfl⟩:∃ wo:World,wo=wr:=⟨_,rfl⟩
  have HP:=Lib.hid hP
  have HM:=Lib.hid hM
  have HMB:=Eqn.mk hMB
  by_cases hlt:k<D.length
  ·have j0:(k:Int)<(D.length:Int):=by omega
   obtain⟨b1,o1,rfl,hb1,hcl⟩:=(HR1.out.below hP.below).2 (by omega)
   have m1:wo.cell? ⟨b1,o1+k,none⟩=some (.int .u64 (stS (chA D k):Nat)):=by
    have e:D[k]?=some D[k]:=List.getElem?_eq_getElem hlt
    rw[chA_at e];exact hcl k _ (by rw[List.getElem?_map,e];rfl)
   obtain⟨b2,o2,rfl,hb2,hc2⟩:=(HR2.out.below hP.below).2 (by omega)
   obtain⟨N,hN⟩:∃ N,NV[k]?=some N:=⟨_,List.getElem?_eq_getElem (by rw[HNV.out];exact hlt)⟩
   have m2:wo.cell? ⟨b2,o2+k,none⟩=some N.val:=hc2 k N hN
   have hb2':b2<wo.heap.size:=Nat.lt_of_lt_of_le hb2 hP.below.size
   have q2':=(hP.below.cell (p:=⟨t,2,none⟩) ht).trans q2
   have ht':=Nat.lt_of_lt_of_le ht hP.below.size
   have HROW:=Lib.hid (HR3.out k N hN)
   obtain⟨An,nn,cn⟩:=N
   unfold NH.val at m2
   dsimp only at m2 HROW
   have HNN:Hid ((nbs LK k).length=nn):=Lib.hid HROW.out.1
   have hnn:nn≤512:=by have:=HLK.out.len hlt;have:=HNN.out;omega
   have hch:=HPR.out.ch.at k
   have HON:=Lib.hid (fun W=>ones_any (stS (chA D k)) W (chs_lt64 hch.1))
   rw[pop_chs hch.1 hch.2] at HON
   have hrk:k<(roomK D r k).length:=by rw[room_len hk];exact hlt
   obtain⟨u0,hu0⟩:∃ u,(roomK D r k)[k]?=some u:=⟨_,List.getElem?_eq_getElem hrk⟩
   have cA:=hP.cI 0 k rfl hu0
   have fA:=hP.f 0 rfl
   have lA:=hP.lt 0 rfl
   obtain⟨u1,hu1⟩:∃ u,(lossC D.length MB)[k]?=some u:=⟨_,List.getElem?_eq_getElem (by unfold lossC;simp;omega)⟩
   have cB:=hP.c 1 k rfl hu1
   have fB:=hP.f 1 rfl
   have lB:=hP.lt 1 rfl
   have npq:p3≠p4:=fun e=>hP.ne 0 1 rfl rfl (by decide) (g:=p3) rfl (by rw[e];rfl)
   have HNPQ:=Lib.hid npq
   have hmk:∀ W:World,(Instr.makeMap 151 none).run Tryz.prog W=.ok (.map (some W.heap.size)) (W.alloc (.map #[] 0)):=fun W=>by kernel_rfl
   have HL0:Eqn (chA D k).length (chA D k).length:=rfl
   clear hcl hc2 hN hP hM hMB hch hrk hu0 hu1
   generalize hCL:(chA D k).length=cl at *
   have HCL:=Eqn.mk hCL
   clear hCL HL0
   go_wp2_with fail
   refine(HON.out _).mono ?_
   rintro e W3 ⟨rfl,rfl⟩
   go_upto_region 8 with fail
   clear hmk
   obtain⟨V1,hV1⟩:∃ V,V=((wo.setCell ⟨p3,k,none⟩ (.int .i64 cl)).setCell ⟨p4,k,none⟩ (.map (some wo.heap.size))).alloc (.map #[] 0):=⟨_,rfl⟩
   have hPa:=(HP.out.set 0 k (.int .i64 cl) rfl)
   have hPb:=(hPa.set 1 k (.map (some wo.heap.size)) rfl)
   have hMa:=HM.out.cells HP.out (e:=.blk p3 3 ((roomK D r k).map intV)) (by simp) (grownBy_cell wo p3 k (.int .i64 cl))
   have hMb:=hMa.cells hPa (e:=.blk p4 151 (lossC D.length MB)) (by simp) (grownBy_cell _ p4 k (.map (some wo.heap.size)))
   obtain⟨b,hb⟩:∃ b,b=wo.heap.size:=⟨_,rfl⟩
   have HP1:Hid (Hp w w V1 [.blk p3 3 (((roomK D r k).set k (roomN D r k (((nbs LK k).map Nb.o).take 0))).map intV),.blk p4 151 (lossC D.length (MB++[b]))] []):=Lib.hid (by
    have e1:((roomK D r k).set k (roomN D r k (((nbs LK k).map Nb.o).take 0))).map intV=((roomK D r k).map intV).set k (.int .i64 cl):=by
     rw[List.map_set]
     congr 1
     unfold roomN
     rw[List.take_zero,HCL.out]
     simp[intV]
    have e2:lossC D.length (MB++[b])=(lossC D.length MB).set k (.map (some wo.heap.size)):=by rw[←loss_set (by rw[HMB.out];exact hlt),HMB.out,hb]
    rw[e1,e2,hV1]
    exact hPb.alloc0 _)
   have HM1:Hid (LsI w V1 (MB++[b]) (fun j=>lossF (bN D r j) (if j=k then ((nbs LK k).map Nb.o).take 0 else (nbs LK j).map Nb.o))):=Lib.hid (by
    have h1:LsI w ((wo.setCell ⟨p3,k,none⟩ (.int .i64 cl)).setCell ⟨p4,k,none⟩ (.map (some wo.heap.size))) MB (fun j=>lossF (bN D r j) (if j=k then ((nbs LK k).map Nb.o).take 0 else (nbs LK j).map Nb.o)):=hMb.congr (fun j hj=>by rw[if_neg (by have:=HMB.out;omega)])
    have h2:=h1.snoc (by have:=HP.out.below.size;simpa using this) (by rw[HMB.out,if_pos rfl,List.take_zero,loss_nil])
    rw[hV1,hb]
    simpa using h2)
   have m2':V1.cell? ⟨b2,o2+k,none⟩=some (.slice An nn cn):=by
    have hx:=HP1.out.below.cell (p:=⟨b2,o2+k,none⟩) hb2
    have hy:=HP.out.below.cell (p:=⟨b2,o2+k,none⟩) hb2
    rw[hx,←hy];exact m2
   have q2'':V1.cell? ⟨t,2,none⟩=some (.slice (some ⟨b2,o2,none⟩) D.length c2):=(HP1.out.below.cell (p:=⟨t,2,none⟩) ht).trans q2
   have ht'':=Nat.lt_of_lt_of_le ht HP1.out.below.size
   have hb2'':=Nat.lt_of_lt_of_le hb2 HP1.out.below.size
   rw[←hV1]
   clear hb hV1 hPa hPb hMa hMb cA fA lA cB fB lB npq m1 m2 q2' ht' hb2' HP HM HON
   go_wp2_with fail
   clear m2' q2'' ht'' hb2''
   go_loopw [53] (fun mv wr=>∃ m:Nat,m≤nn∧mv=.int .i64 m∧LsI w wr (MB++[b]) (fun j=>lossF (bN D r j) (if j=k then ((nbs LK k).map Nb.o).take m else (nbs LK j).map Nb.o))∧Hp w w wr [.blk p3 3 (((roomK D r k).set k (roomN D r k (((nbs LK k).map Nb.o).take m))).map intV),.blk p4 151 (lossC D.length (MB++[b]))] []) (fun mv _=>nn - (intOf mv).toNat)
   case atStart=>exact⟨0,Nat.zero_le _,rfl,HM1.out,HP1.out⟩
   case round=>
    clear HM1 HP1
    obtain⟨m,hm,rfl,hM,hP⟩:=hrel
    have HP:=Lib.hid hP
    have HM:=Lib.hid hM
    by_cases hml:m<nn
    ·have j1:(m:Int)<(nn:Int):=by omega
     obtain⟨x,hx⟩:∃ x,(nbs LK k)[m]?=some x:=⟨_,List.getElem?_eq_getElem (by rw[HNN.out];exact hml)⟩
     have hxm:=List.mem_of_getElem? hx
     have hxo:=(HLK.out.nbr k x hlt hxm).1
     have htk:((nbs LK k).map Nb.o).take (m+1)=((nbs LK k).map Nb.o).take m++[x.o]:=by
      rw[List.take_add_one,List.getElem?_map,hx];rfl
     have HTK:=Lib.hid htk
     have HBX:=Lib.hid (fun W hb=>HBL.out k x W hlt hxm hb)
     obtain⟨br,off,rfl,hbr,hc⟩:=(HROW.out.below hP.below).2 (by omega)
     have y0:wr.cell? ⟨br,off+m * 3,none⟩=some (.int .i64 x.o):=hc m x hx 0 (by decide)
     have y1:wr.cell? ⟨br,off+m * 3+1,none⟩=some (.bool x.f):=hc m x hx 1 (by decide)
     have y2:wr.cell? ⟨br,off+m * 3+2,none⟩=some (.pointer (some ⟨x.g,0,none⟩)):=hc m x hx 2 (by decide)
     obtain⟨xo,xf,xg⟩:=x
     dsimp only at y0 y1 y2 HTK HBX hxo
     have HLN:Hid ((((nbs LK k).map Nb.o).take m).length≤512):=Lib.hid (by rw[List.length_take,List.length_map];omega)
     have HBD:=Lib.hid (roomN_bd HPR.out k (((nbs LK k).map Nb.o).take m) HLN.out)
     have HB50:Hid (bN D r k xo≤50):=Lib.hid (Nat.le_trans (blk_le _ _ _ _) (HPR.out.chs _))
     have HRN:=Lib.hid (roomN_snoc D r k (((nbs LK k).map Nb.o).take m) xo)
     rw[←HTK.out] at HRN
     have HMBk:Hid ((MB++[b])[k]?=some b):=Lib.hid (by rw[List.getElem?_append_right (by rw[HMB.out];exact Nat.le_refl _),HMB.out,Nat.sub_self];rfl)
     clear hc hx hxm htk hP hM
     go_upto_region 11 with fail
     obtain⟨V2,hV2⟩:∃ V,V=wr.alloc (.cells #[.int .i64 xo,.bool xf,.pointer (some ⟨xg,0,none⟩)] 105):=⟨_,rfl⟩
     obtain⟨q,hq⟩:∃ q,q=wr.heap.size:=⟨_,rfl⟩
     have hP2:=HP.out.alloc [.int .i64 xo,.bool xf,.pointer (some ⟨xg,0,none⟩)] 105
     rw[show ([.int .i64 xo,.bool xf,.pointer (some ⟨xg,0,none⟩)]:List Value).toArray=#[.int .i64 xo,.bool xf,.pointer (some ⟨xg,0,none⟩)] from rfl,←hV2,←hq] at hP2
     have hM2:LsI w V2 (MB++[b]) (fun j=>lossF (bN D r j) (if j=k then ((nbs LK k).map Nb.o).take m else (nbs LK j).map Nb.o)):=by rw[hV2];exact HM.out.keep ((Below.refl _ wr).alloc (Nat.le_refl _) _)
     have HP2:=Lib.hid hP2
     have HM2:=Lib.hid hM2
     have cB:=hP2.c 1 k rfl (loss_at HMBk.out)
     have lB:=hP2.lt 1 rfl
     have z0:=hP2.c 2 0 rfl rfl
     have z1:=hP2.c 2 1 rfl rfl
     have z2:=hP2.c 2 2 rfl rfl
     have zl:=hP2.lt 2 rfl
     rw[←hV2,←hq]
     clear hV2 hq hP2 hM2 HP HM y0 y1 y2
     go_wp2_with fail
     refine Lx.region (C:=fun Z=>Z.cell? ⟨p4,k,none⟩=some (.map (some b))∧Z.cell? ⟨q,0,none⟩=some (.int .i64 xo)∧Z.cell? ⟨q,1,none⟩=some (.bool xf)∧Z.cell? ⟨q,2,none⟩=some (.pointer (some ⟨xg,0,none⟩))) (hs:=[3,5,8]) (by kernel_rfl) (by kernel_rfl) ⟨cB,z0,z1,z2⟩ ?_
     repeat' (first|((first|refine Lx.ln (fun K hK=>?_) | (first|(refine Lx.lp (v:=?_) ?_ (fun K hK=>?_);rotate_left 1;intro w' hCw;try dsimp only at hCw) | (refine Lx.lr (v:=?_) ?_ (fun K hK=>?_);rotate_left 1));go_simp;first|done | with_reducible rfl);go_simp;refine hK _ ?_;clear hK K) | (refine Lx.le (fun K hK=>?_);go_simp;(first|(go_at_call 51;refine(HBX.out _ HP2.out.drew.below).mono ?_;rintro e W5 ⟨rfl,hb5⟩;have hP5:=HP2.out.drew.keep hb5;have hM5:=(HM2.out.keep (Below.refl _ V2).drew).keep hb5;have r1:=hP5.c 1 k rfl (loss_at HMBk.out);have r2:=hP5.c 2 0 rfl rfl;have r3:=hP5.c 2 1 rfl rfl;have r4:=hP5.c 2 2 rfl rfl;obtain⟨wm,hrun,hm6,hg6⟩:=run_putF (P:=Tryz.prog) (et:=3) int_key Tryz.underlying151 (hM5.mp k b HMBk.out) (xo:Int) (.int .i64 (bN D r k xo:Nat));(try dsimp only at hrun);have hP6:=hP5.mapPut (hM5.mp k b HMBk.out) (hM5.lo b (List.mem_of_getElem? HMBk.out)) hg6;have hM6:=hM5.put HMBk.out hm6 hg6;have s1:=hP6.c 1 k rfl (loss_at HMBk.out);have s2:=hP6.c 2 0 rfl rfl;have s3:=hP6.c 2 1 rfl rfl;have s4:=hP6.c 2 2 rfl rfl;have HP6:=Lib.hid hP6;have HM6:=Lib.hid hM6;clear hb5 hP5 hM5 hm6 hg6 hP6 hM6) | skip | skip);refine hK _ _ (by first|exact⟨cB,z0,z1,z2⟩ | exact⟨r1,r2,r3,r4⟩ | exact⟨s1,s2,s3,s4⟩) ?_;clear hK K) | (refine Lx.lex_cases rfl rfl rfl (fun hgd K hK=>?_) (fun hgd K hK=>?_)<;>(try simp only[decide_eq_true_eq,decide_eq_false_iff_not] at hgd)<;>(first|(exfalso;omega) | (go_simp;refine hK _ ?_;clear hK K))))
     all_goals (refine Lx.lex_nil ?_)
     have hP7:=HP6.out.drew
     have HP7:=Lib.hid hP7
     have hM7:LsI w wm.drew (MB++[b]) (fun j=>lossF (bN D r j) (if j=k then ((nbs LK k).map Nb.o).take (m+1) else (nbs LK j).map Nb.o)):=by
      refine(HM6.out.keep (Below.refl _ wm).drew).congr (fun j hj=>?_)
      (try dsimp only)
      by_cases hjk:j=k
      ·subst hjk
       rw[if_pos rfl,if_pos rfl,if_pos rfl,HTK.out,loss_snoc]
      ·rw[if_neg hjk,if_neg hjk,if_neg hjk]
     have HM7:=Lib.hid hM7
     have hrun2:=run_lookF (P:=Tryz.prog) (et:=3) int_key Tryz.underlying151 (hM7.mp k b HMBk.out) (z:=.int .i64 0) (by kernel_rfl) (xo:Int)
     have hval:(lossF (bN D r k) (if k=k then ((nbs LK k).map Nb.o).take (m+1) else (nbs LK k).map Nb.o) (xo:Int)).getD (.int .i64 0)=.int .i64 (bN D r k xo:Nat):=by
      rw[if_pos rfl,HTK.out,loss_snoc]
      (try dsimp only)
      rw[if_pos rfl];rfl
     (try dsimp only at hrun2)
     rw[hval] at hrun2
     have hrk:k<((roomK D r k).set k (roomN D r k (((nbs LK k).map Nb.o).take m))).length:=by rw[List.length_set,room_len hk];exact hlt
     have hrx:((roomK D r k).set k (roomN D r k (((nbs LK k).map Nb.o).take m)))[k]?=some (roomN D r k (((nbs LK k).map Nb.o).take m)):=by
      rw[List.getElem?_set,if_pos rfl,if_pos (by rw[room_len hk];exact hlt)]
     have cA:=hP7.cI 0 k rfl hrx
     have fA:=hP7.f 0 rfl
     have lA:=hP7.lt 0 rfl
     have cB2:=hP7.c 1 k rfl (loss_at HMBk.out)
     have zz:=hP7.c 2 0 rfl rfl
     have HSS:Hid (((roomK D r k).set k (roomN D r k (((nbs LK k).map Nb.o).take m))).set k (roomN D r k (((nbs LK k).map Nb.o).take (m+1)))=(roomK D r k).set k (roomN D r k (((nbs LK k).map Nb.o).take (m+1)))):=Lib.hid (List.set_set ..)
     have HRN2:=Lib.hid HRN.out
     have e1:IntKind.i64.wrap (roomN D r k (((nbs LK k).map Nb.o).take m) - (bN D r k xo:Nat))=roomN D r k (((nbs LK k).map Nb.o).take (m+1)):=by rw[HRN.out,IntWalk.i64_in _ (by have:=HBD.out;have:=HB50.out;omega)]
     have e2:wrap64 (roomN D r k (((nbs LK k).map Nb.o).take m) - (bN D r k xo:Nat))=roomN D r k (((nbs LK k).map Nb.o).take (m+1)):=by rw[HRN.out];have:=HBD.out;have:=HB50.out;unfold wrap64;omega
     clear hP7 hM7 hval hrk hrx cB z0 z1 z2 zl lB r1 r2 r3 r4 s1 s2 s3 s4 hrun HP6 HM6 HP2 HM2 HRN
     generalize roomN D r k (((nbs LK k).map Nb.o).take m)=X at *
     generalize hX':roomN D r k (((nbs LK k).map Nb.o).take (m+1))=X' at *
     have HX':=Eqn.mk hX'
     clear hX'
     go_wp2_with fail
     refine Lx.region (C:=fun _=>True) (hs:=[]) (by kernel_rfl) (by kernel_rfl) trivial ?_
     repeat' (first|((first|refine Lx.ln (fun K hK=>?_) | (first|(refine Lx.lp (v:=?_) ?_ (fun K hK=>?_);rotate_left 1;intro w' hCw;try dsimp only at hCw) | (refine Lx.lr (v:=?_) ?_ (fun K hK=>?_);rotate_left 1));go_simp;first|done | with_reducible rfl);go_simp;refine hK _ ?_;clear hK K) | (refine Lx.le (fun K hK=>?_);go_simp;(first|fail | skip);refine hK _ _ (trivial) ?_;clear hK K) | (refine Lx.lex_cases rfl rfl rfl (fun hgd K hK=>?_) (fun hgd K hK=>?_)<;>(try simp only[decide_eq_true_eq,decide_eq_false_iff_not] at hgd)<;>(first|(exfalso;omega) | (go_simp;refine hK _ ?_;clear hK K))))
     all_goals (refine Lx.lex_nil ?_)
     clear hrun2 cA fA lA cB2 zz e1 e2
     have hM8:LsI w ((wm.setCell ⟨p3,k,none⟩ (.int .i64 X')).drew) (MB++[b]) (fun j=>lossF (bN D r j) (if j=k then ((nbs LK k).map Nb.o).take (m+1) else (nbs LK j).map Nb.o)):=HM7.out.cells HP7.out (e:=.blk p3 3 ((((roomK D r k).set k X)).map intV)) (by simp) (grownBy_cell wm.drew p3 k (.int .i64 X'))
     have hP8:=((HP7.out.setI 0 k X' rfl).sub (L':=[.blk p3 3 ((((roomK D r k).set k X).set k X').map intV),.blk p4 151 (lossC D.length (MB++[b]))]) (by simp)).rebase
     rw[HSS.out] at hP8
     have HM8:=Lib.hid hM8
     have HP8:=Lib.hid (show Hp w ((wm.setCell ⟨p3,k,none⟩ (.int .i64 X')).drew) ((wm.setCell ⟨p3,k,none⟩ (.int .i64 X')).drew) _ [] from hP8)
     clear hM8 hP8 HM7 HP7
     generalize (wm.setCell ⟨p3,k,none⟩ (.int .i64 X')).drew=V9 at *
     go_wp2_with fail
     go_roundw
     case rel=>exact⟨m+1,hml,by go_num,HM8.out,by rw[HX'.out];exact HP8.out.base⟩
     case measure=>simp[intOf];omega
    ·obtain rfl:m=nn:=by omega
     have j1:¬((m:Nat):Int)<(m:Int):=by omega
     have hall:((nbs LK k).map Nb.o).take m=(nbs LK k).map Nb.o:=List.take_of_length_le (by rw[List.length_map,HNN.out];exact Nat.le_refl _)
     have hrm:roomN D r k ((nbs LK k).map Nb.o)=rmF D r (List.range D.length) k:=by
      rw[room_start (HLK.out.nd k hlt) (fun o ho=>by obtain⟨y,hy,rfl⟩:=List.mem_map.1 ho;exact(HLK.out.nbr k y hlt hy).1) (fun j hj hn=>(HLK.out.zero HPR.out hlt hj hn).1),chA_of HPR.out.nd hlt];rfl
     have HP9:Hid (Hp w w wr [.blk p3 3 ((roomK D r (k+1)).map intV),.blk p4 151 (lossC D.length (MB++[b]))] []):=Lib.hid (by
      have h:=HP.out
      rw[hall,hrm] at h
      have e:=room_set (D:=D) (r:=r) hlt 0
      rw[List.set_set] at e
      rw[e] at h
      exact h)
     have HM9:Hid (LsI w wr (MB++[b]) (fun j=>lossF (bN D r j) ((nbs LK j).map Nb.o))):=Lib.hid (HM.out.congr (fun j hj=>by
      by_cases hjk:j=k
      ·subst hjk;rw[if_pos rfl,hall]
      ·rw[if_neg hjk]))
     clear hP hM HP HM hall hrm
     go_wp2_with fail
     go_roundw
     case rel=>exact⟨k+1,MB++[b],hlt,by go_num,by rw[List.length_append,HMB.out];rfl,HM9.out,HP9.out⟩
     case measure=>simp[intOf];omega
  ·obtain rfl:k=D.length:=by omega
   have j0:¬((D.length:Nat):Int)<(D.length:Int):=by omega
   have hi:=hi0
   have HP1:Hid (Hp w w wo [.blk p3 3 (((List.range D.length).map (rmF D r (List.range D.length))).map intV),.blk p4 151 (lossC D.length MB),.row (.slice none 0 0) 3 1 0 []] []):=Lib.hid (by
    have h:=HP.out.nil 3 1
    rw[room_full] at h;exact h)
   have q0':=(hP.below.cell (p:=⟨t,0,none⟩) ht).trans q0
   have ht':=Nat.lt_of_lt_of_le ht hP.below.size
   clear hP hM HP
   go_upto_region 17 with (at_make;refine wpList_make_full _ rfl _ _ 152 rfl w.heap.size 4 i2 (.bool false) 1 Tryz.underlying152 hi2 hx0 hx1 .i64 .i64 _ _ D.length rfl rfl rfl rfl (by rw[hx2];omega) (by unfold maxLen;omega) HP1.out.below.size ?_;intro W3 hown hgrow;rw[made_one (.bool false) (by simp[Value.cells])] at hown;have HP2:=Lib.hid (HP1.out.madeV hown hgrow (Nat.le_refl _));have HM2:=Lib.hid (HM.out.keep ⟨hgrow.os,hgrow.tape,hgrow.output,hgrow.size,fun k hk=>hgrow.block k hk (by simp)⟩);clear hown hgrow)
   clear q0' ht' HP1 HM
   generalize wo.heap.size=p10 at *
   have HP3:Hid (Hp w w W3 [.blk p3 3 (((List.range D.length).map (rmF D r (List.range D.length))).map intV),.blk p4 151 (lossC D.length MB),.row (.slice none ([]:List Nat).length 0) 3 1 ([]:List Nat).length ((([]:List Nat).map fun o:Nat=>(o:Int)).map intV),.blk p10 4 (gC D.length (List.range D.length))] []):=Lib.hid (by rw[gC_full];exact HP2.out)
   clear HP2
   go_wp2_with fail
   go_loopw [9,11] (fun sv iv wr=>∃(i:Nat) (S O:List Nat) (A:Option Addr) (cp:Nat),i≤D.length∧iv=.int .i64 i∧sv=.slice A O.length cp∧PlS D r i S O∧LsI w wr MB (fun j=>lossF (bN D r j) ((nbs LK j).map Nb.o))∧Hp w w wr [.blk p3 3 (((List.range D.length).map (rmF D r S)).map intV),.blk p4 151 (lossC D.length MB),.row (.slice A O.length cp) 3 1 O.length ((O.map fun o:Nat=>(o:Int)).map intV),.blk p10 4 (gC D.length S)] []) (fun sv iv _=>(D.length - lenOf sv) * (D.length+2)+(D.length - (intOf iv).toNat))
   case atStart=>exact⟨0,_,[],none,0,Nat.zero_le _,rfl,rfl,PlS.start D r,HM2.out,HP3.out⟩
   case round=>
    clear HM2 HP3
    obtain⟨i,S,O,A,cp,hi',rfl,rfl,hS,hM,hP⟩:=hrel
    have HP:=Lib.hid hP
    have HM:=Lib.hid hM
    have HS:=Lib.hid hS
    by_cases hil:i<D.length
    ·have j1:(i:Int)<(D.length:Int):=by omega
     have cG:=hP.c 3 i rfl (gC_at S hil)
     have lG:=hP.lt 3 rfl
     have fG:=hP.f 3 rfl
     have hri:((List.range D.length).map (rmF D r S))[i]?=some (rmF D r S i):=by rw[List.getElem?_map,List.getElem?_range hil];rfl
     have cR:=hP.cI 0 i rfl hri
     have lR:=hP.lt 0 rfl
     by_cases hiS:i∈S
     ·have dS:decide (i∈S)=true:=decide_eq_true hiS
      rw[dS,Bool.not_true] at cG
      have HIS:=Lib.hid hiS
      have hez:=rm_easy D r S i
      by_cases hrm:0<rmF D r S i
      ·have d1:decide (rmF D r S i≤0)=false:=decide_eq_false (by omega)
       rw[decide_eq_true hrm] at hez
       have HEZ:=Lib.hid hez
       clear hS hM hP hri hez hrm dS hiS
       have hol:=HS.out.len
       have HTK:=Lib.hid (HS.out.take HPR.out.nd HIS.out HEZ.out)
       have hol2:O.length+1≤D.length:=by have:=HTK.out.len;rwa [List.length_append] at this
       obtain⟨b2,o2,rfl,hb2,hc2⟩:=HR2.out.2 (by omega)
       obtain⟨N,hN⟩:∃ N,NV[i]?=some N:=⟨_,List.getElem?_eq_getElem (by rw[HNV.out];exact hil)⟩
       have m2:w.cell? ⟨b2,o2+i,none⟩=some N.val:=hc2 i N hN
       have HROW:=Lib.hid (HR3.out i N hN)
       obtain⟨An,nn,cn⟩:=N
       unfold NH.val at m2
       dsimp only at m2 HROW
       have HNN:Hid ((nbs LK i).length=nn):=Lib.hid HROW.out.1
       have hnn:nn≤512:=by have:=HLK.out.len hil;have:=HNN.out;omega
       clear hc2 hN
       go_upto_region 22 with fail
       obtain⟨V1,hV1⟩:∃ V,V=wr.setCell ⟨p10,i,none⟩ (.bool true):=⟨_,rfl⟩
       have hPv:=HP.out.set 3 i (.bool true) rfl
       have hMv:=HM.out.cells HP.out (e:=.blk p10 4 (gC D.length S)) (by simp) (grownBy_cell wr p10 i (.bool true))
       rw[←hV1] at hPv hMv
       have HPv:=Lib.hid hPv
       have HMv:=Lib.hid hMv
       rw[←hV1]
       clear hV1 hPv hMv cG lG fG cR lR d1 HP HM
       go_upto_region 23 with (at_builtin;refine wpList_append_own_at _ rfl _ _ 32 rfl w.heap.size 3 i0 (.int .i64 0) 1 8 Tryz.underlying32 hi hz0 hz1 hz2 rfl (by decide) _ _ _ rfl ((HPv.out.row 2 rfl).alloc _) ⟨V1.heap.size,0,none⟩ 1 1 [.int .i64 i] rfl rfl (cell_one_new _ _ _) (by simp[Value.oneCell']) (by unfold maxLen;omega) (by omega) (by have:=HPv.out.below.size;simp;omega) ?_;intro v7 w7 hown' hgrow _ hat;have HM7:=Lib.hid ((HMv.out.keep ((Below.refl _ V1).alloc (Nat.le_refl _) (.cells #[.int .i64 i] 3))).cells (HPv.out.alloc0 (.cells #[.int .i64 i] 3)) (e:=.row (.slice A O.length cp) 3 1 O.length ((O.map fun o:Nat=>(o:Int)).map intV)) (by simp) hgrow);have HP7:=Lib.hid ((HPv.out.alloc0 _).grow 2 rfl hgrow hown' hat);obtain⟨A7,cp7,rfl⟩:=HP7.out.form 2 rfl;clear hown' hgrow hat)
       have HO1:Eqn (O++[i]).length (O.length+1):=by rw[Eqn,List.length_append];rfl
       have HP8:Hid (Hp w w w7 [.blk p3 3 ((upF (fun o=>bN D r o i) (((nbs LK i).map Nb.o).take 0) ((List.range D.length).map (rmF D r S))).map intV),.blk p4 151 (lossC D.length MB),.row (.slice A7 (O.length+1) cp7) 3 1 (O.length+1) (((O++[i]).map fun o:Nat=>(o:Int)).map intV),.blk p10 4 (gC D.length (S.filter fun j=>!decide (j=i)))] []):=Lib.hid (by
        have h:=HP7.out.base
        rw[←gC_set S hil,List.map_append,List.map_append]
        exact h)
       have m2':=(HP8.out.below.cell (p:=⟨b2,o2+i,none⟩) hb2).trans m2
       have q2':=(HP8.out.below.cell (p:=⟨t,2,none⟩) ht).trans q2
       have ht':=Nat.lt_of_lt_of_le ht HP8.out.below.size
       have hb2':=Nat.lt_of_lt_of_le hb2 HP8.out.below.size
       clear HP7 HPv HMv m2
       go_wp2_with fail
       clear m2' q2' ht' hb2'
       go_loopw [120] (fun mv wr=>∃ m:Nat,m≤nn∧mv=.int .i64 m∧LsI w wr MB (fun j=>lossF (bN D r j) ((nbs LK j).map Nb.o))∧Hp w w wr [.blk p3 3 ((upF (fun o=>bN D r o i) (((nbs LK i).map Nb.o).take m) ((List.range D.length).map (rmF D r S))).map intV),.blk p4 151 (lossC D.length MB),.row (.slice A7 (O.length+1) cp7) 3 1 (O.length+1) (((O++[i]).map fun o:Nat=>(o:Int)).map intV),.blk p10 4 (gC D.length (S.filter fun j=>!decide (j=i)))] []) (fun mv _=>nn - (intOf mv).toNat)
       case atStart=>exact⟨0,Nat.zero_le _,rfl,HM7.out,HP8.out⟩
       case round=>
        clear HM7 HP8
        obtain⟨m,hm,rfl,hM,hP⟩:=hrel
        have HP:=Lib.hid hP
        have HM:=Lib.hid hM
        by_cases hml:m<nn
        ·have j2:(m:Int)<(nn:Int):=by omega
         obtain⟨x,hx⟩:∃ x,(nbs LK i)[m]?=some x:=⟨_,List.getElem?_eq_getElem (by rw[HNN.out];exact hml)⟩
         have hxo:=(HLK.out.nbr i x hil (List.mem_of_getElem? hx)).1
         have HUP:=Lib.hid (up_take (B:=fun o=>bN D r o i) (R:=(List.range D.length).map (rmF D r S)) (show ((nbs LK i).map Nb.o)[m]?=some x.o by rw[List.getElem?_map,hx];rfl))
         obtain⟨br,off,rfl,hbr,hc⟩:=(HROW.out.below hP.below).2 (by omega)
         have y0:wr.cell? ⟨br,off+m * 3,none⟩=some (.int .i64 x.o):=hc m x hx 0 (by decide)
         have y1:wr.cell? ⟨br,off+m * 3+1,none⟩=some (.bool x.f):=hc m x hx 1 (by decide)
         have y2:wr.cell? ⟨br,off+m * 3+2,none⟩=some (.pointer (some ⟨x.g,0,none⟩)):=hc m x hx 2 (by decide)
         obtain⟨xo,xf,xg⟩:=x
         dsimp only at y0 y1 y2 hxo HUP
         have j3:(xo:Int)<(D.length:Int):=by omega
         obtain⟨b,hb⟩:∃ b,MB[xo]?=some b:=⟨_,List.getElem?_eq_getElem (by omega)⟩
         have HB:=Lib.hid hb
         have HBD:Hid (∀ y∈upF (fun o=>bN D r o i) (((nbs LK i).map Nb.o).take m) ((List.range D.length).map (rmF D r S)),-70000≤y∧y≤70000):=Lib.hid (fun y hy=>by
          have h1:=up_bd (fun o=>bN D r o i) (fun k=>Nat.le_trans (blk_le _ _ _ _) (Nat.le_trans (HPR.out.chs _) (by decide))) (((nbs LK i).map Nb.o).take m) ((List.range D.length).map (rmF D r S)) 30000 (fun z hz=>by
           obtain⟨k,_,rfl⟩:=List.mem_map.1 hz
           refine rm_bd HPR.out.chs (n:=D.length) ?_ hlen k
           exact nat_len (HS.out.up.imp (fun {a b} h=>by omega)) HS.out.lt) (by decide) y hy
          have h2:(((nbs LK i).map Nb.o).take m).length≤512:=by rw[List.length_take,List.length_map];omega
          omega)
         have hul:(upF (fun o=>bN D r o i) (((nbs LK i).map Nb.o).take m) ((List.range D.length).map (rmF D r S))).length=D.length:=by rw[up_len];simp
         obtain⟨y,hy⟩:∃ y,(upF (fun o=>bN D r o i) (((nbs LK i).map Nb.o).take m) ((List.range D.length).map (rmF D r S)))[xo]?=some y:=⟨_,List.getElem?_eq_getElem (by rw[hul];exact hxo)⟩
         have hyb:=HBD.out y (List.mem_of_getElem? hy)
         have HB50:Hid (bN D r xo i≤50):=Lib.hid (Nat.le_trans (blk_le _ _ _ _) (HPR.out.chs _))
         have hyD:(upF (fun o=>bN D r o i) (((nbs LK i).map Nb.o).take m) ((List.range D.length).map (rmF D r S))).getD xo 0=y:=by rw[List.getD_eq_getElem?_getD,hy];rfl
         rw[hyD] at HUP
         have hlook:=loss_look HLK.out HPR.out hxo hil
         generalize upF (fun o=>bN D r o i) (((nbs LK i).map Nb.o).take m) ((List.range D.length).map (rmF D r S))=U at *
         have HY:=Lib.hid hy
         clear hc hx hP hM hb hul hyD hy
         go_upto_region 26 with fail
         obtain⟨V2,hV2⟩:∃ V,V=wr.alloc (.cells #[.int .i64 xo,.bool xf,.pointer (some ⟨xg,0,none⟩)] 105):=⟨_,rfl⟩
         obtain⟨q,hq⟩:∃ q,q=wr.heap.size:=⟨_,rfl⟩
         have hP2:=HP.out.alloc [.int .i64 xo,.bool xf,.pointer (some ⟨xg,0,none⟩)] 105
         rw[show ([.int .i64 xo,.bool xf,.pointer (some ⟨xg,0,none⟩)]:List Value).toArray=#[.int .i64 xo,.bool xf,.pointer (some ⟨xg,0,none⟩)] from rfl,←hV2,←hq] at hP2
         have hM2:LsI w V2 MB (fun j=>lossF (bN D r j) ((nbs LK j).map Nb.o)):=by rw[hV2];exact HM.out.keep ((Below.refl _ wr).alloc (Nat.le_refl _) _)
         have hM3:=hM2.keep (Below.refl _ V2).drew
         have hrun2:=run_lookF (P:=Tryz.prog) (et:=3) int_key Tryz.underlying151 (hM3.mp xo b HB.out) (z:=.int .i64 0) (by kernel_rfl) (i:Int)
         (try dsimp only at hrun2)
         rw[hlook] at hrun2
         have HP2:=Lib.hid hP2
         have HM3:=Lib.hid hM3
         have cA:=hP2.cI 0 xo rfl HY.out
         have fA:=hP2.f 0 rfl
         have lA:=hP2.lt 0 rfl
         have cB:=hP2.c 1 xo rfl (loss_at HB.out)
         have lB:=hP2.lt 1 rfl
         have zz:=hP2.c 4 0 rfl rfl
         have zl:=hP2.lt 4 rfl
         have e1:IntKind.i64.wrap (y+(bN D r xo i:Nat))=y+(bN D r xo i:Nat):=IntWalk.i64_in _ (by have:=HB50.out;omega)
         have e2:wrap64 (y+(bN D r xo i:Nat))=y+(bN D r xo i:Nat):=by have:=HB50.out;unfold wrap64;omega
         rw[←hV2,←hq]
         clear hV2 hq hP2 hM2 hM3 HP HM y0 y1 y2 hlook hyb
         go_wp2_with fail
         refine Lx.region (C:=fun _=>True) (hs:=[]) (by kernel_rfl) (by kernel_rfl) trivial ?_
         repeat' (first|((first|refine Lx.ln (fun K hK=>?_) | (first|(refine Lx.lp (v:=?_) ?_ (fun K hK=>?_);rotate_left 1;intro w' hCw;try dsimp only at hCw) | (refine Lx.lr (v:=?_) ?_ (fun K hK=>?_);rotate_left 1));go_simp;first|done | with_reducible rfl);go_simp;refine hK _ ?_;clear hK K) | (refine Lx.le (fun K hK=>?_);go_simp;(first|fail | skip);refine hK _ _ (trivial) ?_;clear hK K) | (refine Lx.lex_cases rfl rfl rfl (fun hgd K hK=>?_) (fun hgd K hK=>?_)<;>(try simp only[decide_eq_true_eq,decide_eq_false_iff_not] at hgd)<;>(first|(exfalso;omega) | (go_simp;refine hK _ ?_;clear hK K))))
         all_goals (refine Lx.lex_nil ?_)
         have hM8:LsI w ((V2.setCell ⟨p3,xo,none⟩ (.int .i64 (y+(bN D r xo i:Nat)))).drew) MB (fun j=>lossF (bN D r j) ((nbs LK j).map Nb.o)):=HM3.out.cells HP2.out.drew (e:=.blk p3 3 (U.map intV)) (by simp) (grownBy_cell V2.drew p3 xo (.int .i64 (y+(bN D r xo i:Nat))))
         have hP8:=((HP2.out.drew.setI 0 xo (y+(bN D r xo i:Nat)) rfl).sub (L':=[.blk p3 3 ((U.set xo (y+(bN D r xo i:Nat))).map intV),.blk p4 151 (lossC D.length MB),.row (.slice A7 (O.length+1) cp7) 3 1 (O.length+1) (((O++[i]).map fun o:Nat=>(o:Int)).map intV),.blk p10 4 (gC D.length (S.filter fun j=>!decide (j=i)))]) (by simp)).base
         rw[←HUP.out] at hP8
         have HM8:=Lib.hid hM8
         have HP8:=Lib.hid hP8
         have hw8:(V2.drew.setCell ⟨p3,xo,none⟩ (.int .i64 (y+(bN D r xo i:Nat))))=((V2.setCell ⟨p3,xo,none⟩ (.int .i64 (y+(bN D r xo i:Nat)))).drew):=rfl
         rw[hw8] at HP8
         clear hM8 hP8 HP2 HM3 hw8 hrun2 cA fA lA cB lB zz zl e1 e2
         generalize (V2.setCell ⟨p3,xo,none⟩ (.int .i64 (y+(bN D r xo i:Nat)))).drew=V9 at *
         go_wp2_with fail
         go_roundw
         case rel=>exact⟨m+1,hml,by go_num,HM8.out,HP8.out⟩
         case measure=>simp[intOf];omega
        ·obtain rfl:m=nn:=by omega
         have j2:¬((m:Nat):Int)<(m:Int):=by omega
         have HP9:Hid (Hp w w wr [.blk p3 3 (((List.range D.length).map (rmF D r (S.filter fun j=>!decide (j=i)))).map intV),.blk p4 151 (lossC D.length MB),.row (.slice A7 (O++[i]).length cp7) 3 1 (O++[i]).length (((O++[i]).map fun o:Nat=>(o:Int)).map intV),.blk p10 4 (gC D.length (S.filter fun j=>!decide (j=i)))] []):=Lib.hid (by
          have h:=HP.out
          rw[List.take_of_length_le (by rw[List.length_map,HNN.out];exact Nat.le_refl _),up_room (HS.out.up.imp (fun {a b} h=>by omega)) HIS.out (HLK.out.nd i hil) (fun o ho=>by obtain⟨y,hy,rfl⟩:=List.mem_map.1 ho;exact(HLK.out.nbr i y hil hy).1) (fun k hk hn=>(HLK.out.zero HPR.out hil hk hn).2)] at h
          rw[HO1.out];exact h)
         clear hP hM HP
         go_wp2_with fail
         go_roundw
         case rel=>exact⟨0,S.filter fun j=>!decide (j=i),O++[i],A7,cp7,Nat.zero_le _,by go_num,by rw[HO1.out],HTK.out,HM.out,HP9.out⟩
         case measure=>
          simp only[intOf,lenOf]
          obtain⟨q,hq⟩:∃ q,D.length - O.length=q+1:=⟨D.length - O.length - 1,by omega⟩
          have hq2:D.length - (O.length+1)=q:=by omega
          rw[hq,hq2,Nat.succ_mul]
          simp;omega
      ·have d1:decide (rmF D r S i≤0)=true:=decide_eq_true (by omega)
       rw[decide_eq_false hrm] at hez
       have HEZ:=Lib.hid hez
       clear hS hM hP hri hez hrm dS hiS
       go_wp2_with fail
       go_roundw
       case rel=>exact⟨i+1,S,O,A,cp,hil,by go_num,rfl,HS.out.skip (fun _=>HEZ.out),HM.out,HP.out⟩
       case measure=>simp[intOf,lenOf];omega
     ·have dS:decide (i∈S)=false:=decide_eq_false hiS
      rw[dS,Bool.not_false] at cG
      have HIS:=Lib.hid hiS
      clear hS hM hP hri hiS dS
      go_wp2_with fail
      go_roundw
      case rel=>exact⟨i+1,S,O,A,cp,hil,by go_num,rfl,HS.out.skip (fun h=>absurd h HIS.out),HM.out,HP.out⟩
      case measure=>simp[intOf,lenOf];omega
    ·obtain rfl:i=D.length:=by omega
     have j1:¬((D.length:Nat):Int)<(D.length:Int):=by omega
     have HO:=Lib.hid (hP.row 2 rfl)
     clear hS hM hP
     go_wp2_with fail
     go_ret
     exact⟨O,HS.out.done,fun o ho=>(HS.out.ol o ho).1,HS.out.on,_,rfl,HO.out,HP.out.below⟩
section
variable {P : Program}
end
theorem cells_newR (w:World) (cs:List Value) (t:TypeId):∀(j:Nat) (u:Value),cs[j]?=some u→(w.alloc (.cells cs.toArray t)).cell? ((⟨w.heap.size,0,none⟩:Addr).add j)=some u:=by
 intro j u h
 have h0:=(blk_new w cs t).cell h
 unfold Addr.add
 by_cases hj:j=0
 ·subst hj;simpa using h0
 ·rw[if_neg hj];simpa using h0
def ChsPost (r:List (Int×Int)×Int) (w:World) (e:Ending) (w':World):Prop:=∃ v,e=.returned (.tuple #[v,.int .i64 r.2])∧w'.ownsRow w.heap.size 75 2 v r.1.length (flat 2 chC r.1)∧Below w.heap.size w w'
theorem ch_info:(Tryz.prog.info? 75).map (fun i=>(i.zero,i.size,i.bytes))=some (some (.agg #[.int .i64 0,.int .i64 0]),2,16):=by kernel_rfl
end Go.Proofs.YtjakdikhdndlgaaGreatDoor
namespace Go.Proofs.YtjakdikhdndlgaaGreatDoor
open Go.RowKit Go.Shelf
theorem hasL_st {L:List Int} (h:stOk L=true):hasL L=hasS (stS L):=by
 funext x
 rw[hasS_mem (stOk_in h),hasL_mem]
theorem all_inD {ds:List Dom} {L:List Int} (h:stOk L=true) (hv:∀ y∈ds.map Dom.st,0≤y∧y<512):L.all (inD ds)=decide (mi (stS L) (stS (ds.map Dom.st))=0):=by
 rw[Bool.eq_iff_iff,List.all_eq_true,decide_eq_true_eq,sub_iff (stOk_in h) hv]
 constructor
 ·intro h1 x hx;have:=h1 x hx;rwa [inD_mem,decide_eq_true_eq] at this
 ·intro h1 x hx;rw[inD_mem,decide_eq_true_eq];exact h1 x hx
theorem keepR_res {L:List Int} (h:stOk L=true) (r:Rul):keepR L r=resR (stS L) r:=by unfold keepR resR;rw[hasL_st h]
theorem rrest_ok {ds:List Dom} {r:Rul} {L:List Int} (hv:validP ds r=true) (hd:∀ d∈ds,d.len=d.chs.length) (h:stOk L=true):rrestF ds r L=if mi (stS L) (stS (ds.map Dom.st))=0 then (((resD (stS L) ds).map Dom.say,resR (stS L) r),0) else (([],⟨[],[],[]⟩),9):=by
 unfold rrestF
 rw[if_pos ⟨by rw[←valid_eq hd];exact hv,h⟩,all_inD h (valid_st hv).1,keepR_res h,hasL_st h]
 by_cases hm:mi (stS L) (stS (ds.map Dom.st))=0
 ·rw[if_pos hm,if_pos (decide_eq_true hm)];rfl
 ·rw[if_neg hm,if_neg (by simpa using hm)]
theorem inc_ok {ds:List Dom} {r:Rul} (hv:validP ds r=true) {L:List Int} (hs:∀ x∈L,x∈ds.map Dom.st) (hp:L.Pairwise (·<·)):stOk L=true:=by
 have h:=vpr hv
 rw[←stGo_ok,stGo_iff]
 exact⟨fun x hx=>⟨(stF_iff _).2 (h.sts.1 x (hs x hx)),fun q e=>(by cases e)⟩,hp⟩
theorem core_mem {ds:List Dom} {r:Rul}:∀ x∈(peelF (ds.map Dom.say) r).2,x∈ds.map Dom.st:=fun x hx=>by
 have:=core_sub (ds.map Dom.say) r x hx
 rwa [say_st] at this
theorem core_ok {ds:List Dom} {r:Rul} (hv:validP ds r=true):stOk (peelF (ds.map Dom.say) r).2=true:=
 inc_ok hv core_mem (by rw[core_list,say_st];exact(vpr hv).up.filter _)
theorem core_zero {ds:List Dom} {r:Rul} (hv:validP ds r=true):mi (stS (peelF (ds.map Dom.say) r).2) (stS (ds.map Dom.st))=0:=(sub_iff (stOk_in (core_ok hv)) (vpr hv).sts.1).2 core_mem
theorem fine_say {ds es:List Dom} (h:ds.map Dom.say=es.map Dom.say) (r:Rul) (l:List (Int×Int)):fineF ds r l=fineF es r l:=by unfold fineF;rw[ok_say h]
def fitC (ds:List Dom) (r:Rul) (l:List (Int×Int)):Bool:=fineF (resD (stS (peelF (ds.map Dom.say) r).2) ds) (resR (stS (peelF (ds.map Dom.say) r).2) r) l
def exR (ds:List Dom) (r:Rul) (l:List (Int×Int)):List (Int×Int)×Int:=if validP ds r=true∧vlGo none l=true then (if fitC ds r l=true then (extF (ds.map Dom.say) r l,0) else ([],10)) else ([],2)
end Go.Proofs.YtjakdikhdndlgaaGreatDoor
