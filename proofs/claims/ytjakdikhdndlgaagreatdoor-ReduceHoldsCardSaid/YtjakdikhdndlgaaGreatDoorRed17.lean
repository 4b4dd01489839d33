/- Lemmas of the proof, part 17. Conditions: none. -/
import Derived.Test.YtjakdikhdndlgaaGreatDoorRed16
set_option maxRecDepth 100000
namespace Go.Proofs.YtjakdikhdndlgaaGreatDoor
open Go.RowKit
def onL (D:Dms) (pl:List (Int×Int)):List Int:=D.map fun d=>onF pl d.1
theorem onL_len (D:Dms) (pl:List (Int×Int)):(onL D pl).length=D.length:=by unfold onL;rw[List.length_map]
theorem onL_at {D:Dms} {pl:List (Int×Int)} {i:Nat} (h:i<D.length):(onL D pl)[i]?=some (onF pl (stA D i)):=by
 have e:D[i]?=some D[i]:=List.getElem?_eq_getElem h
 unfold onL
 rw[List.getElem?_map,e,Option.map_some,stA_at e]
theorem onL_getD {D:Dms} {pl:List (Int×Int)} {i:Nat} (h:i<D.length):(onL D pl).getD i 0=onF pl (stA D i):=by
 rw[List.getD_eq_getElem?_getD,onL_at h];rfl
theorem onL_nil (D:Dms):onL D []=List.replicate D.length 0:=by
 apply List.ext_getElem?
 intro k
 unfold onL
 rw[List.getElem?_map,List.getElem?_replicate]
 by_cases h:k<D.length
 ·rw[if_pos h,List.getElem?_eq_getElem h];rfl
 ·rw[if_neg h,List.getElem?_eq_none (by omega)];rfl
theorem onL_snoc {D:Dms} (hD:(D.map Prod.fst).Nodup) {pl:List (Int×Int)} {i:Nat} {c:Int} (hi:i<D.length) (hs:stA D i∉pl.map Prod.fst):onL D (pl++[(stA D i,c)])=(onL D pl).set i c:=by
 apply List.ext_getElem?
 intro k
 rw[List.getElem?_set,onL_len]
 by_cases hk:i=k
 ·subst hk
  rw[if_pos rfl,if_pos hi,onL_at hi,on_append,if_neg hs,onF,if_pos rfl]
 ·rw[if_neg hk]
  by_cases hl:k<D.length
  ·rw[onL_at hl,onL_at hl]
   have hne:stA D k≠stA D i:=fun h=>hk (st_inj hD hi hl h.symm)
   congr 1
   rw[on_append]
   split
   ·rfl
   ·rename_i hn;rw[onF,if_neg (Ne.symm hne),onF,on_none hn]
  ·rw[List.getElem?_eq_none (by rw[onL_len];omega),List.getElem?_eq_none (by rw[onL_len];omega)]
theorem on_mem {n:Int}:∀ {pl:List (Int×Int)},onF pl n≠0→(n,onF pl n)∈pl
 | [],h=>absurd rfl h
 | x::q,h=>by
  rw[onF] at h ⊢
  by_cases e:x.1=n
  ·rw[if_pos e,←e];exact List.mem_cons_self ..
  ·rw[if_neg e] at h ⊢;exact List.mem_cons_of_mem _ (on_mem h)
theorem fr_tb {LK:List Lk} {on:List Int} {k:Nat}:∀(nb:List Nb) (m:Nat),(frF LK on nb m).testBit k=(m.testBit k&&nb.all fun x=>decide (on.getD x.o 0=0)||match LK.find? fun l=>decide (l.g=x.g) with | some l=>!(bkF x.f l.ps l.sh (on.getD x.o 0)).testBit k | none=>true)
 | [],m=>by unfold frF;simp
 | x::q,m=>by
  have h:=fr_tb (LK:=LK) (on:=on) (k:=k) q (if on.getD x.o 0=0 then m else match LK.find? fun l=>decide (l.g=x.g) with
   | some l=>mi m (bkF x.f l.ps l.sh (on.getD x.o 0))
   | none=>m)
  have e:frF LK on (x::q) m=frF LK on q (if on.getD x.o 0=0 then m else match LK.find? fun l=>decide (l.g=x.g) with
   | some l=>mi m (bkF x.f l.ps l.sh (on.getD x.o 0))
   | none=>m):=rfl
  rw[e,h,List.all_cons,←Bool.and_assoc]
  congr 1
  by_cases h0:on.getD x.o 0=0
  ·rw[if_pos h0,decide_eq_true h0,Bool.true_or,Bool.and_true]
  ·rw[if_neg h0,decide_eq_false h0,Bool.false_or]
   cases LK.find? (fun l=>decide (l.g=x.g)) with
   | none=>simp
   | some l=>exact mi_tb _ _ _
theorem free_bits {D:Dms} {r:Rul} {LK:List Lk} (hl:LkAll D r LK) (hp:PrI D r) {pl:List (Int×Int)} (hn:(pl.map Prod.fst).Nodup) (hst:∀ x∈pl,x.1∈D.map Prod.fst) (hch:∀ x∈pl,x.2∈chsOf D x.1) {i:Nat} (hi:i<D.length) (k:Nat):
  (frF LK (onL D pl) (nbs LK i) (stS (chA D i))).testBit k=(decide ((k:Int)∈chA D i)&&pl.all fun x=>!blkd r (stA D i) k x.1 x.2):=by
 have hne:∀ x∈r.pairs,x.a≠x.b:=fun x hx=>by have:=(hp.prs x hx).1;omega
 rw[fr_tb,chs_bit (hp.ch.at i).1]
 by_cases hk:(k:Int)∈chA D i
 ·rw[decide_eq_true hk,Bool.true_and,Bool.true_and,Bool.eq_iff_iff,List.all_eq_true,List.all_eq_true]
  have hk2:=(hp.ch.at i).1 _ hk
  have hc2:∀ j,j<D.length→∀ x∈pl,x.1=stA D j→2≤x.2∧x.2≤51:=fun j hj x hx e=>by
   have:=hch x hx
   rw[e,chA_of hp.nd hj] at this
   exact(hp.ch.at j).1 _ this
  have key:∀ y∈nbs LK i,∀ d:Int,2≤d∧d≤51→(match LK.find? fun l=>decide (l.g=y.g) with | some l=>!(bkF y.f l.ps l.sh d).testBit k | none=>true)=!blkd r (stA D i) k (stA D y.o) d:=by
   intro y hy d hd
   obtain⟨h1,h2,h3,l,h4,h5,h6⟩:=hl.nbr i y hi hy
   rw[h4]
   have hsn:stA D i≠stA D y.o:=fun e=>h2 (st_inj hp.nd hi h1 e).symm
   have:=blk_bits hp.prs h6 hsn hk2 hd
   rw[Int.toNat_natCast,←h3] at this
   dsimp only
   rw[this]
  constructor
  ·intro h x hx
   obtain⟨j,hj,ej⟩:=List.getElem_of_mem (hst x hx)
   rw[List.length_map] at hj
   have ej:stA D j=x.1:=by rw[←ej];unfold stA;rw[List.getD_eq_getElem?_getD,List.getElem?_eq_getElem (by rw[List.length_map];exact hj)];rfl
   have hd:=hc2 j hj x hx ej.symm
   by_cases hm:j∈(nbs LK i).map Nb.o
   ·obtain⟨y,hy,rfl⟩:=List.mem_map.1 hm
    have h1:=h y hy
    rw[onL_getD hj,ej,on_of hn hx,decide_eq_false (by omega),Bool.false_or,key y hy _ hd,ej] at h1
    exact h1
   ·have h1:=hl.no i j hi hj hm
    rw[ej] at h1
    cases hb:blkd r (stA D i) k x.1 x.2 with
    | false=>rfl
    | true=>rw[blkd_link hne hb] at h1;cases h1
  ·intro h y hy
   have hyo:=(hl.nbr i y hi hy).1
   rw[onL_getD hyo]
   by_cases h0:onF pl (stA D y.o)=0
   ·rw[decide_eq_true h0,Bool.true_or]
   ·have hm:=on_mem h0
    rw[decide_eq_false h0,Bool.false_or,key y hy _ (hc2 _ hyo _ hm rfl)]
    exact h _ hm
 ·rw[decide_eq_false hk,Bool.false_and,Bool.false_and]
theorem free_low {D:Dms} {r:Rul} {LK:List Lk} (hl:LkAll D r LK) (hp:PrI D r) {pl:List (Int×Int)} (hn:(pl.map Prod.fst).Nodup) (hst:∀ x∈pl,x.1∈D.map Prod.fst) (hch:∀ x∈pl,x.2∈chsOf D x.1) {i:Nat} (hi:i<D.length)
  {c:Int} (hc:(chsOf D (stA D i)).find? (fun c=>pl.all fun x=>!blkd r (stA D i) c x.1 x.2)=some c):
  frF LK (onL D pl) (nbs LK i) (stS (chA D i))≠0∧(frF LK (onL D pl) (nbs LK i) (stS (chA D i))).testBit c.toNat=true∧∀ j,j<c.toNat→(frF LK (onL D pl) (nbs LK i) (stS (chA D i))).testBit j=false:=by
 rw[chA_of hp.nd hi] at hc
 exact low_find (hp.ch.at i).1 (hp.ch.at i).2 (fun k=>free_bits hl hp hn hst hch hi k) hc
theorem ext_step {D:Dms} {r:Rul} (hD:(D.map Prod.fst).Nodup) (h0:∀ s,∀ c∈chsOf D s,c≠0) {l:List (Int×Int)} (hl:l.map Prod.fst=(peelF D r).2) (hc:∀ x∈l,x.2∈chsOf D x.1) {k:Nat} {s:Int} (hk:(peelF D r).1[k]?=some s):
  ((extG D r ((peelF D r).1.drop (k+1)).reverse l).map Prod.fst).Nodup∧(∀ x∈extG D r ((peelF D r).1.drop (k+1)).reverse l,x.1∈D.map Prod.fst)∧(∀ x∈extG D r ((peelF D r).1.drop (k+1)).reverse l,x.2∈chsOf D x.1)∧s∉(extG D r ((peelF D r).1.drop (k+1)).reverse l).map Prod.fst ∧
  ∃ c,(chsOf D s).find? (fun c=>(extG D r ((peelF D r).1.drop (k+1)).reverse l).all fun x=>!blkd r s c x.1 x.2)=some c∧extG D r ((peelF D r).1.drop k).reverse l=extG D r ((peelF D r).1.drop (k+1)).reverse l++[(s,c)]:=by
 obtain⟨hk',ek⟩:=List.getElem?_eq_some_iff.1 hk
 have h1:=ext_pl hD h0 hl hc ((peelF D r).1.length - (k+1)) (k+1) (by omega)
 have h2:=ext_pl hD h0 hl hc ((peelF D r).1.length - k) k (by omega)
 have hd:(peelF D r).1.drop k=s::(peelF D r).1.drop (k+1):=by rw[List.drop_eq_getElem_cons hk',ek]
 obtain⟨q1,e1,m1⟩:=h1.ex
 obtain⟨q2,e2,m2⟩:=h2.ex
 have hnd:=h2.nd
 have hmem:∀ x,x∈(extG D r ((peelF D r).1.drop (k+1)).reverse l).map Prod.fst↔(x∈(peelF D r).1.drop (k+1)∨x∈(peelF D r).2):=by
  intro x;rw[e1,List.map_append,List.mem_append,hl,m1,List.mem_reverse];exact Or.comm
 have hns:s∉(extG D r ((peelF D r).1.drop (k+1)).reverse l).map Prod.fst:=by
  rw[e2,List.map_append,m2,hl,hd,List.reverse_cons,←List.append_assoc,List.nodup_append] at hnd
  intro hm
  refine hnd.2.2 s ?_ s (List.mem_singleton.2 rfl) rfl
  rw[List.mem_append,List.mem_reverse]
  exact((hmem s).1 hm).symm
 have hsub:∀ x,x∈(extG D r ((peelF D r).1.drop (k+1)).reverse l).map Prod.fst→x∈D.map Prod.fst:=fun x hx=>by
  rcases(hmem x).1 hx with h | h
  ·rcases(peelG_mem D r D.length [] (D.map Prod.fst) x).1 (.inl (List.mem_of_mem_drop h)) with h | h
   ·cases h
   ·exact h
  ·exact core_sub D r x h
 have e:extG D r ((peelF D r).1.drop k).reverse l=exGo r s (chsOf D s) (extG D r ((peelF D r).1.drop (k+1)).reverse l):=by
  rw[hd,List.reverse_cons,extG,List.foldl_append];rfl
 obtain⟨T,t1,t2,t3,t4,t5⟩:=peelG_at D r D.length (D.map Prod.fst) hD k _ hk
 obtain⟨c,hcf⟩:=free_ex t1 h1.nd (fun x hx=>⟨(t4 x.1).2 (by
  have hm:x.1∈(extG D r ((peelF D r).1.drop (k+1)).reverse l).map Prod.fst:=List.mem_map.2 ⟨x,hx,rfl⟩
  rcases(hmem x.1).1 hm with h | h
  ·refine .inl ?_
   show x.1∈(peelF D r).1.drop k
   rw[hd];exact List.mem_cons_of_mem _ h
  ·exact .inr h),h1.ch x hx⟩)
 refine⟨h1.nd,fun x hx=>hsub _ (List.mem_map.2 ⟨x,hx,rfl⟩),h1.ch,hns,c,hcf,?_⟩
 rw[e,exGo_eq _ hns (fun c hc=>h0 s c hc),hcf]
def plK (D:Dms) (r:Rul) (l:List (Int×Int)) (O:List Nat) (m:Nat):List (Int×Int):=extG D r ((O.reverse.take m).map (stA D)) l
theorem plK_drop {D:Dms} {r:Rul} {l:List (Int×Int)} {O:List Nat} (hO:O.map (stA D)=(peelF D r).1) (m:Nat):plK D r l O m=extG D r ((peelF D r).1.drop ((peelF D r).1.length - m)).reverse l:=by
 unfold plK
 rw[List.map_take,List.map_reverse,hO,List.take_reverse]
theorem plK_step {D:Dms} {r:Rul} (hD:(D.map Prod.fst).Nodup) (h0:∀ s,∀ c∈chsOf D s,c≠0) {l:List (Int×Int)} (hl:l.map Prod.fst=(peelF D r).2) (hc:∀ x∈l,x.2∈chsOf D x.1) {O:List Nat} (hO:O.map (stA D)=(peelF D r).1) {m i:Nat} (h:O.reverse[m]?=some i):
  ((plK D r l O m).map Prod.fst).Nodup∧(∀ x∈plK D r l O m,x.1∈D.map Prod.fst)∧(∀ x∈plK D r l O m,x.2∈chsOf D x.1)∧stA D i∉(plK D r l O m).map Prod.fst ∧
  ∃ c,(chsOf D (stA D i)).find? (fun c=>(plK D r l O m).all fun x=>!blkd r (stA D i) c x.1 x.2)=some c∧plK D r l O (m+1)=plK D r l O m++[(stA D i,c)]:=by
 have hlen:(peelF D r).1.length=O.length:=by rw[←hO,List.length_map]
 have hml:m<O.length:=by have:=(List.getElem?_eq_some_iff.1 h).1;rwa [List.length_reverse] at this
 have hk:(peelF D r).1[O.length - (m+1)]?=some (stA D i):=by
  rw[←hO,List.getElem?_map]
  rw[List.getElem?_reverse hml] at h
  rw[show O.length - (m+1)=O.length - 1 - m by omega,h];rfl
 have:=ext_step hD h0 hl hc hk
 rw[plK_drop hO,plK_drop hO,hlen]
 rw[show O.length - (m+1)+1=O.length - m by omega] at this
 exact this
theorem plK_full {D:Dms} {r:Rul} {l:List (Int×Int)} {O:List Nat} (hO:O.map (stA D)=(peelF D r).1):outF D (plK D r l O O.length)=extF D r l:=by
 unfold plK extF
 rw[←List.length_reverse,List.take_length,List.map_reverse,hO]
theorem onL_out (D:Dms) (pl:List (Int×Int)) {k:Nat} (hk:k<D.length):(outF D pl)[k]?=some (stA D k,onF pl (stA D k)):=by
 have e:D[k]?=some D[k]:=List.getElem?_eq_getElem hk
 unfold outF
 rw[List.getElem?_map,e,Option.map_some,stA_at e]
theorem D_range (D:Dms):D.map Prod.fst=(List.range D.length).map (stA D):=by
 apply List.ext_getElem?
 intro k
 rw[List.getElem?_map,List.getElem?_map]
 by_cases h:k<D.length
 ·rw[List.getElem?_range h,List.getElem?_eq_getElem h,Option.map_some,Option.map_some,stA_at (List.getElem?_eq_getElem h)]
 ·rw[List.getElem?_eq_none (by omega),List.getElem?_eq_none (by rw[List.length_range];omega)];rfl
theorem kept_core {D:Dms} {r:Rul} (hD:(D.map Prod.fst).Nodup) {O:List Nat} (hO:O.map (stA D)=(peelF D r).1) (hlt:∀ o∈O,o<D.length):((List.range D.length).filter fun k=>!decide (k∈O)).map (stA D)=(peelF D r).2:=by
 rw[core_list D r,D_range D,List.filter_map]
 congr 1
 apply List.filter_congr
 intro k hk
 rw[List.mem_range] at hk
 simp only[Function.comp_apply]
 rw[Bool.eq_iff_iff,Bool.not_eq_true',decide_eq_false_iff_not,decide_eq_true_eq]
 have hkD:stA D k∈D.map Prod.fst:=by rw[D_range];exact List.mem_map.2 ⟨k,List.mem_range.2 hk,rfl⟩
 constructor
 ·intro hn
  rcases(peelG_mem D r D.length [] (D.map Prod.fst) (stA D k)).2 (.inr hkD) with h | h
  ·have h':stA D k∈(peelF D r).1:=h
   rw[←hO] at h'
   obtain⟨o,ho,e⟩:=List.mem_map.1 h'
   exact absurd (st_inj hD (hlt o ho) hk e ▸ ho) hn
  ·exact h
 ·intro hm ho
  have h':stA D k∈(peelF D r).1:=by rw[←hO];exact List.mem_map.2 ⟨k,ho,rfl⟩
  exact peelG_disj D r D.length [] (D.map Prod.fst) (fun x hx=>by cases hx) _ h' hm
def lfN (n:Nat) (O:List Nat):Nat:=O.foldl (fun T o=>mi T (2 ^ o)) (2 ^ n - 1)
theorem lfN_snoc (n:Nat) (O:List Nat) (o:Nat):lfN n (O++[o])=mi (lfN n O) (2 ^ o):=by unfold lfN;rw[List.foldl_append];rfl
theorem lfN_tb (n k:Nat):∀ O:List Nat,(lfN n O).testBit k=(decide (k<n)&&!decide (k∈O)):=by
 have key:∀(O:List Nat) (T:Nat),(O.foldl (fun T o=>mi T (2 ^ o)) T).testBit k=(T.testBit k&&!decide (k∈O)):=by
  intro O
  induction O with
  | nil=>intro T;simp
  | cons o q ih=>
   intro T
   rw[List.foldl_cons,ih,mi_tb,Nat.testBit_two_pow,Bool.and_assoc]
   congr 1
   by_cases e:o=k
   ·subst e;simp
   ·have e':¬k=o:=fun h=>e h.symm
    simp[e,e']
 intro O
 unfold lfN
 rw[key,Nat.testBit_two_pow_sub_one]
theorem lfN_mem {n:Nat} (hn:n≤512) (O:List Nat):mem (lfN n O)=(List.range n).filter fun k=>!decide (k∈O):=by
 have h1:mem (lfN n O)=(List.range 512).filter fun k=>decide (k<n)&&!decide (k∈O):=by
  unfold mem
  apply List.filter_congr
  intro k _
  exact lfN_tb n k O
 obtain⟨j,hj⟩:∃ j,512=n+j:=⟨512 - n,by omega⟩
 rw[h1,hj,List.range_add,List.filter_append]
 have h2:((List.range j).map (fun x=>n+x)).filter (fun k=>decide (k<n)&&!decide (k∈O))=[]:=by
  rw[List.filter_eq_nil_iff]
  intro k hk
  obtain⟨x,_,rfl⟩:=List.mem_map.1 hk
  simp;omega
 rw[h2,List.append_nil]
 apply List.filter_congr
 intro k hk
 rw[List.mem_range] at hk
 rw[decide_eq_true hk,Bool.true_and]
end Go.Proofs.YtjakdikhdndlgaaGreatDoor
