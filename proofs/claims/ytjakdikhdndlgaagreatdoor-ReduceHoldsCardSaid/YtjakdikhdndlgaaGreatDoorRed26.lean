/- The rows of the graph of the core,behind all joins. -/
import Derived.Sort.LoopGhostIn
import Derived.Sort.CutIn
import Derived.Maps.OwnIn
import Derived.Test.YtjakdikhdndlgaaGreatDoorRed16
import Derived.Test.YtjakdikhdndlgaaGreatDoorRed18
import Derived.Test.YtjakdikhdndlgaaGreatDoorRed24
set_option maxRecDepth 100000
set_option maxHeartbeats 40000000
namespace Go.Proofs.YtjakdikhdndlgaaGreatDoor
open Go.RowKit
noncomputable def gcS (S:List Nat) (k:Nat):Nat×List (List Int):=(List.range k).foldl (fun st v=>if st.1.testBit v=true then st else (st.1 ||| reachM S v,st.2++[memI (reachM S v)])) (0,[])
theorem gcS_succ (S:List Nat) (k:Nat):gcS S (k+1)=if (gcS S k).1.testBit k=true then gcS S k else ((gcS S k).1 ||| reachM S k,(gcS S k).2++[memI (reachM S k)]):=by
 conv=>lhs;unfold gcS
 rw[List.range_succ,List.foldl_append];rfl
theorem gcS_fit (S:List Nat):∀ k,Fit (gcS S k).1:=by
 intro k
 induction k with
 | zero=>exact fit_zero
 | succ k ih=>
  rw[gcS_succ];split
  ·exact ih
  ·exact or_lt ih (reachM_fit S k)
structure RowsI (r:Rul) (C:List Int) (S:List Nat):Prop where
 len:S.length=C.length
 bit:∀ i j,i<C.length→j<C.length→(S.getD i 0).testBit j=linkF r (C.getD i 0) (C.getD j 0)
 ing:InG S
theorem getD_memI {C:List Int} {i:Nat} (h:i<C.length):C.getD i 0∈C:=by
 rw[List.getD_eq_getElem?_getD,List.getElem?_eq_getElem h];exact List.getElem_mem h
theorem mem_getDI {C:List Int} {x:Int} (h:x∈C):∃ i,i<C.length∧C.getD i 0=x:=by
 obtain⟨i,hi,e⟩:=List.getElem_of_mem h
 exact⟨i,hi,by rw[List.getD_eq_getElem?_getD,List.getElem?_eq_getElem hi,e];rfl⟩
theorem inc_inj {C:List Int} (hC:C.Pairwise (·<·)) {i j:Nat} (hi:i<C.length) (hj:j<C.length) (h:C.getD i 0=C.getD j 0):i=j:=by
 rw[List.getD_eq_getElem?_getD,List.getD_eq_getElem?_getD,List.getElem?_eq_getElem hi,List.getElem?_eq_getElem hj] at h
 simp only[Option.getD_some] at h
 rcases Nat.lt_trichotomy i j with h1 | h1 | h1
 ·have:=List.pairwise_iff_getElem.1 hC i j hi hj h1;omega
 ·exact h1
 ·have:=List.pairwise_iff_getElem.1 hC j i hj hi h1;omega
theorem rows_rch {r:Rul} {C:List Int} (hC:C.Pairwise (·<·)) {S:List Nat} (h:RowsI r C S) {v w:Nat} (hv:v<C.length):Rch S v w↔w<C.length∧Rc r C (C.getD v 0) (C.getD w 0):=by
 constructor
 ·intro hw
  induction hw with
  | refl=>exact⟨hv,.refl⟩
  | @step a b h1 h2 ih=>
   have hb:b<C.length:=by rw[←h.len];exact rch_lt h.ing (by rw[h.len];exact hv) (.step h1 h2)
   exact⟨hb,.step ih.2 (by rw[←h.bit a b ih.1 hb];exact h2) (getD_memI hb)⟩
 ·rintro⟨hw,hr⟩
  have key:∀ x,Rc r C (C.getD v 0) x→∀ w,w<C.length→C.getD w 0=x→Rch S v w:=by
   intro x hx
   induction hx with
   | refl=>intro w hw e;rw[inc_inj hC hw hv e];exact .refl
   | @step a b h1 h2 h3 ih=>
    intro w hw e
    obtain⟨u,hu,eu⟩:=mem_getDI (Rc.mem (getD_memI hv) h1)
    exact .step (ih u hu eu) (by rw[h.bit u w hu hw,eu,e];exact h2)
  exact key _ hr w hw rfl
noncomputable def clsG (S:List Nat) (v:Nat):List Nat:=(List.range S.length).filter fun w=>(reachM S v).testBit w
theorem clsG_mem {S:List Nat} (hI:InG S) {v:Nat} (hv:v<S.length):mem (reachM S v)=clsG S v:=by
 refine sorted_ext (mem_sorted _) (List.pairwise_lt_range.filter _) (fun x=>?_)
 unfold clsG
 rw[mem_iff (reachM_fit S v),List.mem_filter,List.mem_range,reachM_tb]
 exact⟨fun h=>⟨rch_lt hI hv h.2,h⟩,fun h=>h.2⟩
theorem cls_both {r:Rul} {C:List Int} (hC:C.Pairwise (·<·)) {S:List Nat} (h:RowsI r C S) (h512:S.length≤512) {v:Nat} (hv:v<C.length):(clsG S v).map (fun w=>C.getD w 0)=clsF r C (C.getD v 0):=by
 have hCm:C=(List.range C.length).map (fun w=>C.getD w 0):=by
  apply List.ext_getElem?
  intro k
  by_cases hk:k<C.length
  ·rw[List.getElem?_map,List.getElem?_range hk,Option.map_some,List.getD_eq_getElem?_getD,List.getElem?_eq_getElem hk];rfl
  ·rw[List.getElem?_eq_none (by omega),List.getElem?_eq_none (by rw[List.length_map,List.length_range];omega)]
 unfold clsF clsG
 conv=>rhs;arg 2;rw[hCm]
 rw[List.filter_map,h.len]
 congr 1
 apply List.filter_congr
 intro w hw
 rw[List.mem_range] at hw
 simp only[Function.comp_apply]
 rw[hasL_mem,Bool.eq_iff_iff,decide_eq_true_eq,cl_spec (getD_memI hv),reachM_tb,rows_rch hC h hv]
 exact⟨fun h=>h.2.2,fun hr=>⟨by have:=h.len;omega,hw,hr⟩⟩
theorem clsG_ok {r:Rul} {C:List Int} (hC:C.Pairwise (·<·)) {S:List Nat} (h:RowsI r C S) (h512:S.length≤512):ClsI (List.range S.length) (clsG S):=by
 have hin:∀ v,v<S.length→∀ w,w∈clsG S v↔w<S.length∧Rch S v w:=fun v hv w=>by
  unfold clsG
  rw[List.mem_filter,List.mem_range,reachM_tb]
  exact⟨fun h=>⟨h.1,h.2.2⟩,fun h=>⟨h.1,by omega,h.2⟩⟩
 refine⟨List.nodup_range,fun s hs=>(hin s (List.mem_range.1 hs) s).2 ⟨List.mem_range.1 hs,.refl⟩,fun s hs t ht=>?_,fun s _=>List.filter_sublist⟩
 have hs:=List.mem_range.1 hs
 obtain⟨ht1,ht2⟩:=(hin s hs t).1 ht
 have hs':s<C.length:=by rw[←h.len];exact hs
 have ht':t<C.length:=by rw[←h.len];exact ht1
 have hrc:=((rows_rch hC h hs').1 ht2).2
 have hbk:=hrc.symm (getD_memI hs')
 unfold clsG
 apply List.filter_congr
 intro w hw
 rw[Bool.eq_iff_iff,reachM_tb,reachM_tb,rows_rch hC h ht',rows_rch hC h hs']
 exact and_congr_right fun _=>and_congr_right fun _=>⟨fun q=>hrc.trans q,fun q=>hbk.trans q⟩
theorem gcS_eq {S:List Nat} (hI:InG S) (_h512:S.length≤512):∀(q:List Nat) (k:Nat) (out:List (List Nat)) (seen:List Nat),List.range S.length=List.range k++q→(∀ v,v<S.length→((gcS S k).1.testBit v=true↔v∈seen))→(gcS S k).2=out.map (fun p=>p.map fun w:Nat=>(w:Int))→(gcS S S.length).2=(cmGo (clsG S) q out seen).map (fun p=>p.map fun w:Nat=>(w:Int)):=by
 intro q
 induction q with
 | nil=>
  intro k out seen h1 _ h3
  have hk:S.length=k:=by have:=congrArg List.length h1;simpa using this
  rw[cmGo,hk,h3]
 | cons v q ih=>
  intro k out seen h1 h2 h3
  have hlen:S.length=k+(q.length+1):=by have:=congrArg List.length h1;simpa using this
  have hv:v=k:=by
   have:=congrArg (fun l=>l[k]?) h1
   rw[List.getElem?_range (by omega),List.getElem?_append_right (by rw[List.length_range];exact Nat.le_refl _),List.length_range,Nat.sub_self,List.getElem?_cons_zero,Option.some.injEq] at this
   exact this.symm
  subst hv
  have hvl:v<S.length:=by omega
  have h1':List.range S.length=List.range (v+1)++q:=by rw[List.range_succ,List.append_assoc];exact h1
  rw[cmGo]
  by_cases hs:v∈seen
  ·rw[if_pos hs]
   have e:gcS S (v+1)=gcS S v:=by rw[gcS_succ,if_pos ((h2 v hvl).2 hs)]
   exact ih (v+1) out seen h1' (fun w hw=>by rw[e];exact h2 w hw) (by rw[e];exact h3)
  ·rw[if_neg hs]
   have e:gcS S (v+1)=((gcS S v).1 ||| reachM S v,(gcS S v).2++[memI (reachM S v)]):=by rw[gcS_succ,if_neg (fun h=>hs ((h2 v hvl).1 h))]
   refine ih (v+1) _ _ h1' (fun w hw=>?_) ?_
   ·rw[e,Nat.testBit_or,Bool.or_eq_true,h2 w hw,List.mem_append]
    unfold clsG
    rw[List.mem_filter,List.mem_range]
    exact or_congr_right ⟨fun h=>⟨hw,h⟩,fun h=>h.2⟩
   ·rw[e,h3,List.map_append,List.map_singleton]
    unfold memI
    rw[clsG_mem hI hvl]
theorem comp_prog {r:Rul} {C:List Int} (hC:C.Pairwise (·<·)) {S:List Nat} (h:RowsI r C S) (h512:S.length≤512):(gcS S S.length).2.map (fun p=>p.map fun w=>C.getD w.toNat 0)=compF r C:=by
 have hg:=gcS_eq h.ing h512 (List.range S.length) 0 [] [] (by simp) (fun v _=>by unfold gcS;simp) (by unfold gcS;simp)
 rw[hg,cm_eq (clsG_ok hC h h512),comp_eq (inc_nodup hC)]
 have hCm:C=(List.range C.length).map (fun w=>C.getD w 0):=by
  apply List.ext_getElem?
  intro k
  by_cases hk:k<C.length
  ·rw[List.getElem?_map,List.getElem?_range hk,Option.map_some,List.getD_eq_getElem?_getD,List.getElem?_eq_getElem hk];rfl
  ·rw[List.getElem?_eq_none (by omega),List.getElem?_eq_none (by rw[List.length_map,List.length_range];omega)]
 have hmin:∀ v,v<C.length→isMin (clsF r C) (C.getD v 0)=isMin (clsG S) v:=by
  intro v hv
  unfold isMin
  rw[←cls_both hC h h512 hv,List.head?_map,decide_eq_decide]
  constructor
  ·intro e
   cases hh:(clsG S v).head? with
   | none=>rw[hh] at e;cases e
   | some w=>
    rw[hh] at e
    simp only[Option.map_some,Option.some.injEq] at e
    have hw:w<C.length:=by
     have:=List.mem_of_head? hh
     unfold clsG at this
     rw[←h.len];exact List.mem_range.1 (List.mem_filter.1 this).1
    rw[inc_inj hC hw hv e]
  ·intro e;rw[e];rfl
 conv=>rhs;arg 2;arg 2;rw[hCm]
 rw[List.filter_map,List.map_map,List.map_map,List.map_map,h.len]
 have e1:(List.range C.length).filter (isMin (clsF r C) ∘ fun w=>C.getD w 0)=(List.range C.length).filter (isMin (clsG S)):=List.filter_congr (fun v hv=>hmin v (List.mem_range.1 hv))
 rw[e1]
 apply List.map_congr_left
 intro v hv
 have hv:=List.mem_range.1 (List.mem_filter.1 hv).1
 simp only[Function.comp_apply]
 rw[←cls_both hC h h512 hv,List.map_map]
 rfl
end Go.Proofs.YtjakdikhdndlgaaGreatDoor
namespace Go.Proofs.YtjakdikhdndlgaaGreatDoor
open Go.RowKit Go.Shelf Go.ChangeShapes Go.WideShapes Go.ChangeAt Go.Deep Go.Joins
attribute [local go_sem] Oper.semAt_some
def GkF1 (p1 p4 n k:Nat) (A:Option Addr) (m c:Nat) (ds:List Nat) (a:Act):Prop:=∃ u:Nat→Value,a={ tmps:=#[u 0,(.pointer (some ⟨p1,0,none⟩)),u 2,(.slice A m c),(.pointer (some ⟨p4,0,none⟩)),u 5,u 6,u 7,u 8,u 9,u 10,u 11,(.int .i64 (n:Int)),(.int .i64 (k:Int)),u 14,u 15,u 16,u 17,u 18,u 19,u 20,u 21,u 22,u 23,u 24,u 25,u 26,u 27,u 28,u 29,u 30,u 31,u 32,u 33,u 34,u 35,u 36,u 37,u 38,u 39,u 40,u 41,u 42,u 43,u 44,u 45,u 46,u 47,u 48,u 49,u 50,u 51,u 52,u 53,u 54,u 55,u 56,u 57],defers:=marksOf ds }
theorem GkF1_mk {p1 p4 n k:Nat} {A:Option Addr} {m c:Nat} {ds:List Nat} {u0 u2 u5 u6 u7 u8 u9 u10 u11 u14 u15 u16 u17 u18 u19 u20 u21 u22 u23 u24 u25 u26 u27 u28 u29 u30 u31 u32 u33 u34 u35 u36 u37 u38 u39 u40 u41 u42 u43 u44 u45 u46 u47 u48 u49 u50 u51 u52 u53 u54 u55 u56 u57:Value}:GkF1 p1 p4 n k A m c ds { tmps:=#[u0,(.pointer (some ⟨p1,0,none⟩)),u2,(.slice A m c),(.pointer (some ⟨p4,0,none⟩)),u5,u6,u7,u8,u9,u10,u11,(.int .i64 (n:Int)),(.int .i64 (k:Int)),u14,u15,u16,u17,u18,u19,u20,u21,u22,u23,u24,u25,u26,u27,u28,u29,u30,u31,u32,u33,u34,u35,u36,u37,u38,u39,u40,u41,u42,u43,u44,u45,u46,u47,u48,u49,u50,u51,u52,u53,u54,u55,u56,u57],defers:=marksOf ds }:=⟨fun i=>[u0,undef,u2,undef,undef,u5,u6,u7,u8,u9,u10,u11,undef,undef,u14,u15,u16,u17,u18,u19,u20,u21,u22,u23,u24,u25,u26,u27,u28,u29,u30,u31,u32,u33,u34,u35,u36,u37,u38,u39,u40,u41,u42,u43,u44,u45,u46,u47,u48,u49,u50,u51,u52,u53,u54,u55,u56,u57].getD i undef,rfl⟩
def GkF2 (p1 p4 p6 p8 n k:Nat) (A:Option Addr) (m c:Nat) (ds:List Nat) (a:Act):Prop:=∃ u:Nat→Value,a={ tmps:=#[u 0,(.pointer (some ⟨p1,0,none⟩)),u 2,(.slice A m c),(.pointer (some ⟨p4,0,none⟩)),u 5,(.pointer (some ⟨p6,0,none⟩)),u 7,(.pointer (some ⟨p8,0,none⟩)),u 9,u 10,u 11,(.int .i64 (n:Int)),(.int .i64 (k:Int)),u 14,u 15,u 16,u 17,u 18,u 19,u 20,u 21,u 22,u 23,u 24,u 25,u 26,u 27,u 28,u 29,u 30,u 31,u 32,u 33,u 34,u 35,u 36,u 37,u 38,u 39,u 40,u 41,u 42,u 43,u 44,u 45,u 46,u 47,u 48,u 49,u 50,u 51,u 52,u 53,u 54,u 55,u 56,u 57],defers:=marksOf ds }
theorem GkF2_mk {p1 p4 p6 p8 n k:Nat} {A:Option Addr} {m c:Nat} {ds:List Nat} {u0 u2 u5 u7 u9 u10 u11 u14 u15 u16 u17 u18 u19 u20 u21 u22 u23 u24 u25 u26 u27 u28 u29 u30 u31 u32 u33 u34 u35 u36 u37 u38 u39 u40 u41 u42 u43 u44 u45 u46 u47 u48 u49 u50 u51 u52 u53 u54 u55 u56 u57:Value}:GkF2 p1 p4 p6 p8 n k A m c ds { tmps:=#[u0,(.pointer (some ⟨p1,0,none⟩)),u2,(.slice A m c),(.pointer (some ⟨p4,0,none⟩)),u5,(.pointer (some ⟨p6,0,none⟩)),u7,(.pointer (some ⟨p8,0,none⟩)),u9,u10,u11,(.int .i64 (n:Int)),(.int .i64 (k:Int)),u14,u15,u16,u17,u18,u19,u20,u21,u22,u23,u24,u25,u26,u27,u28,u29,u30,u31,u32,u33,u34,u35,u36,u37,u38,u39,u40,u41,u42,u43,u44,u45,u46,u47,u48,u49,u50,u51,u52,u53,u54,u55,u56,u57],defers:=marksOf ds }:=⟨fun i=>[u0,undef,u2,undef,undef,u5,undef,u7,undef,u9,u10,u11,undef,undef,u14,u15,u16,u17,u18,u19,u20,u21,u22,u23,u24,u25,u26,u27,u28,u29,u30,u31,u32,u33,u34,u35,u36,u37,u38,u39,u40,u41,u42,u43,u44,u45,u46,u47,u48,u49,u50,u51,u52,u53,u54,u55,u56,u57].getD i undef,rfl⟩
theorem ints_info:(Tryz.prog.info? 32).map (fun i=>(i.zero,i.size,i.bytes))=some (some (.slice none 0 0),1,24):=by kernel_rfl
def sv (x:Option Addr×Nat×Nat):Value:=.slice x.1 x.2.1 x.2.2
def exI (cs:List ((Option Addr×Nat×Nat)×List Int)):List Ent:=cs.map fun x=>.row (sv x.1) 3 1 x.2.length (x.2.map intV)
theorem exI_snoc (cs:List ((Option Addr×Nat×Nat)×List Int)) (x:(Option Addr×Nat×Nat)×List Int):exI (cs++[x])=exI cs++[.row (sv x.1) 3 1 x.2.length (x.2.map intV)]:=by unfold exI;rw[List.map_append];rfl
def GkB (p1 gb p4 seen:Nat) (A:Option Addr) (c:Nat) (cs:List ((Option Addr×Nat×Nat)×List Int)):List Ent:=
 [.blk p1 92 [.pointer (some ⟨gb,0,none⟩)],.blk p4 79 (tabL 8 (sC seen)),.row (.slice A cs.length c) 32 1 cs.length (cs.map fun x=>sv x.1)]
theorem keeps_below {X W:World} (h:Below X.heap.size X W):KeepsOthers X W:=⟨h.size,fun k _ hk _=>(h.block k (Array.getElem?_eq_some_iff.1 hk).1).trans hk⟩
theorem hasS_nat {A k:Nat} (h:k<512):hasS A (k:Int)=A.testBit k:=by unfold hasS;rw[decide_eq_true (by omega),Bool.true_and,Int.toNat_natCast]
theorem gcS_len (S:List Nat):∀ k,(gcS S k).2.length≤k:=by
 intro k
 induction k with
 | zero=>exact Nat.le_refl _
 | succ k ih=>
  rw[gcS_succ]
  split
  ·omega
  ·rw[List.length_append];simp;omega
theorem gcompsU_any {gb rb cap:Nat} {ext:List Value} {S:List Nat} {arcs:Int} (w:World) (hT:Tab w) (h:GAt w gb rb cap ext S arcs) (hI:InG S):
  Calls Tryz.prog 49 #[.pointer (some ⟨gb,0,none⟩)] w fun e w'=>∃ A c cs,e=.returned (.slice A cs.length c)∧cs.map Prod.snd=(gcS S S.length).2∧Hp w w w' (.row (.slice A cs.length c) 32 1 cs.length (cs.map fun x=>sv x.1)::exI cs) []:=by
 have h512:=h.2.2.2
 have HG:=Lib.hid h
 have HF:Hid (∀ x∈S,Fit x):=Lib.hid h.2.2.1
 have HT:=Lib.hid hT
 have HI:=Lib.hid hI
 have h4:tabN≤w.heap.size:=hT.1
 have HHS:=Lib.hid (fun A i W=>has_any A i W)
 have HOF:=Lib.hid (fun v hv g W hc hg=>of_one v hv g W hc hg)
 have HE:=Lib.hid (fun T hT W=>empty_any T hT W)
 have HU:=Lib.hid (fun A B W=>union_any A B W)
 have HM:=Lib.hid (fun A B W=>minus_any A B W)
 have HA:=Lib.hid (fun T W=>all_any T W)
 have HLI:=Lib.hid (fun T W hF hW=>list_any T W hF hW)
 obtain⟨s0,si,sz0,sz1,sz2⟩:=info_parts ints_info
 have hP0:=((Hp.start w).alloc1 (.pointer (some ⟨gb,0,none⟩)) 92).allocS 0 79
 obtain⟨V0,hV0⟩:∃ V0,V0=(w.alloc (.cells #[.pointer (some ⟨gb,0,none⟩)] 92)).alloc (.cells (sL 0).toArray 79):=⟨_,rfl⟩
 rw[←hV0,World.size_alloc] at hP0
 have hP0:=hP0.nil 32 1
 have HLN:=Lib.hid (glen_any V0 (h.keep hP0.below))
 have HP0:=Lib.hid hP0
 have c0:=hP0.c 0 0 rfl rfl;have f0:=hP0.f 0 rfl;have l0:=hP0.lt 0 rfl
 rw[sL_zero] at hV0
 clear h hI hT hP0
 unfold sV at HHS HOF HE HU HM HA HLI
 refine(callsIn_wide (n:=5)).1 ?_
 refine callsIn_of_wp_marks Tryz.func49 rfl trivial ?_ rfl
 simp only[Tryz.ntmps49,List.size_toArray,List.length_cons,List.length_nil,Nat.reduceAdd,Nat.reduceSub,Array.replicate_succ,Array.replicate_zero,List.push_toArray,List.append_toArray,List.nil_append,List.cons_append]
 gi_upto_region 3 with fail
 rw[←hV0]
 clear hV0
 gi_wp2_with fail
 refine⟨trivial,(callsIn_wide.2 HLN.out).mono ?_⟩
 rintro e W1 ⟨rfl,rfl⟩
 clear HLN
 gi_wp2_with fail
 clear c0 f0 l0
 obtain⟨M,hM⟩:∃ M,M=2 ^ 512:=⟨_,rfl⟩
 have HMM:=Lib.hid hM
 clear hM
 refine wpIn_loop_ghost (fun m a W=>∃(k:Nat) (A:Option Addr) (c:Nat) (cs:List ((Option Addr×Nat×Nat)×List Int)) (ds:List Nat),m=S.length - k∧k≤S.length∧cs.map Prod.snd=(gcS S k).2∧GkF1 w.heap.size (w.heap.size+1) S.length k A cs.length c ds a∧Hp w W W (GkB w.heap.size gb (w.heap.size+1) (gcS S k).1 A c cs++exI cs) ds) (S.length - 0) ?start ?round
 case start=>exact⟨0,none,0,[],[],rfl,Nat.zero_le _,rfl,GkF1_mk,HP0.out.rebase⟩
 case round=>
  clear HP0
  rintro m a W ⟨k,A,c,cs,ds,rfl,hk,hcs,⟨u,rfl⟩,hP⟩
  have HP:=Lib.hid hP
  have HCS:=Lib.hid hcs
  by_cases hlt:k<S.length
  ·have j0:(k:Int)<(S.length:Int):=by omega
   have e1:IntKind.i64.wrap ((k:Int)+1)=(k:Int)+1:=IntWalk.i64_in _ (by omega)
   have HST:=Eqn.mk (gcS_succ S k)
   have HSF:=Lib.hid (gcS_fit S k)
   have hcl:cs.length≤k:=by have h1:=congrArg List.length hcs;rw[List.length_map] at h1;have:=gcS_len S k;omega
   generalize gcS S k=st at *
   obtain⟨seen,L⟩:=st
   dsimp only at HP hP HCS HST HSF hcs
   have HHX:=HHS.out seen (k:Int)
   rw[hasS_nat (by omega)] at HHX
   obtain⟨c1_0,c1_1,c1_2,c1_3,c1_4,c1_5,c1_6,c1_7⟩:=(hP.blk 1 rfl).eight;have f1:=hP.f 1 rfl;have l1:=hP.lt 1 rfl
   clear hP hcs
   cases hb:seen.testBit k with
   | true=>
    rw[hb] at HHX
    have HHX:=Lib.hid HHX
    have HSQ:Hid (gcS S (k+1)=(seen,L)):=Lib.hid (by rw[HST.out,if_pos hb])
    clear hb
    gi_wp2_with fail
    refine⟨trivial,(callsIn_wide.2 (HHX.out _)).mono ?_⟩
    rintro e W1 ⟨rfl,hb1⟩
    have HP1:=Lib.hid (HP.out.keep hb1)
    clear hb1 c1_0 c1_1 c1_2 c1_3 c1_4 c1_5 c1_6 c1_7 f1 l1
    gi_wp2_with fail
    exact⟨S.length - (k+1),by omega,k+1,A,c,cs,ds,rfl,hlt,by rw[HSQ.out];exact HCS.out,GkF1_mk,by rw[HSQ.out];exact HP1.out.rebase⟩
   | false=>
    rw[hb] at HHX
    have HHX:=Lib.hid HHX
    have HSQ:Hid (gcS S (k+1)=(seen ||| reachM S k,L++[memI (reachM S k)])):=Lib.hid (by rw[HST.out,if_neg (by rw[hb];simp)])
    clear hb
    gi_wp2_with fail
    refine⟨trivial,(callsIn_wide.2 (HHX.out _)).mono ?_⟩
    rintro e W1 ⟨rfl,hb1⟩
    have hP1:=(HP.out.keep hb1).alloc0 (.cells #[.int .i64 (k:Int)] 3)
    obtain⟨V1,hV1⟩:∃ V,V=W1.alloc (.cells #[.int .i64 (k:Int)] 3):=⟨_,rfl⟩
    have HO:=Lib.hid (HOF.out k (by omega) W1.heap.size V1 (by
     rw[hV1]
     have:=(Boxed.new W1 3 (.int .i64 (k:Int))).cell
     simp) (by rw[hV1];simp))
    rw[←hV1] at hP1
    have HP1:=Lib.hid hP1
    clear hb1 hP1 c1_0 c1_1 c1_2 c1_3 c1_4 c1_5 c1_6 c1_7 f1 l1
    gi_wp2_with fail
    rw[←hV1]
    clear hV1
    refine⟨trivial,(callsIn_wide.2 HO.out).mono ?_⟩
    rintro e W2 ⟨rfl,hb2⟩
    have hP2:=(((HP1.out.keep hb2).allocS (2 ^ k) 79).perm (perm_in _ _ _)).allocS (2 ^ k) 79
    have hP2:=hP2.perm (perm_in _ _ _)
    rw[World.size_alloc] at hP2
    obtain⟨V2,hV2⟩:∃ V,V=(W2.alloc (.cells (sL (2 ^ k)).toArray 79)).alloc (.cells (sL (2 ^ k)).toArray 79):=⟨_,rfl⟩
    rw[←hV2] at hP2
    have HP2:=Lib.hid hP2
    have HR:=Lib.hid (rinv_start S (v:=k) (by omega))
    unfold sL at hV2
    clear hb2 hP2 HO HP1
    gi_wp2_with fail
    rw[←hV2]
    clear hV2
    generalize W2.heap.size=p6 at *
    generalize 2 ^ k=Pw at *
    refine wpIn_loop_ghost (fun n a W=>∃(F T p8:Nat) (ds:List Nat),n=rk M F T∧RInv S k F T∧GkF2 w.heap.size (w.heap.size+1) p6 p8 S.length k A cs.length c ds a∧Hp w W W (((GkB w.heap.size gb (w.heap.size+1) seen A c cs++[.blk p6 79 (tabL 8 (sC F))])++[.blk p8 79 (tabL 8 (sC T))])++exI cs) ds) (rk M Pw Pw) ?start2 ?round2
    case start2=>exact⟨Pw,Pw,p6+1,ds,rfl,HR.out,GkF2_mk,HP2.out.rebase⟩
    case round2=>
     clear HP2 HR
     rintro n a W ⟨F,T,p8,ds,rfl,hR,⟨u,rfl⟩,hP⟩
     have HR:=Lib.hid hR
     have HP:=Lib.hid hP
     have HE1:=Lib.hid (HE.out T hR.2.1)
     obtain⟨c4_0,c4_1,c4_2,c4_3,c4_4,c4_5,c4_6,c4_7⟩:=(hP.blk 4 rfl).eight;have f4:=hP.f 4 rfl;have l4:=hP.lt 4 rfl
     clear hP hR
     by_cases hT0:T=0
     ·subst hT0
      rw[decide_eq_true rfl] at HE1
      gi_wp2_with fail
      refine⟨trivial,(callsIn_wide.2 (HE1.out _)).mono ?_⟩
      rintro e W3 ⟨rfl,hb3⟩
      have hP3:=HP.out.keep hb3
      have HP3:=Lib.hid hP3
      have HFE:=Eqn.mk (rinv_end HR.out)
      clear hb3 c4_0 c4_1 c4_2 c4_3 c4_4 c4_5 c4_6 c4_7 f4 l4
      obtain⟨c1_0,c1_1,c1_2,c1_3,c1_4,c1_5,c1_6,c1_7⟩:=(hP3.blk 1 rfl).eight;have f1:=hP3.f 1 rfl;have l1:=hP3.lt 1 rfl;obtain⟨c3_0,c3_1,c3_2,c3_3,c3_4,c3_5,c3_6,c3_7⟩:=(hP3.blk 3 rfl).eight;have f3:=hP3.f 3 rfl;have l3:=hP3.lt 3 rfl
      clear hP3
      gi_wp2_with fail
      refine⟨trivial,(callsIn_wide.2 (HU.out seen F _)).mono ?_⟩
      rintro e W5 ⟨rfl,hb5⟩
      have hP5:=HP3.out.keep hb5
      have HP5:=Lib.hid hP5
      clear hb5 c1_0 c1_1 c1_2 c1_3 c1_4 c1_5 c1_6 c1_7 f1 l1 c3_0 c3_1 c3_2 c3_3 c3_4 c3_5 c3_6 c3_7 f3 l3
      obtain⟨c1_0,c1_1,c1_2,c1_3,c1_4,c1_5,c1_6,c1_7⟩:=(hP5.blk 1 rfl).eight;have f1:=hP5.f 1 rfl;have l1:=hP5.lt 1 rfl
      clear hP5
      gi_upto_region 19 with fail
      obtain⟨V5,hV5⟩:∃ V,V=set8 W5 (w.heap.size+1) (seen ||| F):=⟨_,rfl⟩
      have hP6:Hp w W V5 (((GkB w.heap.size gb (w.heap.size+1) (seen ||| F) A c cs++[.blk p6 79 (tabL 8 (sC F))])++[.blk p8 79 (tabL 8 (sC 0))])++exI cs) ds:=by rw[hV5];exact HP5.out.set8 1 (seen ||| F) rfl
      unfold set8 at hV5
      rw[←hV5]
      have HP6:=Lib.hid hP6
      clear hV5 c1_0 c1_1 c1_2 c1_3 c1_4 c1_5 c1_6 c1_7 f1 l1
      obtain⟨c3_0,c3_1,c3_2,c3_3,c3_4,c3_5,c3_6,c3_7⟩:=(hP6.blk 3 rfl).eight;have f3:=hP6.f 3 rfl;have l3:=hP6.lt 3 rfl
      clear hP6
      gi_wp2_with fail
      refine⟨trivial,(callsIn_wide.2 (HLI.out F V5 HR.out.1 (HT.out.keep HP6.out.below))).mono ?_⟩
      rintro e W7 ⟨vL,rfl,hown,hb7⟩
      obtain⟨AL,cL,rfl⟩:=((Hp.start V5).pushRow hb7 hown).form 0 rfl
      have hP7:=HP6.out.pushRow hb7 hown
      have HP7:=Lib.hid hP7
      obtain⟨nL,hnL⟩:∃ n,n=(memI F).length:=⟨_,rfl⟩
      have HNL:=Lib.hid hnL
      rw[←hnL]
      clear hown hb7 hP7 hnL c3_0 c3_1 c3_2 c3_3 c3_4 c3_5 c3_6 c3_7 f3 l3
      gi_wp2_with (gi_at_builtin;refine wpListIn_append_own_at _ rfl _ _ 42 rfl w.heap.size 32 s0 (.slice none 0 0) 1 24 Tryz.underlying42 si sz0 sz1 sz2 rfl (by decide) _ _ _ rfl ((HP7.out.row 2 rfl).alloc _) ⟨W7.heap.size,0,none⟩ 1 1 [.slice AL nL cL] rfl rfl (cells_newR W7 [.slice AL nL cL] 32) (by simp[Value.oneCell']) (by unfold maxLen;omega) (by omega) (by have:=HP7.out.below.size;simp;omega) ?_;intro v8 w8 hown' hgrow _ hat;have HP8:=Lib.hid ((HP7.out.alloc0 _).grow 2 rfl hgrow hown' hat);obtain⟨A8,cp8,rfl⟩:=HP8.out.form 2 rfl;clear hown' hgrow hat)
      obtain⟨cs2,hcs2⟩:∃ cs2,cs2=cs++[((AL,nL,cL),memI F)]:=⟨_,rfl⟩
      have hl2:cs2.length=cs.length+1:=by rw[hcs2,List.length_append];rfl
      refine⟨S.length - (k+1),by omega,k+1,A8,cp8,cs2,ds,rfl,hlt,?_,by rw[hl2];exact GkF1_mk,?_⟩
      ·rw[HSQ.out,hcs2,List.map_append,HCS.out,←HFE.out];rfl
      ·rw[HSQ.out,←HFE.out]
       refine(HP8.out.sub (L':=GkB w.heap.size gb (w.heap.size+1) (seen ||| F) A8 cp8 cs2++exI cs2) ?_).rebase
       have hnL:=HNL.out
       subst hnL
       simp only[GkB,hcs2,exI_snoc,List.length_append,List.map_append,List.length_singleton,List.map_cons,List.map_nil]
       exact .cons_cons _ (.cons_cons _ (.cons_cons _ (.cons _ (.cons _ (List.Sublist.refl _)))))
     ·rw[decide_eq_false hT0] at HE1
      have HT0:=Lib.hid hT0
      clear hT0
      gi_wp2_with fail
      refine⟨trivial,(callsIn_wide.2 (HE1.out _)).mono ?_⟩
      rintro e W3 ⟨rfl,hb3⟩
      have hP3:=((HP.out.keep hb3).allocS 0 79).perm (perm_in _ _ _)
      obtain⟨V3,hV3⟩:∃ V,V=W3.alloc (.cells (sL 0).toArray 79):=⟨_,rfl⟩
      rw[←hV3] at hP3
      rw[sL_zero] at hV3
      have HP3:=Lib.hid hP3
      clear hb3 c4_0 c4_1 c4_2 c4_3 c4_4 c4_5 c4_6 c4_7 f4 l4
      obtain⟨c4_0,c4_1,c4_2,c4_3,c4_4,c4_5,c4_6,c4_7⟩:=(hP3.blk 4 rfl).eight;have f4:=hP3.f 4 rfl;have l4:=hP3.lt 4 rfl
      clear hP3
      gi_upto_region 11 with fail
      rw[←hV3]
      clear hV3 HP
      generalize W3.heap.size=p9 at *
      gi_wp2_with fail
      refine⟨trivial,(callsIn_wide.2 (HA.out T _)).mono ?_⟩
      rintro e WE ⟨rfl,hWE⟩
      have HPE:=Lib.hid ((HP3.out.allocS T 79).perm (perm_in _ _ _))
      rw[←hWE] at HPE
      clear hWE c4_0 c4_1 c4_2 c4_3 c4_4 c4_5 c4_6 c4_7 f4 l4
      generalize V3.heap.size=Bn at *
      have HTin:Hid (∀ x∈mem T,x<S.length):=Lib.hid (fun x hx=>rch_lt HI.out hlt (HR.out.2.2.2.1 x (HR.out.2.2.2.2.1 x (mem_tb hx))))
      gi_wp2_with fail
      refine hp_range (w:=w) (ds:=ds) (σ:=Nat) (fun N=>(((((GkB w.heap.size gb (w.heap.size+1) seen A c cs++[.blk p6 79 (tabL 8 (sC F))])++[.blk p8 79 (tabL 8 (sC T))])++[.blk p9 79 (tabL 8 (sC N))])++[.blk Bn 79 (tabL 8 (sC T))])++exI cs))
       (fun pre N=>N=stepG S (pre.map Fin.val)) (fun _ _ _=>False) 6 ?a₁ (by decide)
       (gf:=104) (lb:=#[.pointer (some ⟨Bn,0,none⟩)]) rfl (enters_of Tryz.func104 (by kernel_rfl) rfl) (all_stopsF S.length 4 (by decide) Bn w.heap.size T HR.out.2.1 HTin.out h4 WE (HPE.out.blk 6 rfl) (HT.out.keep HPE.out.below)) rfl (Nat.le_refl _) (fun _=>rfl) 0 rfl HPE.out (fun _=>rfl) ?assign ?body ?done ?stop
      case assign=>
       intro l x X K hK
       gi_wp2
       exact hK
      case body=>
       rintro l pre x X _ _ rfl hX hlen
       have HX:=Lib.hid hX
       have hG:=HG.out.keep hX.below
       obtain⟨y,hy⟩:∃ y,S[x.1]?=some y:=⟨_,List.getElem?_eq_getElem x.2⟩
       have hyD:S.getD x.1 0=y:=by rw[List.getD_eq_getElem?_getD,hy];rfl
       have HSN:Hid (stepG S ((pre++[x]).map Fin.val)=stepG S (pre.map Fin.val) ||| y):=Lib.hid (by rw[List.map_append,List.map_cons,List.map_nil,stepG_snoc,hyD])
       obtain⟨_,c1,_,c3⟩:=hG.cells
       obtain⟨y0,y1,y2,y3,y4,y5,y6,y7,y8⟩:=row_cells hG.2.1 hy
       have j1:(x.1:Int)<(S.length:Int):=by have:=x.2;omega
       have c0:=hX.c 0 0 rfl rfl;have f0:=hX.f 0 rfl;have l0:=hX.lt 0 rfl;obtain⟨c5_0,c5_1,c5_2,c5_3,c5_4,c5_5,c5_6,c5_7⟩:=(hX.blk 5 rfl).eight;have f5:=hX.f 5 rfl;have l5:=hX.lt 5 rfl
       clear hX hG hy hyD
       generalize stepG S (pre.map Fin.val)=A0 at *
       generalize x.1=xn at *
       gi_wp2_with fail
       refine Lx.regionIn (C:=fun _=>True) (hs:=[]) (by kernel_rfl) (by kernel_rfl) (by kernel_rfl) trivial ?_
       repeat' (first|((first|refine Lx.ln (fun K hK=>?_) | (first|(refine Lx.lp (v:=?_) ?_ (fun K hK=>?_);rotate_left 1;intro w' hCw;try dsimp only at hCw) | (refine Lx.lr (v:=?_) ?_ (fun K hK=>?_);rotate_left 1));go_simp;first|done | with_reducible rfl);go_simp;refine hK _ ?_;clear hK K) | (refine Lx.le (fun K hK=>?_);go_simp;(first|(go_at_call 97;refine(HU.out _ _ _).mono ?_;rintro e W5 ⟨rfl,hb5⟩;have hX5:=HX.out.drew.keep hb5;obtain⟨x0,x1,x2,x3,x4,x5,x6,x7⟩:=(hX5.blk 5 rfl).eight;have xl:=hX5.lt 5 rfl;have xf:=hX5.f 5 rfl;have HX5:=Lib.hid hX5;clear hb5 hX5) | skip);refine hK _ _ (trivial) ?_;clear hK K))
       all_goals (refine Lx.lex_nil ?_)
       gi_wp2_with fail
       exact⟨A0 ||| y,HSN.out.symm,HX5.out.set8 5 (A0 ||| y) rfl⟩
      case done=>
       rintro D ys X _ hys rfl hX
       have hys':ys.map Fin.val=mem T:=hys
       rw[hys'] at hX
       obtain⟨n,hN⟩:∃ n,n=mi (stepG S (mem T)) F:=⟨_,rfl⟩
       have HRN:=rinv_next HF.out HR.out
       have HKN:=rk_next HMM.out (stepG_fit HF.out (mem T)) HR.out.1 HT0.out
       rw[←hN] at HRN HKN
       have HMN:=HM.out (stepG S (mem T)) F
       rw[←hN] at HMN
       have HMN:=Lib.hid HMN
       have HRN:=Lib.hid HRN
       have HKN:=Lib.hid HKN
       generalize stepG S (mem T)=A0 at *
       have HX:=Lib.hid hX
       obtain⟨c3_0,c3_1,c3_2,c3_3,c3_4,c3_5,c3_6,c3_7⟩:=(hX.blk 3 rfl).eight;have f3:=hX.f 3 rfl;have l3:=hX.lt 3 rfl;obtain⟨c5_0,c5_1,c5_2,c5_3,c5_4,c5_5,c5_6,c5_7⟩:=(hX.blk 5 rfl).eight;have f5:=hX.f 5 rfl;have l5:=hX.lt 5 rfl
       clear hN hys hys' hX
       gi_wp2_with fail
       refine⟨trivial,(callsIn_wide.2 (HMN.out _)).mono ?_⟩
       rintro e W5 ⟨rfl,hb5⟩
       have hP5:=HX.out.keep hb5
       have HP5:=Lib.hid hP5
       clear hb5 c3_0 c3_1 c3_2 c3_3 c3_4 c3_5 c3_6 c3_7 f3 l3 c5_0 c5_1 c5_2 c5_3 c5_4 c5_5 c5_6 c5_7 f5 l5
       obtain⟨c4_0,c4_1,c4_2,c4_3,c4_4,c4_5,c4_6,c4_7⟩:=(hP5.blk 4 rfl).eight;have f4:=hP5.f 4 rfl;have l4:=hP5.lt 4 rfl
       clear hP5
       gi_upto_region 15 with fail
       obtain⟨V5,hV5⟩:∃ V5,V5=set8 W5 p8 n:=⟨_,rfl⟩
       have hP6:Hp w X V5 (((((GkB w.heap.size gb (w.heap.size+1) seen A c cs++[.blk p6 79 (tabL 8 (sC F))])++[.blk p8 79 (tabL 8 (sC n))])++[.blk p9 79 (tabL 8 (sC A0))])++[.blk Bn 79 (tabL 8 (sC T))])++exI cs) (D::ds):=by rw[hV5];exact HP5.out.set8 4 n rfl
       unfold set8 at hV5
       rw[←hV5]
       have HP6:=Lib.hid hP6
       clear hV5 c4_0 c4_1 c4_2 c4_3 c4_4 c4_5 c4_6 c4_7 f4 l4
       obtain⟨c3_0,c3_1,c3_2,c3_3,c3_4,c3_5,c3_6,c3_7⟩:=(hP6.blk 3 rfl).eight;have f3:=hP6.f 3 rfl;have l3:=hP6.lt 3 rfl;obtain⟨c4_0,c4_1,c4_2,c4_3,c4_4,c4_5,c4_6,c4_7⟩:=(hP6.blk 4 rfl).eight;have f4:=hP6.f 4 rfl;have l4:=hP6.lt 4 rfl
       clear hP6
       gi_wp2_with fail
       refine⟨trivial,(callsIn_wide.2 (HU.out F n _)).mono ?_⟩
       rintro e W6 ⟨rfl,hb6⟩
       have hP7:=HP6.out.keep hb6
       have HP7:=Lib.hid hP7
       clear hb6 c3_0 c3_1 c3_2 c3_3 c3_4 c3_5 c3_6 c3_7 f3 l3 c4_0 c4_1 c4_2 c4_3 c4_4 c4_5 c4_6 c4_7 f4 l4
       obtain⟨c3_0,c3_1,c3_2,c3_3,c3_4,c3_5,c3_6,c3_7⟩:=(hP7.blk 3 rfl).eight;have f3:=hP7.f 3 rfl;have l3:=hP7.lt 3 rfl
       clear hP7
       gi_upto_region 16 with fail
       obtain⟨V6,hV6⟩:∃ V6,V6=set8 W6 p6 (F ||| n):=⟨_,rfl⟩
       have hP8:Hp w X V6 (((((GkB w.heap.size gb (w.heap.size+1) seen A c cs++[.blk p6 79 (tabL 8 (sC (F ||| n)))])++[.blk p8 79 (tabL 8 (sC n))])++[.blk p9 79 (tabL 8 (sC A0))])++[.blk Bn 79 (tabL 8 (sC T))])++exI cs) (D::ds):=by rw[hV6];exact HP7.out.set8 3 (F ||| n) rfl
       unfold set8 at hV6
       rw[←hV6]
       have HP8:=Lib.hid hP8
       clear hV6 c3_0 c3_1 c3_2 c3_3 c3_4 c3_5 c3_6 c3_7 f3 l3
       obtain⟨c4_0,c4_1,c4_2,c4_3,c4_4,c4_5,c4_6,c4_7⟩:=(hP8.blk 4 rfl).eight;have f4:=hP8.f 4 rfl;have l4:=hP8.lt 4 rfl
       clear hP8
       gi_wp2_with fail
       refine⟨_,HKN.out,F ||| n,n,V6.heap.size,D::ds,rfl,HRN.out,GkF2_mk,?_⟩
       refine(((HP8.out.allocS n 79).perm (perm_in _ _ _)).sub (List.Sublist.append_right ?_ _)).rebase
       exact .cons_cons _ (.cons_cons _ (.cons_cons _ (.cons_cons _ (.cons _ (.cons _ (.cons _ (.cons_cons _ .slnil)))))))
      case stop=>
       rintro D c pre X _ _ h _
       exact h.elim
  ·obtain rfl:k=S.length:=by omega
   clear hP hcs
   gi_wp2_with fail
   show LeavesInM _ _ _ _ _ _ (marksOf ds) .returning _
   refine hp_leaves (fun Y hY=>?_) _ _ _ (HP.out.sub (L':=.row (.slice A cs.length c) 32 1 cs.length (cs.map fun x=>sv x.1)::exI cs) ?_)
   ·exact⟨.slice A cs.length c,by simp[results,Tryz.results49,go_sem],A,c,cs,rfl,HCS.out,⟨hY.below,keeps_below hY.below,hY.all,hY.low,hY.apart,hY.marks,hY.nodup⟩⟩
   ·exact List.Sublist.append_right (l₁:=[_]) (by unfold GkB;simp) (exI cs)
end Go.Proofs.YtjakdikhdndlgaaGreatDoor
namespace Go.Proofs.YtjakdikhdndlgaaGreatDoor
open Go.RowKit
def Kp2 (gb rb:Nat) (w w':World):Prop:=(∀ B,B≤gb→B≤rb→B≤w.heap.size→Below B w w')∧w.heap.size≤w'.heap.size∧∀ k,k<w.heap.size→k≠gb→k≠rb→w'.heap[k]?=w.heap[k]?
def addG (S:List Nat) (a b:Nat):List Nat:=S.set a (S.getD a 0 ||| 2 ^ b)
def addU (S:List Nat) (a b:Nat):List Nat:=addG (addG S a b) b a
theorem addG_len (S:List Nat) (a b:Nat):(addG S a b).length=S.length:=by unfold addG;rw[List.length_set]
theorem addG_fit {S:List Nat} (hS:∀ x∈S,Fit x) {a b:Nat} (hb:b<512):∀ y∈addG S a b,Fit y:=by
 intro y hy
 unfold addG at hy
 rcases List.mem_or_eq_of_mem_set hy with hy | rfl
 ·exact hS y hy
 ·refine orbit_lt ?_ hb
  rw[List.getD_eq_getElem?_getD]
  cases h:S[a]? with
  | none=>exact fit_zero
  | some z=>exact hS z (List.mem_of_getElem? h)
theorem gadd_u {gb rb cap:Nat} {ext:List Value} {S:List Nat} {arcs:Int} (a b x y:Nat) (w:World) (h:GAt w gb rb cap ext S arcs) (hx:S[a]?=some x) (hy:S[b]?=some y) (hab:a≠b) (ht:x.testBit b=false) (hr:0≤arcs∧arcs≤1000000):
  Calls Tryz.prog 48 #[.pointer (some ⟨gb,0,none⟩),.int .i64 a,.int .i64 b] w fun e w'=>e=.returned (.int .i64 0)∧GAt w' gb rb cap ext (addU S a b) (arcs+1)∧Kp2 gb rb w w':=by
 have HV:=Lib.hid (gvalid_any w h)
 have ha:a<S.length:=(List.getElem?_eq_some_iff.1 hx).1
 have hb:b<S.length:=(List.getElem?_eq_some_iff.1 hy).1
 have HA:=ghas_any (a:Int) w h
 rw[decide_eq_true (by omega)] at HA
 have HA:=Lib.hid HA
 have HB:=ghas_any (b:Int) w h
 rw[decide_eq_true (by omega)] at HB
 have HB:=Lib.hid HB
 have h512:=h.2.2.2
 have hhs:hasS x (b:Int)=false:=by unfold hasS;rw[decide_eq_true (by omega),Bool.true_and,Int.toNat_natCast];exact ht
 have HS:=has_any x (b:Int) w
 rw[hhs] at HS
 unfold sV at HS
 have HS:=Lib.hid HS
 have HAD:=fun W=>add_in x (b:Int) W (by omega)
 rw[Int.toNat_natCast] at HAD
 unfold sV at HAD
 have HAD:=Lib.hid HAD
 have HAE:=fun W=>add_in y (a:Int) W (by omega)
 rw[Int.toNat_natCast] at HAE
 unfold sV at HAE
 have HAE:=Lib.hid HAE
 have HG:=Lib.hid h
 have HX:=Lib.hid hx
 have HY:Hid ((addG S a b)[b]?=some y):=Lib.hid (by unfold addG;rw[List.getElem?_set,if_neg hab];exact hy)
 have HNW:Hid (addG S a b=S.set a (x ||| 2 ^ b)):=Lib.hid (by unfold addG;rw[List.getD_eq_getElem?_getD,hx];rfl)
 have HNX:Hid (addG (addG S a b) b a=(addG S a b).set b (y ||| 2 ^ a)):=Lib.hid (by
  have h2:=HY.out
  conv=>lhs;unfold addG
  rw[show (S.set a (S.getD a 0 ||| 2 ^ b))=addG S a b from rfl,List.getD_eq_getElem?_getD,h2];rfl)
 have HFT:=Lib.hid (addG_fit h.2.2.1 (a:=a) (show b<512 by omega))
 have HFU:=Lib.hid (addG_fit HFT.out (a:=b) (show a<512 by omega))
 have hl1:=addG_len S a b
 have HL1:=Lib.hid hl1
 obtain⟨_,c1,c2,c3⟩:=h.cells
 obtain⟨y0,y1,y2,y3,y4,y5,y6,y7,y8⟩:=row_cells h.2.1 hx
 have j0:(a:Int)<(S.length:Int):=by omega
 have j1:(b:Int)<(S.length:Int):=by omega
 have d0:((a:Int) == (b:Int))=false:=by simp;omega
 have hgr:gb≠rb:=h.ne
 clear h hx hy ht hhs ha hb hab hl1
 go_enter Tryz.func48,Tryz.ntmps48
 go_wp2_with fail
 refine HV.out.mono ?_
 rintro e w1 ⟨rfl,rfl⟩
 go_wp2_with fail
 refine HA.out.mono ?_
 rintro e w1 ⟨rfl,rfl⟩
 go_wp2_with fail
 refine HB.out.mono ?_
 rintro e w1 ⟨rfl,rfl⟩
 go_wp2_with fail
 refine HS.out.mono ?_
 rintro e W1 ⟨rfl,hb1⟩
 have HB1:=Lib.hid hb1
 have hG1:=HG.out.keep hb1
 clear c1 c2 c3 y0 y1 y2 y3 y4 y5 y6 y7 y8
 obtain⟨_,c1,c2,c3⟩:=hG1.cells
 obtain⟨y0,y1,y2,y3,y4,y5,y6,y7,y8⟩:=row_cells hG1.2.1 HX.out
 have HG1:=Lib.hid (show GAt W1.drew gb rb cap ext S arcs from hG1.keep (Below.refl _ _).drew)
 have HB1D:=Lib.hid HB1.out.drew
 clear hb1 hG1
 go_wp2_with fail
 refine Lx.region (C:=fun X=>X.cell? ⟨gb,1,none⟩=some (.slice (some ⟨rb,0,none⟩) S.length cap)) (hs:=[3]) (by kernel_rfl) (by kernel_rfl) c1 ?_
 repeat' (first|((first|refine Lx.ln (fun K hK=>?_) | (first|(refine Lx.lp (v:=?_) ?_ (fun K hK=>?_);rotate_left 1;intro w' hCw;try dsimp only at hCw) | (refine Lx.lr (v:=?_) ?_ (fun K hK=>?_);rotate_left 1));go_simp;first|done | with_reducible rfl);go_simp;refine hK _ ?_;clear hK K) | (refine Lx.le (fun K hK=>?_);go_simp;(first|(go_at_call 94;refine(HAD.out _).mono ?_;rintro e W2 ⟨rfl,hb2⟩;have hG2:=HG1.out.keep hb2;have HGW2:=Lib.hid hG2;have HBW2:=Lib.hid (HB1D.out.trans (hb2.mono HB1D.out.size));obtain⟨_,u1,u2,u3⟩:=hG2.cells;obtain⟨z0,z1,z2,z3,z4,z5,z6,z7,z8⟩:=row_cells hG2.2.1 HX.out;have zf:∀ o,W2.frozen? ⟨rb,o,none⟩=false:=hG2.2.1.frozen;have hc3:(setAt W2 rb (a * 8) (x ||| 2 ^ b)).cell? ⟨gb,1,none⟩=some (.slice (some ⟨rb,0,none⟩) S.length cap):=(hG2.1.otherAt (Ne.symm hgr)).cell rfl;unfold setAt at hc3;have HC3:=Lib.hid hc3;clear hc3;obtain⟨W3,hW3⟩:∃ W3,W3=setAt W2 rb (a * 8) (x ||| 2 ^ b):=⟨_,rfl⟩;have HW3:=Lib.hid hW3;clear hW3;clear hG2 hb2) | skip);refine hK _ _ (by first|with_reducible exact u1 | with_reducible exact HC3.out) ?_;clear hK K))
 all_goals (refine Lx.lex_nil ?_)
 have hW3:=HW3.out
 have hG2:=HGW2.out
 have hb3:Blk W3 rb 79 (rowC (addG S a b)++ext):=by rw[hW3,HNW.out];exact hG2.2.1.setRow HX.out
 have hb4:Blk W3 gb 155 [.bool true,.slice (some ⟨rb,0,none⟩) S.length cap,.int .i64 arcs]:=by rw[hW3];exact hG2.1.otherAt (Ne.symm hgr)
 have hg3:W2.grownBy W3 (some rb):=by rw[hW3];exact grown_setAt _ _ _ _
 have HFW3:=Lib.hid (And.intro hb3 (And.intro hb4 hg3))
 unfold setAt at hW3
 rw[←hW3]
 clear hW3 hG2 hb3 hb4 hg3 HC3 u1 u2 u3 z0 z1 z2 z3 z4 z5 z6 z7 z8 zf
 have hG3:GAt W3 gb rb cap ext (addG S a b) arcs:=⟨by rw[HL1.out];exact HFW3.out.2.1,HFW3.out.1,HFT.out,by rw[HL1.out];exact h512⟩
 clear c1 c2 c3 y0 y1 y2 y3 y4 y5 y6 y7 y8
 obtain⟨_,c1,c2,c3⟩:=hG3.cells
 rw[HL1.out] at c1
 obtain⟨y0,y1,y2,y3,y4,y5,y6,y7,y8⟩:=row_cells hG3.2.1 HY.out
 have HG3:=Lib.hid (show GAt W3.drew gb rb cap ext (addG S a b) arcs from hG3.keep (Below.refl _ _).drew)
 have HB3D:=Lib.hid (Below.refl W3.heap.size W3).drew
 clear hG3
 go_wp2_with fail
 refine Lx.region (C:=fun X=>X.cell? ⟨gb,1,none⟩=some (.slice (some ⟨rb,0,none⟩) S.length cap)) (hs:=[3]) (by kernel_rfl) (by kernel_rfl) c1 ?_
 repeat' (first|((first|refine Lx.ln (fun K hK=>?_) | (first|(refine Lx.lp (v:=?_) ?_ (fun K hK=>?_);rotate_left 1;intro w' hCw;try dsimp only at hCw) | (refine Lx.lr (v:=?_) ?_ (fun K hK=>?_);rotate_left 1));go_simp;first|done | with_reducible rfl);go_simp;refine hK _ ?_;clear hK K) | (refine Lx.le (fun K hK=>?_);go_simp;(first|(go_at_call 94;refine(HAE.out _).mono ?_;rintro e W4 ⟨rfl,hb2⟩;have hG2:=HG3.out.keep hb2;have HGW4:=Lib.hid hG2;have HBW4:=Lib.hid (HB3D.out.trans (hb2.mono HB3D.out.size));obtain⟨_,u1,u2,u3⟩:=hG2.cells;rw[HL1.out] at u1;obtain⟨z0,z1,z2,z3,z4,z5,z6,z7,z8⟩:=row_cells hG2.2.1 HY.out;have zf:∀ o,W4.frozen? ⟨rb,o,none⟩=false:=hG2.2.1.frozen;have hc3:(setAt W4 rb (b * 8) (y ||| 2 ^ a)).cell? ⟨gb,1,none⟩=some (.slice (some ⟨rb,0,none⟩) S.length cap):=(by rw[←HL1.out];exact(hG2.1.otherAt (Ne.symm hgr)).cell rfl);unfold setAt at hc3;have HC3:=Lib.hid hc3;clear hc3;obtain⟨W5,hW5⟩:∃ W5,W5=setAt W4 rb (b * 8) (y ||| 2 ^ a):=⟨_,rfl⟩;have HW5:=Lib.hid hW5;clear hW5;clear hG2 hb2) | skip);refine hK _ _ (by first|with_reducible exact u1 | with_reducible exact HC3.out) ?_;clear hK K))
 all_goals (refine Lx.lex_nil ?_)
 have hW5:=HW5.out
 have hG2:=HGW4.out
 have hb3:Blk W5 rb 79 (rowC (addG (addG S a b) b a)++ext):=by rw[hW5,HNX.out];exact hG2.2.1.setRow HY.out
 have hb4:Blk W5 gb 155 [.bool true,.slice (some ⟨rb,0,none⟩) (addG S a b).length cap,.int .i64 arcs]:=by rw[hW5];exact hG2.1.otherAt (Ne.symm hgr)
 have hg3:W4.grownBy W5 (some rb):=by rw[hW5];exact grown_setAt _ _ _ _
 have HFW5:=Lib.hid (And.intro hb3 (And.intro hb4 hg3))
 unfold setAt at hW5
 rw[←hW5]
 clear hW5 hG2 hb3 hb4 hg3 HC3 u1 u2 u3 z0 z1 z2 z3 z4 z5 z6 z7 z8 zf
 have c1:W5.cell? ⟨gb,2,none⟩=some (.int .i64 arcs):=HFW5.out.2.1.cell rfl
 have c2:=HFW5.out.2.1.lt
 have c3:=HFW5.out.2.1.frozen 2
 have e1:IntKind.i64.wrap (arcs+1)=arcs+1:=IntWalk.i64_in _ (by omega)
 go_wp2_with fail
 go_ret
 obtain⟨hb3,hb4,hg3⟩:=HFW3.out
 obtain⟨hb5,hb6,hg5⟩:=HFW5.out
 have hB2:=HBW2.out
 have hB2s:=hB2.size
 have hB4:=HBW4.out
 have hB4s:=hB4.size
 have hs3:=hg3.size
 have hs5:=hg5.size
 refine⟨rfl,⟨?_,hb5.other _ _ hgr,HFU.out,by unfold addU;rw[addG_len,addG_len];exact h512⟩,fun B h1 h2 h3=>?_,?_,fun k hk h1 h2=>?_⟩
 ·have hl:(addU S a b).length=(addG S a b).length:=by unfold addU;rw[addG_len]
  rw[hl]
  exact hb6.set_ 2 _
 ·have k1:=(hB2.mono h3).grown hg3 (by omega) (fun g hg=>by cases hg;exact h2)
  have k2:=k1.trans (hB4.mono (by have:=k1.size;omega))
  exact(k2.grown hg5 (by omega) (fun g hg=>by cases hg;exact h2)).setCell (p:=⟨gb,2,none⟩) h1 _
 ·simp;omega
 ·rw[Below.heap_setCell _ _ _ _ (fun e=>h1 e),hg5.block k (by omega) (fun e=>h2 (Option.some.inj e)),hB4.block k (by omega),hg3.block k (by omega) (fun e=>h2 (Option.some.inj e)),hB2.block k hk]
theorem Kp2.front {gb rb:Nat} {w w1 w2:World} (hb:Below w.heap.size w w1) (h:Kp2 gb rb w1 w2):Kp2 gb rb w w2:=
 ⟨fun B h1 h2 h3=>(hb.mono h3).trans (h.1 B h1 h2 (Nat.le_trans h3 hb.size)),Nat.le_trans hb.size h.2.1,fun k hk h1 h2=>(h.2.2 k (Nat.lt_of_lt_of_le hk hb.size) h1 h2).trans (hb.block k hk)⟩
theorem Kp2.below {gb rb:Nat} {w w1:World} (hb:Below w.heap.size w w1):Kp2 gb rb w w1:=⟨fun _ _ _ h3=>hb.mono h3,hb.size,fun k hk _ _=>hb.block k hk⟩
def joinF (C:List Int) (S:List Nat) (a b:Int):List Nat:=if a∈C∧b∈C∧(S.getD (lessN C a) 0).testBit (lessN C b)=false then addU S (lessN C a) (lessN C b) else S
theorem less_inj {C:List Int} (hs:C.Pairwise (·<·)) {a b:Int} (ha:a∈C) (hb:b∈C) (h:lessN C a=lessN C b):a=b:=by
 have h1:=less_at hs ha
 have h2:=less_at hs hb
 rw[h,h2] at h1
 exact(Option.some.inj h1).symm
def JoinPost (gb rb cap:Nat) (ext:List Value) (S:List Nat) (arcs:Int) (w:World) (e:Ending) (w':World):Prop:=∃ arcs':Int,e=.returned (.tuple #[])∧(arcs≤arcs'∧arcs'≤arcs+1)∧GAt w' gb rb cap ext S arcs'∧Kp2 gb rb w w'
theorem join_any {gb rb cap:Nat} {ext:List Value} {S:List Nat} {arcs:Int} (pc pg:Nat) (A:Option Addr) (n c:Nat) (C:List Int) (a b:Int) (w:World) (hc:w.cell? ⟨pc,0,none⟩=some (.slice A n c)) (hcl:pc<w.heap.size) (hgc:w.cell? ⟨pg,0,none⟩=some (.pointer (some ⟨gb,0,none⟩))) (hgl:pg<w.heap.size)
  (hr:Row1 intV w w.heap.size A n C) (hn:n≤512) (hs:C.Pairwise (·<·)) (hG:GAt w gb rb cap ext S arcs) (hSl:S.length=n) (hab:a≠b) (har:0≤arcs∧arcs≤1000000):
  Calls Tryz.prog 45 #[.int .i64 a,.int .i64 b,.pointer (some ⟨pc,0,none⟩),.pointer (some ⟨pg,0,none⟩)] w (JoinPost gb rb cap ext (joinF C S a b) arcs w):=by
 have HS:Hid (∀ x W,Below w.heap.size w W→Calls Tryz.prog 46 #[.slice A n c,.int .i64 x] W (RetPost (.tuple #[.int .i64 (lessN C x:Nat),.bool (decide (x∈C))]) W.heap.size W)):=Lib.hid (fun x W hb=>bsearch_any A n c C x W (hr.keep hb) hn hs)
 have HA:Hid (∀ W,Below w.heap.size w W→GAt W gb rb cap ext S arcs):=Lib.hid (fun W hb=>hG.keep hb)
 have HLT:Hid (∀ x∈C,lessN C x<S.length):=Lib.hid (fun x hx=>by
  have:=(List.getElem?_eq_some_iff.1 (less_at hs hx)).1
  have:=hr.1
  omega)
 have HIN:Hid (a∈C→b∈C→lessN C a≠lessN C b):=Lib.hid (fun ha hb e=>hab (less_inj hs ha hb e))
 obtain⟨i,hi⟩:∃ i,i=lessN C a:=⟨_,rfl⟩
 obtain⟨j,hj⟩:∃ j,j=lessN C b:=⟨_,rfl⟩
 have HJF:Hid (joinF C S a b=if a∈C∧b∈C∧(S.getD i 0).testBit j=false then addU S i j else S):=Lib.hid (by unfold joinF;rw[hi,hj])
 obtain⟨R,hR⟩:∃ R,R=joinF C S a b:=⟨_,rfl⟩
 rw[←hR] at HJF ⊢
 have HS1:=Lib.hid (fun W hb=>HS.out a W hb)
 have HS2:=Lib.hid (fun W hb=>HS.out b W hb)
 rw[←hi] at HS1
 rw[←hj] at HS2
 have HLI:Hid (a∈C→i<S.length):=Lib.hid (fun h=>by rw[hi];exact HLT.out a h)
 have HLJ:Hid (b∈C→j<S.length):=Lib.hid (fun h=>by rw[hj];exact HLT.out b h)
 rw[←hi,←hj] at HIN
 have HSL:=Eqn.mk hSl
 clear hi hj hR hr hs hG HS HLT hab hSl
 go_enter Tryz.func45,Tryz.ntmps45
 go_wp2_with fail
 refine(HS1.out _ (Below.refl _ _)).mono ?_
 rintro e W1 ⟨rfl,hb1⟩
 have HB1:=Lib.hid hb1
 have c1:=(hb1.cell (p:=⟨pc,0,none⟩) hcl).trans hc
 have g1:=(hb1.cell (p:=⟨pg,0,none⟩) hgl).trans hgc
 have l1:=Nat.lt_of_lt_of_le hcl hb1.size
 have l2:=Nat.lt_of_lt_of_le hgl hb1.size
 clear hb1 hc hgc hcl hgl
 go_wp2_with fail
 refine(HS2.out _ HB1.out).mono ?_
 rintro e W2 ⟨rfl,hb2⟩
 have HB2:=Lib.hid (HB1.out.trans (hb2.mono HB1.out.size))
 have g2:=(hb2.cell (p:=⟨pg,0,none⟩) l2).trans g1
 have l3:=Nat.lt_of_lt_of_le l2 hb2.size
 clear hb2 c1 g1 l1 l2
 by_cases hac:a∈C
 ·by_cases hbc:b∈C
  ·have h1:=HLI.out hac
   have h2:=HLJ.out hbc
   have h3:=HIN.out hac hbc
   have HAF:Hid (arcF S (i:Int) (j:Int)=(S.getD i 0).testBit j):=Lib.hid (by
    unfold arcF hasS
    have:=HSL.out
    rw[decide_eq_true (by omega),Bool.true_and,decide_eq_true (by omega),Bool.true_and,Int.toNat_natCast,Int.toNat_natCast])
   have HGH:=ghasarc_any (i:Int) (j:Int) W2 (HA.out W2 HB2.out)
   rw[HAF.out] at HGH
   have HGH:=Lib.hid HGH
   have hjf:=HJF.out
   simp only[hac,hbc,true_and] at hjf
   rw[decide_eq_true hac,decide_eq_true hbc]
   cases htb:(S.getD i 0).testBit j with
   | true=>
    rw[htb] at HGH hjf
    have HRE:Hid (R=S):=Lib.hid (by rw[hjf];rfl)
    clear hjf htb
    go_wp2_with fail
    refine HGH.out.mono ?_
    rintro e W3 ⟨rfl,hb3⟩
    have HB3:=Lib.hid (HB2.out.trans (hb3.mono HB2.out.size))
    clear hb3 g2 l3
    go_wp2_with fail
    refine bodyPost_ret (v:=.tuple #[]) (by simp[results,Tryz.results45,go_sem]) rfl ⟨arcs,rfl,⟨Int.le_refl _,by omega⟩,by rw[HRE.out];exact HA.out _ HB3.out,Kp2.below HB3.out⟩
   | false=>
    rw[htb] at HGH hjf
    have HRE:Hid (R=addU S i j):=Lib.hid (by rw[hjf];rfl)
    have HTB:Hid ((S.getD i 0).testBit j=false):=Lib.hid htb
    have HAD:Hid (∀ W,Below w.heap.size w W→Calls Tryz.prog 48 #[.pointer (some ⟨gb,0,none⟩),.int .i64 i,.int .i64 j] W fun e w'=>e=.returned (.int .i64 0)∧GAt w' gb rb cap ext (addU S i j) (arcs+1)∧Kp2 gb rb W w'):=Lib.hid (fun W hb=>by
     have e1:S[i]?=some (S.getD i 0):=by rw[List.getD_eq_getElem?_getD,List.getElem?_eq_getElem h1];rfl
     have e2:S[j]?=some (S.getD j 0):=by rw[List.getD_eq_getElem?_getD,List.getElem?_eq_getElem h2];rfl
     exact gadd_u i j _ _ W (HA.out W hb) e1 e2 h3 htb har)
    clear hjf htb
    go_wp2_with fail
    refine HGH.out.mono ?_
    rintro e W3 ⟨rfl,hb3⟩
    have HB3:=Lib.hid (HB2.out.trans (hb3.mono HB2.out.size))
    have g3:=(hb3.cell (p:=⟨pg,0,none⟩) l3).trans g2
    have l4:=Nat.lt_of_lt_of_le l3 hb3.size
    clear hb3 g2 l3
    go_wp2_with fail
    refine(HAD.out _ HB3.out).mono ?_
    rintro e W4 ⟨rfl,hg4,hk4⟩
    have HG4:=Lib.hid hg4
    have HK4:=Lib.hid (Kp2.front HB3.out hk4)
    clear hg4 hk4 g3 l4
    go_wp2_with fail
    refine bodyPost_ret (v:=.tuple #[]) (by simp[results,Tryz.results45,go_sem]) rfl ⟨arcs+1,rfl,⟨by omega,Int.le_refl _⟩,by rw[HRE.out];exact HG4.out,HK4.out⟩
  ·have HRE:Hid (R=S):=Lib.hid (by rw[HJF.out,if_neg (fun h=>hbc h.2.1)])
   rw[decide_eq_true hac,decide_eq_false hbc]
   clear g2 l3
   go_wp2_with fail
   refine bodyPost_ret (v:=.tuple #[]) (by simp[results,Tryz.results45,go_sem]) rfl ⟨arcs,rfl,⟨Int.le_refl _,by omega⟩,by rw[HRE.out];exact HA.out _ HB2.out,Kp2.below HB2.out⟩
 ·have HRE:Hid (R=S):=Lib.hid (by rw[HJF.out,if_neg (fun h=>hac h.1)])
  rw[decide_eq_false hac]
  clear g2 l3
  go_wp2_with fail
  refine bodyPost_ret (v:=.tuple #[]) (by simp[results,Tryz.results45,go_sem]) rfl ⟨arcs,rfl,⟨Int.le_refl _,by omega⟩,by rw[HRE.out];exact HA.out _ HB2.out,Kp2.below HB2.out⟩
theorem addG_bit {S:List Nat} {a b i j:Nat} (ha:a<S.length):((addG S a b).getD i 0).testBit j=((S.getD i 0).testBit j||(decide (i=a)&&decide (j=b))):=by
 unfold addG
 rw[List.getD_eq_getElem?_getD,List.getElem?_set]
 by_cases h:a=i
 ·subst h
  rw[if_pos rfl,if_pos ha,Option.getD_some,Nat.testBit_or,decide_eq_true rfl,Bool.true_and]
  congr 1
  rw[Nat.testBit_two_pow]
  by_cases hb:b=j
  ·subst hb;simp
  ·rw[decide_eq_false hb,decide_eq_false (fun e=>hb e.symm)]
 ·rw[if_neg h,←List.getD_eq_getElem?_getD,decide_eq_false (fun e=>h e.symm),Bool.false_and,Bool.or_false]
theorem addU_bit {S:List Nat} {a b i j:Nat} (ha:a<S.length) (hb:b<S.length):((addU S a b).getD i 0).testBit j=((S.getD i 0).testBit j||((decide (i=a)&&decide (j=b))||(decide (i=b)&&decide (j=a)))):=by
 unfold addU
 rw[addG_bit (by rw[addG_len];exact hb),addG_bit ha,Bool.or_assoc]
theorem addG_in {S:List Nat} (h:InG S) {a b:Nat} (ha:a<S.length) (hb:b<S.length):InG (addG S a b):=by
 intro y hy k hk
 rw[addG_len]
 obtain⟨i,hi⟩:=List.getElem?_of_mem hy
 have e:(addG S a b).getD i 0=y:=by rw[List.getD_eq_getElem?_getD,hi];rfl
 rw[←e,addG_bit ha,Bool.or_eq_true] at hk
 rcases hk with hk | hk
 ·have hil:i<S.length:=by have:=(List.getElem?_eq_some_iff.1 hi).1;rwa [addG_len] at this
  have e2:S.getD i 0=S[i]:=by rw[List.getD_eq_getElem?_getD,List.getElem?_eq_getElem hil];rfl
  rw[e2] at hk
  exact h _ (List.getElem_mem hil) k hk
 ·simp only[Bool.and_eq_true,decide_eq_true_eq] at hk
  omega
def lnkB (P:List (Int×Int)) (a b:Int):Bool:=P.any fun x=>(decide (x.1=a)&&decide (x.2=b))||(decide (x.1=b)&&decide (x.2=a))
structure JI (C:List Int) (P:List (Int×Int)) (S:List Nat):Prop where
 len:S.length=C.length
 bit:∀ i j,i<C.length→j<C.length→(S.getD i 0).testBit j=lnkB P (C.getD i 0) (C.getD j 0)
 ing:InG S
theorem at_less {C:List Int} (hs:C.Pairwise (·<·)) {x:Int} {i:Nat} (hi:i<C.length):C.getD i 0=x↔x∈C∧i=lessN C x:=by
 have e:C[i]?=some (C.getD i 0):=by rw[List.getD_eq_getElem?_getD,List.getElem?_eq_getElem hi];rfl
 constructor
 ·intro h
  rw[h] at e
  have hm:=List.mem_of_getElem? e
  refine⟨hm,?_⟩
  have h1:=less_at hs hm
  obtain⟨a1,b1⟩:=List.getElem?_eq_some_iff.1 e
  obtain⟨a2,b2⟩:=List.getElem?_eq_some_iff.1 h1
  rcases Nat.lt_trichotomy i (lessN C x) with hlt | heq | hgt
  ·have:=List.pairwise_iff_getElem.1 hs _ _ a1 a2 hlt;omega
  ·exact heq
  ·have:=List.pairwise_iff_getElem.1 hs _ _ a2 a1 hgt;omega
 ·rintro⟨hm,rfl⟩
  rw[less_at hs hm] at e
  exact(Option.some.inj e).symm
theorem JI.join {C:List Int} (hs:C.Pairwise (·<·)) {P:List (Int×Int)} {S:List Nat} (h:JI C P S) (a b:Int):JI C (P++[(a,b)]) (joinF C S a b):=by
 have hb:∀ i j,i<C.length→j<C.length→lnkB (P++[(a,b)]) (C.getD i 0) (C.getD j 0)=((S.getD i 0).testBit j||((decide (a=C.getD i 0)&&decide (b=C.getD j 0))||(decide (a=C.getD j 0)&&decide (b=C.getD i 0)))):=fun i j hi hj=>by
  unfold lnkB
  rw[List.any_append,h.bit i j hi hj]
  congr 1
  simp
 have hd:∀ x i,i<C.length→decide (x=C.getD i 0)=(decide (x∈C)&&decide (i=lessN C x)):=fun x i hi=>by
  rw[Bool.eq_iff_iff,Bool.and_eq_true,decide_eq_true_eq,decide_eq_true_eq,decide_eq_true_eq,←at_less hs hi]
  exact eq_comm
 by_cases hc:a∈C∧b∈C
 ·have ha:lessN C a<S.length:=by rw[h.len];exact(List.getElem?_eq_some_iff.1 (less_at hs hc.1)).1
  have hb2:lessN C b<S.length:=by rw[h.len];exact(List.getElem?_eq_some_iff.1 (less_at hs hc.2)).1
  have hbits:∀ i j,i<C.length→j<C.length→lnkB (P++[(a,b)]) (C.getD i 0) (C.getD j 0)=((S.getD i 0).testBit j||((decide (i=lessN C a)&&decide (j=lessN C b))||(decide (i=lessN C b)&&decide (j=lessN C a)))):=fun i j hi hj=>by
   rw[hb i j hi hj,hd a i hi,hd b j hj,hd a j hj,hd b i hi,decide_eq_true hc.1,decide_eq_true hc.2]
   simp only[Bool.true_and]
   congr 2
   exact Bool.and_comm _ _
  unfold joinF
  by_cases ht:(S.getD (lessN C a) 0).testBit (lessN C b)=false
  ·rw[if_pos ⟨hc.1,hc.2,ht⟩]
   refine⟨by unfold addU;rw[addG_len,addG_len];exact h.len,fun i j hi hj=>?_,addG_in (addG_in h.ing ha hb2) (by rw[addG_len];exact hb2) (by rw[addG_len];exact ha)⟩
   rw[hbits i j hi hj,addU_bit ha hb2]
  ·rw[if_neg (fun hh=>ht hh.2.2)]
   refine⟨h.len,fun i j hi hj=>?_,h.ing⟩
   rw[hbits i j hi hj]
   have ht:(S.getD (lessN C a) 0).testBit (lessN C b)=true:=by simpa using ht
   have ht2:(S.getD (lessN C b) 0).testBit (lessN C a)=true:=by
    have hlen:=h.len
    have e1:=h.bit _ _ (by omega:lessN C a<C.length) (by omega:lessN C b<C.length)
    have e2:=h.bit _ _ (by omega:lessN C b<C.length) (by omega:lessN C a<C.length)
    rw[e2,←ht,e1]
    unfold lnkB
    congr 1;funext x;rw[Bool.or_comm]
   by_cases h1:i=lessN C a∧j=lessN C b
   ·rw[h1.1,h1.2,ht];simp
   ·by_cases h2:i=lessN C b∧j=lessN C a
    ·rw[h2.1,h2.2,ht2];simp
    ·have e1:(decide (i=lessN C a)&&decide (j=lessN C b))=false:=by rw[←Bool.not_eq_true,Bool.and_eq_true,decide_eq_true_eq,decide_eq_true_eq];exact h1
     have e2:(decide (i=lessN C b)&&decide (j=lessN C a))=false:=by rw[←Bool.not_eq_true,Bool.and_eq_true,decide_eq_true_eq,decide_eq_true_eq];exact h2
     rw[e1,e2];simp
 ·have he:joinF C S a b=S:=by unfold joinF;rw[if_neg (fun hh=>hc ⟨hh.1,hh.2.1⟩)]
  rw[he]
  refine⟨h.len,fun i j hi hj=>?_,h.ing⟩
  rw[hb i j hi hj,hd a i hi,hd b j hj,hd a j hj,hd b i hi]
  by_cases ha:a∈C
  ·have hbn:b∉C:=fun h=>hc ⟨ha,h⟩
   rw[decide_eq_false hbn];simp
  ·rw[decide_eq_false ha];simp
theorem JI.start (C:List Int):JI C [] (List.replicate C.length 0):=by
 refine⟨List.length_replicate ..,fun i j hi _=>?_,fun y hy k hk=>?_⟩
 ·rw[List.getD_eq_getElem?_getD,List.getElem?_replicate,if_pos hi,Option.getD_some,Nat.zero_testBit];rfl
 ·obtain⟨_,rfl⟩:=List.mem_replicate.1 hy
  rw[Nat.zero_testBit] at hk;cases hk
theorem JI.rows {C:List Int} {r:Rul} {S:List Nat} (h:JI C (r.pairs.map (fun x=>(x.a,x.b))++r.loads.map (fun x=>(x.a,x.b))) S):RowsI r C S:=
 ⟨h.len,fun i j hi hj=>by
  rw[h.bit i j hi hj]
  unfold lnkB linkF
  rw[List.any_append,List.any_map,List.any_map]
  rfl,h.ing⟩
end Go.Proofs.YtjakdikhdndlgaaGreatDoor
