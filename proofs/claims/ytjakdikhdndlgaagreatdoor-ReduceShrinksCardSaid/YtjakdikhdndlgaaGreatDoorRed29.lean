/- REDUCE SHRINKS: for every problem and every number of constraints left out,the law ReduceShrinks returns true,and the input reads as it did. Conditions: none beyond the card's own. Printed by genlaw19e.py. -/
import Derived.Test.YtjakdikhdndlgaaGreatDoorRed28
set_option maxRecDepth 100000
set_option maxHeartbeats 60000000
namespace Go.Proofs.YtjakdikhdndlgaaGreatDoor
open Go.RowKit Go.ChangeShapes Go.WideShapes Go.ChangeAt Go.Deep
section
variable {H : Type} {enc : TypeId × Value → H} {P : Program} {w : World} {base b0 : Nat} {spare : Nat → Bool} {held : Bool} {r : Reach}
theorem arg_int {t:TypeId} {v:Value} {d:DataW H} {p:List MemPlace} (ht:P.underlying t=some (.int .i64)) (hv:Value.okWide P w r b0 t v) (h:DataW.Trod enc P w base spare held t v d p):
  ∃ a,v=.int .i64 a∧I64 a:=by
 obtain⟨a,rfl,_,_,wa⟩:=open_int ht hv h
 exact⟨a,rfl,i64_of_wf wa⟩
end
end Go.Proofs.YtjakdikhdndlgaaGreatDoor
namespace Go.Proofs.YtjakdikhdndlgaaGreatDoor
open Go.RowKit
theorem filter_ne_len {l:List Int} {s:Int} (h:s∈l):(l.filter fun x=>!decide (x=s)).length<l.length:=by
 rw[List.length_filter_lt_length_iff_exists]
 exact⟨s,h,by simp⟩
theorem peelG_stuck (D:Dms) (r:Rul):∀(f:Nat) (out set:List Int),set.length≤f→∀ s∈(peelG D r f out set).2,easyF D r (peelG D r f out set).2 s=false:=by
 intro f
 induction f with
 | zero=>
  intro out set h s hs
  have:set=[]:=List.eq_nil_of_length_eq_zero (by omega)
  subst this
  cases hs
 | succ f ih=>
  intro out set h
  rw[peelG]
  split
  ·rename_i hn
   intro s hs
   have:=List.find?_eq_none.1 hn s hs
   simpa using this
  ·rename_i s hs
   have:=filter_ne_len (List.mem_of_find?_eq_some hs)
   exact ih _ _ (by omega)
theorem peelG_keep (D:Dms) (r:Rul) (S:List Int) (hS:∀ s∈S,easyF D r S s=false):∀(f:Nat) (out set:List Int),S.Sublist set→S.Sublist (peelG D r f out set).2:=by
 intro f
 induction f with
 | zero=>intro out set h;exact h
 | succ f ih=>
  intro out set h
  rw[peelG]
  split
  ·exact h
  ·rename_i s hs
   refine ih _ _ ?_
   have he:=List.find?_some hs
   have hns:s∉S:=by
    intro hm
    have h1:=hS s hm
    unfold easyF at h1 he
    rw[decide_eq_false_iff_not] at h1
    rw[decide_eq_true_eq] at he
    have:=sum_sub_of (blN D r s) h
    omega
   have h2:=h.filter (fun x=>!decide (x=s))
   rwa [List.filter_eq_self.2 (fun x hx=>by simp;rintro rfl;exact hns hx)] at h2
theorem any_sub {α:Type} {p:α→Bool} {a b:List α} (h:a.Sublist b) (ha:a.any p=true):b.any p=true:=by
 obtain⟨x,hx,hp⟩:=List.any_eq_true.1 ha
 exact List.any_eq_true.2 ⟨x,h.subset hx,hp⟩
structure SubR (q r:Rul):Prop where
 p:q.pairs.Sublist r.pairs
 l:q.loads.Sublist r.loads
 c:q.caps.Sublist r.caps
theorem blkd_sub {q r:Rul} (h:SubR q r) {s c t d:Int} (hb:blkd q s c t d=true):blkd r s c t d=true:=by
 unfold blkd at hb ⊢
 split at hb
 ·cases hb
 ·rename_i hst
  rw[if_neg hst,Bool.or_eq_true] at *
  rcases hb with hb | hb
  ·exact .inl (any_sub h.p hb)
  ·refine .inr ?_
   rw[Bool.and_eq_true] at hb ⊢
   refine⟨hb.1,?_⟩
   obtain⟨x,hx,hl⟩:=List.any_eq_true.1 hb.2
   refine List.any_eq_true.2 ⟨x,h.l.subset hx,?_⟩
   unfold ldB at hl ⊢
   simp only[Bool.and_eq_true] at hl ⊢
   exact⟨hl.1,hl.2.1,hl.2.2.1,any_sub h.c hl.2.2.2⟩
theorem blN_sub {D:Dms} {q r:Rul} (h:SubR q r) (s t:Int):blN D q s t≤blN D r s t:=by
 refine max_fold_le _ _ _ _ (Nat.zero_le _) (fun d hd=>?_)
 refine Nat.le_trans ?_ (cnt_le_blk hd)
 exact List.countP_mono_left (fun c _ hb=>blkd_sub h hb)
theorem core_fewer {D:Dms} {q r:Rul} (h:SubR q r):(peelF D q).2.Sublist (peelF D r).2:=by
 refine peelG_keep D r _ (fun s hs=>?_) D.length [] _ ?_
 ·have:=peelG_stuck D q D.length [] (D.map Prod.fst) (by rw[List.length_map];exact Nat.le_refl _) s hs
  unfold easyF at this ⊢
  rw[decide_eq_false_iff_not] at this ⊢
  intro hlt
  apply this
  exact Nat.lt_of_le_of_lt (sum_le_of _ _ _ (fun t _=>blN_sub h s t)) hlt
 ·rw[core_list];exact List.filter_sublist
theorem core_stuck (D:Dms) (r:Rul):∀ s∈(peelF D r).2,easyF D r (peelF D r).2 s=false:=peelG_stuck D r D.length [] (D.map Prod.fst) (by rw[List.length_map];exact Nat.le_refl _)
theorem blkd_res {r:Rul} {C:List Int} (hC:∀ y∈C,0≤y∧y<512) {s t:Int} (hab:∀ x∈r.pairs,x.a≠x.b) (hs:s∈C) (ht:t∈C) (c d:Int):blkd (resR (stS C) r) s c t d=blkd r s c t d:=by
 unfold blkd resR
 by_cases hst:s=t
 ·rw[if_pos hst,if_pos hst]
 ·rw[if_neg hst,if_neg hst]
  dsimp only
  have hin:∀ n,n∈C→hasS (stS C) n=true:=fun n hn=>by rw[hasS_mem hC];exact decide_eq_true hn
  congr 1
  ·rw[List.any_filter]
   apply Bool.eq_iff_iff.2
   rw[List.any_eq_true,List.any_eq_true]
   constructor
   ·rintro⟨x,hx,h⟩
    rw[Bool.and_eq_true] at h
    exact⟨x,hx,h.2⟩
   ·rintro⟨x,hx,h⟩
    refine⟨x,hx,?_⟩
    rw[h,Bool.and_true,Bool.and_eq_true]
    rcases bp_two (hab x hx) h with ⟨e1,e2⟩ | ⟨e1,e2⟩
    ·exact⟨hin _ (e1 ▸ hs),hin _ (e2 ▸ ht)⟩
    ·exact⟨hin _ (e1 ▸ ht),hin _ (e2 ▸ hs)⟩
  ·congr 1
   rw[List.any_filter]
   have hcap:∀ n∈C,capF (r.caps.filter fun c=>hasS (stS C) c.a) n c=capF r.caps n c:=by
    intro n hn
    unfold capF
    rw[List.any_filter]
    congr 1
    funext x
    cases h:decide (x.a=n) with
    | false=>simp
    | true=>rw[of_decide_eq_true h,hin n hn];rfl
   apply Bool.eq_iff_iff.2
   rw[List.any_eq_true,List.any_eq_true]
   have hone:∀ x:R5,((decide (x.a=s)&&decide (x.b=t))||(decide (x.a=t)&&decide (x.b=s)))=true→x.a∈C∧x.b∈C:=by
    intro x h
    simp only[Bool.or_eq_true,Bool.and_eq_true,decide_eq_true_eq] at h
    rcases h with ⟨e1,e2⟩ | ⟨e1,e2⟩
    ·exact⟨e1 ▸ hs,e2 ▸ ht⟩
    ·exact⟨e1 ▸ ht,e2 ▸ hs⟩
   constructor
   ·rintro⟨x,hx,h⟩
    rw[Bool.and_eq_true] at h
    refine⟨x,hx,?_⟩
    obtain⟨_,h⟩:=h
    unfold ldB at h ⊢
    rw[Bool.and_eq_true] at h ⊢
    rw[hcap _ (hone x h.1).1] at h
    exact h
   ·rintro⟨x,hx,h⟩
    refine⟨x,hx,?_⟩
    unfold ldB at h ⊢
    rw[Bool.and_eq_true] at h
    rw[Bool.and_eq_true,Bool.and_eq_true,Bool.and_eq_true,hcap _ (hone x h.1).1]
    exact⟨⟨hin _ (hone x h.1).1,hin _ (hone x h.1).2⟩,h⟩
theorem blN_res {ds:List Dom} {r:Rul} {C:List Int} (hC:∀ y∈C,0≤y∧y<512) {s t:Int} (hab:∀ x∈r.pairs,x.a≠x.b) (hs:s∈C) (ht:t∈C):blN ((resD (stS C) ds).map Dom.say) (resR (stS C) r) s t=blN (ds.map Dom.say) r s t:=by
 unfold blN cntB
 rw[chs_res hC hs,chs_res hC ht]
 congr 1
 funext m d
 congr 2
 funext c
 exact blkd_res hC hab hs ht c d
theorem peelF_none {D:Dms} {r:Rul} {C:List Int} (hD:D.map Prod.fst=C) (h:∀ s∈C,easyF D r C s=false):peelF D r=([],C):=by
 unfold peelF;rw[hD];exact peelG_none h _ _
theorem core_again {ds:List Dom} {r:Rul} (hv:VPr ds r) (hab:∀ x∈r.pairs,x.a≠x.b):peelF ((resD (stS (peelF (ds.map Dom.say) r).2) ds).map Dom.say) (resR (stS (peelF (ds.map Dom.say) r).2) r)=([],(peelF (ds.map Dom.say) r).2):=by
 have hC:∀ y∈(peelF (ds.map Dom.say) r).2,0≤y∧y<512:=fun y hy=>hv.sts.1 y (by rw[←say_st];exact core_sub _ _ y hy)
 refine peelF_none (by rw[say_st,res_core hv]) (fun s hs=>?_)
 have:=core_stuck _ _ s hs
 unfold easyF at this ⊢
 rw[decide_eq_false_iff_not] at this ⊢
 rw[chs_res hC hs]
 have e:(peelF (ds.map Dom.say) r).2.map (blN ((resD (stS (peelF (ds.map Dom.say) r).2) ds).map Dom.say) (resR (stS (peelF (ds.map Dom.say) r).2) r) s)=(peelF (ds.map Dom.say) r).2.map (blN (ds.map Dom.say) r s):=
  List.map_congr_left (fun t ht=>blN_res hC hab hs ht)
 rw[e]
 exact this
theorem all_subl {α:Type} {p:α→Bool} {a b:List α} (hs:a.Sublist b) (h:b.all p=true):a.all p=true:=List.all_eq_true.2 fun x hx=>List.all_eq_true.1 h x (hs.subset hx)
theorem inc_subl {α:Type} (cmp:α→α→Int) (nums:α→List Int) (hc:∀ x y,decide (0≤cmp x y)=!lessL (nums x) (nums y)) {a b:List α} (hs:a.Sublist b) (h:incF cmp b=true):incF cmp a=true:=(incF_pair cmp nums hc _).2 (((incF_pair cmp nums hc _).1 h).sublist hs)
theorem rules_sub {q r:Rul} (hq:SubR q r) (h:rulesF r=true):rulesF q=true:=by
 simp only[rulesF,Bool.and_eq_true,decide_eq_true_eq] at h ⊢
 obtain⟨⟨⟨⟨⟨⟨⟨⟨h1,h2⟩,h3⟩,h4⟩,h5⟩,h6⟩,h7⟩,h8⟩,h9⟩:=h
 have e1:=hq.p.length_le
 have e2:=hq.l.length_le
 have e3:=hq.c.length_le
 exact⟨⟨⟨⟨⟨⟨⟨⟨by omega,all_subl hq.p h2⟩,inc_subl cmp5 R5.nums cmp5_less hq.p h3⟩,by omega⟩,all_subl hq.l h5⟩,inc_subl cmp5 R5.nums cmp5_less hq.l h6⟩,by omega⟩,all_subl hq.c h8⟩,inc_subl cmp4 R4.nums cmp4_less hq.c h9⟩
theorem valid_sub {ds:List Dom} {q r:Rul} (hq:SubR q r) (h:validP ds r=true):validP ds q=true:=by
 unfold validP validD at h ⊢
 simp only[Bool.and_eq_true] at h ⊢
 obtain⟨⟨⟨h1,h2⟩,h3⟩,h4,h5,h6⟩:=h
 exact⟨⟨⟨h1,rules_sub hq h2⟩,h3⟩,all_subl hq.p h4,all_subl hq.l h5,all_subl hq.c h6⟩
theorem again_say {ds es:List Dom} {r:Rul} (h:validP ds r=true) (he:es.map Dom.say=(resD (stS (peelF (ds.map Dom.say) r).2) ds).map Dom.say):
  validP es (resR (stS (peelF (ds.map Dom.say) r).2) r)=true∧peelF (es.map Dom.say) (resR (stS (peelF (ds.map Dom.say) r).2) r)=([],(peelF (ds.map Dom.say) r).2):=
 ⟨rest_valid h he,by rw[he];exact core_again (vpr h) (valid_ne h).1⟩
end Go.Proofs.YtjakdikhdndlgaaGreatDoor
namespace Go.Proofs.YtjakdikhdndlgaaGreatDoor
open Go.RowKit Go.Shelf
def dropG {α:Type} (i:Int):Nat→List α→List α
 | _,[]=>[]
 | k,x::q=>if (k:Int)=i then dropG i (k+1) q else x::dropG i (k+1) q
theorem dropG_snoc {α:Type} (i:Int):∀(a:List α) (k:Nat) (x:α),dropG i k (a++[x])=dropG i k a++if ((k+a.length:Nat):Int)=i then [] else [x]:=by
 intro a
 induction a with
 | nil=>intro k x;simp only[List.nil_append,dropG,List.length_nil,Nat.add_zero]
 | cons y q ih=>
  intro k x
  rw[List.cons_append,dropG,dropG,ih,List.length_cons,show k+1+q.length=k+(q.length+1) by omega]
  split<;>simp
theorem dropG_take {α:Type} (i:Int) {l:List α} {k:Nat} {x:α} (h:l[k]?=some x):dropG i 0 (l.take (k+1))=dropG i 0 (l.take k)++if (k:Int)=i then [] else [x]:=by
 have hl:=(List.getElem?_eq_some_iff.1 h).1
 rw[List.take_add_one,h,Option.toList_some,dropG_snoc,List.length_take,Nat.zero_add,Nat.min_eq_left (by omega)]
theorem dropG_sub {α:Type} (i:Int):∀(l:List α) (k:Nat),(dropG i k l).Sublist l:=by
 intro l
 induction l with
 | nil=>intro k;exact List.Sublist.slnil
 | cons x q ih=>
  intro k
  rw[dropG]
  split
  ·exact .cons _ (ih _)
  ·exact .cons_cons _ (ih _)
def fewF (r:Rul) (i:Int):Rul:=⟨dropG i 0 r.pairs,dropG i 0 r.loads,dropG i 0 r.caps⟩
theorem few_sub (r:Rul) (i:Int):SubR (fewF r i) r:=⟨dropG_sub i _ 0,dropG_sub i _ 0,dropG_sub i _ 0⟩
theorem fewer_any (s:RulS) (i:Int) (w:World) (r:Rul) (h:RulAt w w.heap.size s r) (hp:r.pairs.length≤1000) (hl:r.loads.length≤1000) (hc:r.caps.length≤1000):
  Calls Tryz.prog 13 #[s.val,.int .i64 i] w fun e w'=>∃ s':RulS,e=.returned s'.val∧RulAt w' w'.heap.size s' (fewF r i)∧Below w.heap.size w w':=by
 obtain⟨A0,n0,c0,A1,n1,c1,A2,n2,c2⟩:=s
 obtain⟨r0,r1,r2⟩:=r
 unfold RulS.val
 dsimp only at hp hl hc ⊢
 have z0:r0.length=n0:=h.1.1
 have z1:r1.length=n1:=h.2.1.1
 have z2:r2.length=n2:=h.2.2.1.1
 have l0:n0≤1000:=by omega
 have l1:n1≤1000:=by omega
 have l2:n2≤1000:=by omega
 have Z0:=Eqn.mk z0
 have Z1:=Eqn.mk z1
 have Z2:=Eqn.mk z2
 have H0:=Lib.hid h.1
 have H1:=Lib.hid h.2.1
 have H2:=Lib.hid h.2.2.1
 have HX:=Lib.hid h.2.2.2
 dsimp only at H0 H1 H2 HX
 have hP0:=(((Hp.start w).alloc [.slice A0 n0 c0,.slice A1 n1 c1,.slice A2 n2 c2] 27).alloc [.slice none 0 0,.slice none 0 0,.slice none 0 0] 27).alloc [.slice none 0 0,.slice none 0 0,.slice none 0 0] 27
 obtain⟨V0,hV0⟩:∃ V0,V0=((w.alloc (.cells #[.slice A0 n0 c0,.slice A1 n1 c1,.slice A2 n2 c2] 27)).alloc (.cells #[.slice none 0 0,.slice none 0 0,.slice none 0 0] 27)).alloc (.cells #[.slice none 0 0,.slice none 0 0,.slice none 0 0] 27):=⟨_,rfl⟩
 rw[←hV0] at hP0
 simp only[World.size_alloc] at hP0
 have hP0:=((hP0.nil 67 5).nil 69 5).nil 71 4
 have HP0:Hid (Hp w w V0 ([.blk w.heap.size 27 [.slice A0 n0 c0,.slice A1 n1 c1,.slice A2 n2 c2],.blk (w.heap.size+1) 27 [.slice none 0 0,.slice none 0 0,.slice none 0 0],.blk (w.heap.size+2) 27 [.slice none 0 0,.slice none 0 0,.slice none 0 0],.row (.slice none 0 0) 67 5 0 [],.row (.slice none 0 0) 69 5 0 [],.row (.slice none 0 0) 71 4 0 []]) []):=Lib.hid hP0
 obtain⟨i0,hi0,ha0,ha1,ha2⟩:=info_parts pair_info
 obtain⟨i1,hi1,hb0,hb1,hb2⟩:=info_parts load_info
 obtain⟨i2,hi2,hc0,hc1,hc2⟩:=info_parts cap_info
 clear h hp hl hc z0 z1 z2 hP0
 go_enter Tryz.func13,Tryz.ntmps13
 go_upto_region 2 with fail
 rw[←hV0]
 clear hV0
 go_wp2_with fail
 go_loopw [6] (fun iv wr=>∃(m:Nat) (pv:Value),iv=.int .i64 m∧m≤n0∧Hp w w wr ([.blk w.heap.size 27 [.slice A0 n0 c0,.slice A1 n1 c1,.slice A2 n2 c2],.blk (w.heap.size+1) 27 [.slice none 0 0,.slice none 0 0,.slice none 0 0],.blk (w.heap.size+2) 27 [pv,.slice none 0 0,.slice none 0 0],.row (pv) 67 5 (dropG i 0 (r0.take m)).length (flat 5 R5.cell (dropG i 0 (r0.take m))),.row (.slice none 0 0) 69 5 0 [],.row (.slice none 0 0) 71 4 0 []]) []) (fun iv _=>n0 - (intOf iv).toNat)
 case atStart=>exact⟨0,.slice none 0 0,rfl,Nat.zero_le _,HP0.out⟩
 case round=>
  clear HP0
  obtain⟨m,pv,rfl,hm,hP⟩:=hrel
  obtain⟨pA,pc,rfl⟩:=hP.form 3 rfl
  have q0:=hP.c 0 0 rfl rfl
  have q4:=hP.lt 0 rfl
  by_cases hml:m<n0
  ·have j1:(m:Int)<(n0:Int):=by omega
   obtain⟨y,hy⟩:∃ y,r0[m]?=some y:=⟨_,List.getElem?_eq_getElem (by have:=Z0.out;omega)⟩
   obtain⟨b,o,rfl,hb,hc⟩:=(H0.out.keep hP.drew.below).2 (by omega)
   have HDT:=Lib.hid (dropG_take i hy)
   have hln:(dropG i 0 (r0.take m)).length≤m:=Nat.le_trans (dropG_sub i _ 0).length_le (by rw[List.length_take];omega)
   obtain⟨y0,y1,y2,y3,y4⟩:=y
   have e0:=hc m _ hy 0 (by omega)
   have e1:=hc m _ hy 1 (by omega)
   have e2:=hc m _ hy 2 (by omega)
   have e3:=hc m _ hy 3 (by omega)
   have e4:=hc m _ hy 4 (by omega)
   simp only[R5.cell,Nat.add_zero] at e0 e1 e2 e3 e4
   have HPD:=Lib.hid hP.drew
   have HPI:=Lib.hid hP
   have c5:=hP.c 2 0 rfl rfl
   have l5:=hP.lt 2 rfl
   generalize dropG i 0 (r0.take m)=ys at *
   clear hy hc hb hP
   by_cases hmi:(m:Int)=i
   ·have HD2:=Lib.hid (show dropG i 0 (r0.take (m+1))=ys by rw[HDT.out,if_pos hmi,List.append_nil])
    have d1:((m:Int) != i)=false:=by simp[hmi]
    clear hmi HDT c5 l5 e0 e1 e2 e3 e4
    go_wp2_with fail
    go_roundw
    case rel=>exact⟨m+1,_,by go_num,hml,by rw[HD2.out];exact HPI.out⟩
    case measure=>simp[intOf];omega
   ·have HD2:=Lib.hid (show dropG i 0 (r0.take (m+1))=ys++[⟨y0,y1,y2,y3,y4⟩] by rw[HDT.out,if_neg hmi])
    have d1:((m:Int) != i)=true:=by simpa using hmi
    clear hmi HDT
    go_wp2_with fail
    refine Lx.regionT (C:=fun X=>X.cell? ⟨w.heap.size+2,0,none⟩=some (.slice pA ys.length pc)) (C':=fun _=>True) (hs:=[1]) 10 (List.take 10 _) (List.drop 10 _) (List.take_append_drop 10 _).symm rfl (by kernel_rfl) (by kernel_rfl) (by kernel_rfl) c5 ?_
    simp only[List.take_succ_cons,List.take_zero,List.drop_succ_cons,List.drop_zero]
    repeat' (first|((first|refine Lx.ln (fun K hK=>?_) | (first|(refine Lx.lp (v:=?_) ?_ (fun K hK=>?_);rotate_left 1;intro w' hCw;try dsimp only at hCw) | (refine Lx.lr (v:=?_) ?_ (fun K hK=>?_);rotate_left 1));go_simp;first|done | with_reducible rfl);go_simp;refine hK _ ?_;clear hK K) | (refine Lx.le (fun K hK=>?_);go_simp;(first|fail | skip);refine hK _ _ ((HPD.out.alloc0 _).c 2 0 rfl rfl) ?_;clear hK K))
    refine Lx.lex_append rfl rfl _ _ 23 rfl w.heap.size 67 i0 (.agg #[.int .i64 0,.int .i64 0,.int .i64 0,.int .i64 0,.int .i64 0]) 5 40 Tryz.underlying23 hi0 ha0 ha1 ha2 rfl (by decide) _ _ _ rfl ((HPD.out.row 3 rfl).alloc _) ⟨wr.heap.size,0,none⟩ 1 1 [.int .i64 y0,.int .i64 y1,.int .i64 y2,.int .i64 y3,.int .i64 y4] rfl rfl (by exact cells_newN wr.drew _ _) (by simp[Value.oneCell']) (by unfold maxLen;omega) (by omega) (by have:=HPD.out.below.size;simp at this ⊢;omega) ?_
    intro v' w3 hown' hgrow hor
    have hown2:w3.ownsRow w.heap.size 67 5 v' (ys.length+1) (flat 5 R5.cell (ys++[⟨y0,y1,y2,y3,y4⟩])):=by rw[flat_snoc];exact hown'
    have hP7:=(HPD.out.alloc0 (.cells #[.int .i64 y0,.int .i64 y1,.int .i64 y2,.int .i64 y3,.int .i64 y4] 67)).grow 3 rfl hgrow hown2 hor
    have HP7:=Lib.hid hP7
    obtain⟨A7,c7,rfl⟩:=hP7.form 3 rfl
    have u2:=hP7.c 2 0 rfl rfl
    have u3:=hP7.f 2 rfl
    have u4:=hP7.lt 2 rfl
    refine⟨u2,?_⟩
    clear hown' hown2 hgrow hor hP7 c5 q0 e0 e1 e2 e3 e4
    repeat' (first|((first|refine Lx.ln (fun K hK=>?_) | (first|(refine Lx.lp (v:=?_) ?_ (fun K hK=>?_);rotate_left 1;intro w' hCw;try dsimp only at hCw) | (refine Lx.lr (v:=?_) ?_ (fun K hK=>?_);rotate_left 1));go_simp;first|done | with_reducible rfl);go_simp;refine hK _ ?_;clear hK K) | (refine Lx.le (fun K hK=>?_);go_simp;(first|fail | skip);refine hK _ _ (u2) ?_;clear hK K))
    all_goals (refine Lx.lex_nil ?_)
    refine⟨trivial,?_⟩
    repeat' (first|((first|refine Lx.ln (fun K hK=>?_) | (first|(refine Lx.lp (v:=?_) ?_ (fun K hK=>?_);rotate_left 1;intro w' hCw;try dsimp only at hCw) | (refine Lx.lr (v:=?_) ?_ (fun K hK=>?_);rotate_left 1));go_simp;first|done | with_reducible rfl);go_simp;refine hK _ ?_;clear hK K) | (refine Lx.le (fun K hK=>?_);go_simp;(first|skip);refine hK _ _ (trivial) ?_;clear hK K))
    all_goals (refine Lx.lex_nil ?_)
    clear u2 u3 u4
    go_wp2_with fail
    go_roundw
    case rel=>
     refine⟨m+1,.slice A7 (ys.length+1) c7,by go_num,hml,?_⟩
     rw[HD2.out,List.length_append]
     exact HP7.out.set 2 0 (.slice A7 (ys.length+1) c7) rfl
    case measure=>simp[intOf];omega
  ·obtain rfl:n0=m:=by omega
   have j1:¬((n0:Nat):Int)<(n0:Int):=by omega
   have hT:r0.take n0=r0:=List.take_of_length_le (by rw[Z0.out];exact Nat.le_refl _)
   rw[hT] at hP
   have HP1:=Lib.hid hP
   obtain⟨v0,hv0⟩:∃ v,v=Value.slice pA (dropG i 0 r0).length pc:=⟨_,rfl⟩
   rw[←hv0] at HP1
   clear hP hT
   go_wp2_with fail
   clear q0 q4
   go_loopw [7] (fun iv wr=>∃(m:Nat) (pv:Value),iv=.int .i64 m∧m≤n1∧Hp w w wr ([.blk w.heap.size 27 [.slice A0 n0 c0,.slice A1 n1 c1,.slice A2 n2 c2],.blk (w.heap.size+1) 27 [.slice none 0 0,.slice none 0 0,.slice none 0 0],.blk (w.heap.size+2) 27 [v0,pv,.slice none 0 0],.row (v0) 67 5 (dropG i 0 r0).length (flat 5 R5.cell (dropG i 0 r0)),.row (pv) 69 5 (dropG i 0 (r1.take m)).length (flat 5 R5.cell (dropG i 0 (r1.take m))),.row (.slice none 0 0) 71 4 0 []]) []) (fun iv _=>n1 - (intOf iv).toNat)
   case atStart=>exact⟨0,.slice none 0 0,rfl,Nat.zero_le _,HP1.out⟩
   case round=>
    clear HP1
    obtain⟨m,pv,rfl,hm,hP⟩:=hrel
    obtain⟨pA,pc,rfl⟩:=hP.form 4 rfl
    have q0:=hP.c 0 1 rfl rfl
    have q4:=hP.lt 0 rfl
    by_cases hml:m<n1
    ·have j1:(m:Int)<(n1:Int):=by omega
     obtain⟨y,hy⟩:∃ y,r1[m]?=some y:=⟨_,List.getElem?_eq_getElem (by have:=Z1.out;omega)⟩
     obtain⟨b,o,rfl,hb,hc⟩:=(H1.out.keep hP.drew.below).2 (by omega)
     have HDT:=Lib.hid (dropG_take i hy)
     have hln:(dropG i 0 (r1.take m)).length≤m:=Nat.le_trans (dropG_sub i _ 0).length_le (by rw[List.length_take];omega)
     obtain⟨y0,y1,y2,y3,y4⟩:=y
     have e0:=hc m _ hy 0 (by omega)
     have e1:=hc m _ hy 1 (by omega)
     have e2:=hc m _ hy 2 (by omega)
     have e3:=hc m _ hy 3 (by omega)
     have e4:=hc m _ hy 4 (by omega)
     simp only[R5.cell,Nat.add_zero] at e0 e1 e2 e3 e4
     have HPD:=Lib.hid hP.drew
     have HPI:=Lib.hid hP
     have c5:=hP.c 2 1 rfl rfl
     have l5:=hP.lt 2 rfl
     generalize dropG i 0 (r1.take m)=ys at *
     clear hy hc hb hP
     by_cases hmi:(m:Int)=i
     ·have HD2:=Lib.hid (show dropG i 0 (r1.take (m+1))=ys by rw[HDT.out,if_pos hmi,List.append_nil])
      have d1:((m:Int) != i)=false:=by simp[hmi]
      clear hmi HDT c5 l5 e0 e1 e2 e3 e4
      go_wp2_with fail
      go_roundw
      case rel=>exact⟨m+1,_,by go_num,hml,by rw[HD2.out];exact HPI.out⟩
      case measure=>simp[intOf];omega
     ·have HD2:=Lib.hid (show dropG i 0 (r1.take (m+1))=ys++[⟨y0,y1,y2,y3,y4⟩] by rw[HDT.out,if_neg hmi])
      have d1:((m:Int) != i)=true:=by simpa using hmi
      clear hmi HDT
      go_wp2_with fail
      refine Lx.regionT (C:=fun X=>X.cell? ⟨w.heap.size+2,1,none⟩=some (.slice pA ys.length pc)) (C':=fun _=>True) (hs:=[1]) 10 (List.take 10 _) (List.drop 10 _) (List.take_append_drop 10 _).symm rfl (by kernel_rfl) (by kernel_rfl) (by kernel_rfl) c5 ?_
      simp only[List.take_succ_cons,List.take_zero,List.drop_succ_cons,List.drop_zero]
      repeat' (first|((first|refine Lx.ln (fun K hK=>?_) | (first|(refine Lx.lp (v:=?_) ?_ (fun K hK=>?_);rotate_left 1;intro w' hCw;try dsimp only at hCw) | (refine Lx.lr (v:=?_) ?_ (fun K hK=>?_);rotate_left 1));go_simp;first|done | with_reducible rfl);go_simp;refine hK _ ?_;clear hK K) | (refine Lx.le (fun K hK=>?_);go_simp;(first|fail | skip);refine hK _ _ ((HPD.out.alloc0 _).c 2 1 rfl rfl) ?_;clear hK K))
      refine Lx.lex_append rfl rfl _ _ 24 rfl w.heap.size 69 i1 (.agg #[.int .i64 0,.int .i64 0,.int .i64 0,.int .i64 0,.int .i64 0]) 5 40 Tryz.underlying24 hi1 hb0 hb1 hb2 rfl (by decide) _ _ _ rfl ((HPD.out.row 4 rfl).alloc _) ⟨wr.heap.size,0,none⟩ 1 1 [.int .i64 y0,.int .i64 y1,.int .i64 y2,.int .i64 y3,.int .i64 y4] rfl rfl (by exact cells_newN wr.drew _ _) (by simp[Value.oneCell']) (by unfold maxLen;omega) (by omega) (by have:=HPD.out.below.size;simp at this ⊢;omega) ?_
      intro v' w3 hown' hgrow hor
      have hown2:w3.ownsRow w.heap.size 69 5 v' (ys.length+1) (flat 5 R5.cell (ys++[⟨y0,y1,y2,y3,y4⟩])):=by rw[flat_snoc];exact hown'
      have hP7:=(HPD.out.alloc0 (.cells #[.int .i64 y0,.int .i64 y1,.int .i64 y2,.int .i64 y3,.int .i64 y4] 69)).grow 4 rfl hgrow hown2 hor
      have HP7:=Lib.hid hP7
      obtain⟨A7,c7,rfl⟩:=hP7.form 4 rfl
      have u2:=hP7.c 2 1 rfl rfl
      have u3:=hP7.f 2 rfl
      have u4:=hP7.lt 2 rfl
      refine⟨u2,?_⟩
      clear hown' hown2 hgrow hor hP7 c5 q0 e0 e1 e2 e3 e4
      repeat' (first|((first|refine Lx.ln (fun K hK=>?_) | (first|(refine Lx.lp (v:=?_) ?_ (fun K hK=>?_);rotate_left 1;intro w' hCw;try dsimp only at hCw) | (refine Lx.lr (v:=?_) ?_ (fun K hK=>?_);rotate_left 1));go_simp;first|done | with_reducible rfl);go_simp;refine hK _ ?_;clear hK K) | (refine Lx.le (fun K hK=>?_);go_simp;(first|fail | skip);refine hK _ _ (u2) ?_;clear hK K))
      all_goals (refine Lx.lex_nil ?_)
      refine⟨trivial,?_⟩
      repeat' (first|((first|refine Lx.ln (fun K hK=>?_) | (first|(refine Lx.lp (v:=?_) ?_ (fun K hK=>?_);rotate_left 1;intro w' hCw;try dsimp only at hCw) | (refine Lx.lr (v:=?_) ?_ (fun K hK=>?_);rotate_left 1));go_simp;first|done | with_reducible rfl);go_simp;refine hK _ ?_;clear hK K) | (refine Lx.le (fun K hK=>?_);go_simp;(first|skip);refine hK _ _ (trivial) ?_;clear hK K))
      all_goals (refine Lx.lex_nil ?_)
      clear u2 u3 u4
      go_wp2_with fail
      go_roundw
      case rel=>
       refine⟨m+1,.slice A7 (ys.length+1) c7,by go_num,hml,?_⟩
       rw[HD2.out,List.length_append]
       exact HP7.out.set 2 1 (.slice A7 (ys.length+1) c7) rfl
      case measure=>simp[intOf];omega
    ·obtain rfl:n1=m:=by omega
     have j1:¬((n1:Nat):Int)<(n1:Int):=by omega
     have hT:r1.take n1=r1:=List.take_of_length_le (by rw[Z1.out];exact Nat.le_refl _)
     rw[hT] at hP
     have HP2:=Lib.hid hP
     obtain⟨v1,hv1⟩:∃ v,v=Value.slice pA (dropG i 0 r1).length pc:=⟨_,rfl⟩
     rw[←hv1] at HP2
     clear hP hT
     go_wp2_with fail
     clear q0 q4
     go_loopw [8] (fun iv wr=>∃(m:Nat) (pv:Value),iv=.int .i64 m∧m≤n2∧Hp w w wr ([.blk w.heap.size 27 [.slice A0 n0 c0,.slice A1 n1 c1,.slice A2 n2 c2],.blk (w.heap.size+1) 27 [.slice none 0 0,.slice none 0 0,.slice none 0 0],.blk (w.heap.size+2) 27 [v0,v1,pv],.row (v0) 67 5 (dropG i 0 r0).length (flat 5 R5.cell (dropG i 0 r0)),.row (v1) 69 5 (dropG i 0 r1).length (flat 5 R5.cell (dropG i 0 r1)),.row (pv) 71 4 (dropG i 0 (r2.take m)).length (flat 4 R4.cell (dropG i 0 (r2.take m)))]) []) (fun iv _=>n2 - (intOf iv).toNat)
     case atStart=>exact⟨0,.slice none 0 0,rfl,Nat.zero_le _,HP2.out⟩
     case round=>
      clear HP2
      obtain⟨m,pv,rfl,hm,hP⟩:=hrel
      obtain⟨pA,pc,rfl⟩:=hP.form 5 rfl
      have q0:=hP.c 0 2 rfl rfl
      have q4:=hP.lt 0 rfl
      by_cases hml:m<n2
      ·have j1:(m:Int)<(n2:Int):=by omega
       obtain⟨y,hy⟩:∃ y,r2[m]?=some y:=⟨_,List.getElem?_eq_getElem (by have:=Z2.out;omega)⟩
       obtain⟨b,o,rfl,hb,hc⟩:=(H2.out.keep hP.drew.below).2 (by omega)
       have HDT:=Lib.hid (dropG_take i hy)
       have hln:(dropG i 0 (r2.take m)).length≤m:=Nat.le_trans (dropG_sub i _ 0).length_le (by rw[List.length_take];omega)
       obtain⟨y0,y1,y2,y3⟩:=y
       have e0:=hc m _ hy 0 (by omega)
       have e1:=hc m _ hy 1 (by omega)
       have e2:=hc m _ hy 2 (by omega)
       have e3:=hc m _ hy 3 (by omega)
       simp only[R4.cell,Nat.add_zero] at e0 e1 e2 e3
       have HPD:=Lib.hid hP.drew
       have HPI:=Lib.hid hP
       have c5:=hP.c 2 2 rfl rfl
       have l5:=hP.lt 2 rfl
       generalize dropG i 0 (r2.take m)=ys at *
       clear hy hc hb hP
       by_cases hmi:(m:Int)=i
       ·have HD2:=Lib.hid (show dropG i 0 (r2.take (m+1))=ys by rw[HDT.out,if_pos hmi,List.append_nil])
        have d1:((m:Int) != i)=false:=by simp[hmi]
        clear hmi HDT c5 l5 e0 e1 e2 e3
        go_wp2_with fail
        go_roundw
        case rel=>exact⟨m+1,_,by go_num,hml,by rw[HD2.out];exact HPI.out⟩
        case measure=>simp[intOf];omega
       ·have HD2:=Lib.hid (show dropG i 0 (r2.take (m+1))=ys++[⟨y0,y1,y2,y3⟩] by rw[HDT.out,if_neg hmi])
        have d1:((m:Int) != i)=true:=by simpa using hmi
        clear hmi HDT
        go_wp2_with fail
        refine Lx.regionT (C:=fun X=>X.cell? ⟨w.heap.size+2,2,none⟩=some (.slice pA ys.length pc)) (C':=fun _=>True) (hs:=[1]) 10 (List.take 10 _) (List.drop 10 _) (List.take_append_drop 10 _).symm rfl (by kernel_rfl) (by kernel_rfl) (by kernel_rfl) c5 ?_
        simp only[List.take_succ_cons,List.take_zero,List.drop_succ_cons,List.drop_zero]
        repeat' (first|((first|refine Lx.ln (fun K hK=>?_) | (first|(refine Lx.lp (v:=?_) ?_ (fun K hK=>?_);rotate_left 1;intro w' hCw;try dsimp only at hCw) | (refine Lx.lr (v:=?_) ?_ (fun K hK=>?_);rotate_left 1));go_simp;first|done | with_reducible rfl);go_simp;refine hK _ ?_;clear hK K) | (refine Lx.le (fun K hK=>?_);go_simp;(first|fail | skip);refine hK _ _ ((HPD.out.alloc0 _).c 2 2 rfl rfl) ?_;clear hK K))
        refine Lx.lex_append rfl rfl _ _ 25 rfl w.heap.size 71 i2 (.agg #[.int .i64 0,.int .i64 0,.int .i64 0,.int .i64 0]) 4 32 Tryz.underlying25 hi2 hc0 hc1 hc2 rfl (by decide) _ _ _ rfl ((HPD.out.row 5 rfl).alloc _) ⟨wr.heap.size,0,none⟩ 1 1 [.int .i64 y0,.int .i64 y1,.int .i64 y2,.int .i64 y3] rfl rfl (by exact cells_newN wr.drew _ _) (by simp[Value.oneCell']) (by unfold maxLen;omega) (by omega) (by have:=HPD.out.below.size;simp at this ⊢;omega) ?_
        intro v' w3 hown' hgrow hor
        have hown2:w3.ownsRow w.heap.size 71 4 v' (ys.length+1) (flat 4 R4.cell (ys++[⟨y0,y1,y2,y3⟩])):=by rw[flat_snoc];exact hown'
        have hP7:=(HPD.out.alloc0 (.cells #[.int .i64 y0,.int .i64 y1,.int .i64 y2,.int .i64 y3] 71)).grow 5 rfl hgrow hown2 hor
        have HP7:=Lib.hid hP7
        obtain⟨A7,c7,rfl⟩:=hP7.form 5 rfl
        have u2:=hP7.c 2 2 rfl rfl
        have u3:=hP7.f 2 rfl
        have u4:=hP7.lt 2 rfl
        refine⟨u2,?_⟩
        clear hown' hown2 hgrow hor hP7 c5 q0 e0 e1 e2 e3
        repeat' (first|((first|refine Lx.ln (fun K hK=>?_) | (first|(refine Lx.lp (v:=?_) ?_ (fun K hK=>?_);rotate_left 1;intro w' hCw;try dsimp only at hCw) | (refine Lx.lr (v:=?_) ?_ (fun K hK=>?_);rotate_left 1));go_simp;first|done | with_reducible rfl);go_simp;refine hK _ ?_;clear hK K) | (refine Lx.le (fun K hK=>?_);go_simp;(first|fail | skip);refine hK _ _ (u2) ?_;clear hK K))
        all_goals (refine Lx.lex_nil ?_)
        refine⟨trivial,?_⟩
        repeat' (first|((first|refine Lx.ln (fun K hK=>?_) | (first|(refine Lx.lp (v:=?_) ?_ (fun K hK=>?_);rotate_left 1;intro w' hCw;try dsimp only at hCw) | (refine Lx.lr (v:=?_) ?_ (fun K hK=>?_);rotate_left 1));go_simp;first|done | with_reducible rfl);go_simp;refine hK _ ?_;clear hK K) | (refine Lx.le (fun K hK=>?_);go_simp;(first|skip);refine hK _ _ (trivial) ?_;clear hK K))
        all_goals (refine Lx.lex_nil ?_)
        clear u2 u3 u4
        go_wp2_with fail
        go_roundw
        case rel=>
         refine⟨m+1,.slice A7 (ys.length+1) c7,by go_num,hml,?_⟩
         rw[HD2.out,List.length_append]
         exact HP7.out.set 2 2 (.slice A7 (ys.length+1) c7) rfl
        case measure=>simp[intOf];omega
      ·obtain rfl:n2=m:=by omega
       have j1:¬((n2:Nat):Int)<(n2:Int):=by omega
       have hT:r2.take n2=r2:=List.take_of_length_le (by rw[Z2.out];exact Nat.le_refl _)
       rw[hT] at hP
       have HP3:=Lib.hid hP
       obtain⟨v2,hv2⟩:∃ v,v=Value.slice pA (dropG i 0 r2).length pc:=⟨_,rfl⟩
       rw[←hv2] at HP3
       clear hP hT
       clear hv0 hv1 hv2
       obtain⟨B0,d0,rfl,_⟩:=own_formS (by decide) (HP3.out.row 3 rfl)
       obtain⟨B1,d1,rfl,_⟩:=own_formS (by decide) (HP3.out.row 4 rfl)
       obtain⟨B2,d2,rfl,_⟩:=own_formS (by decide) (HP3.out.row 5 rfl)
       have u0:=HP3.out.c 2 0 rfl rfl
       have u1:=HP3.out.c 2 1 rfl rfl
       have u2:=HP3.out.c 2 2 rfl rfl
       have u4:=HP3.out.lt 2 rfl
       have t0:=HP3.out.c 1 0 rfl rfl
       have t1:=HP3.out.c 1 1 rfl rfl
       have t2:=HP3.out.c 1 2 rfl rfl
       have t3:=HP3.out.f 1 rfl
       have t4:=HP3.out.lt 1 rfl
       go_wp2_with fail
       clear u0 u1 u2 u4 t0 t1 t2 t3 t4 q0 q4
       have hPE:=((HP3.out.set 1 0 (.slice B0 (dropG i 0 r0).length d0) rfl).set 1 1 (.slice B1 (dropG i 0 r1).length d1) rfl).set 1 2 (.slice B2 (dropG i 0 r2).length d2) rfl
       have HPE:=Lib.hid hPE
       clear hPE
       obtain⟨B0',d0',e0,R0⟩:=own_formS (by decide) (HPE.out.row 3 rfl)
       obtain⟨B1',d1',e1,R1⟩:=own_formS (by decide) (HPE.out.row 4 rfl)
       obtain⟨B2',d2',e2,R2⟩:=own_formS (by decide) (HPE.out.row 5 rfl)
       injection e0 with e0 _ e0c
       injection e1 with e1 _ e1c
       injection e2 with e2 _ e2c
       subst e0 e0c e1 e1c e2 e2c
       have k0:=HPE.out.c 1 0 rfl rfl
       have k1:=HPE.out.c 1 1 rfl rfl
       have k2:=HPE.out.c 1 2 rfl rfl
       have y0:=(dropG_sub i r0 0).length_le
       have y1:=(dropG_sub i r1 0).length_le
       have y2:=(dropG_sub i r2 0).length_le
       have z0:=Z0.out
       have z1:=Z1.out
       have z2:=Z2.out
       refine bodyPost_ret (v:=.agg #[.slice B0 (dropG i 0 r0).length d0,.slice B1 (dropG i 0 r1).length d1,.slice B2 (dropG i 0 r2).length d2]) (by simp[results,Tryz.results13,go_sem,k0,k1,k2]) rfl ⟨⟨B0,_,d0,B1,_,d1,B2,_,d2⟩,rfl,⟨R0,R1,R2,by dsimp only;omega,by dsimp only;omega,by dsimp only;omega⟩,HPE.out.below⟩
end Go.Proofs.YtjakdikhdndlgaaGreatDoor
namespace Go.Proofs.YtjakdikhdndlgaaGreatDoor
open Go.RowKit Go.Shelf Go.ChangeShapes Go.WideShapes Go.ChangeAt Go.Deep Go.Joins
theorem reduceShrinks_walk (w:World) (hT:Tab w) (ps:PrbS) (ds:List Dom) (r:Rul) (R0:PrbAt w w.heap.size ps ds r∧ps.nd≤9223372036854775807) (i:Int) (_hi:I64 i):
  Calls Tryz.prog 3 #[ps.val,.int .i64 i] w fun e W'=>e=.returned (.bool true)∧Below w.heap.size w W':=by
 have HSM:=Lib.hid (fun (W:World) (hb:Below w.heap.size w W)=>lsmall_any ps W ds r R0.2 ⟨R0.1.1.keep hb,R0.1.2.keep hb⟩)
 have hnl:ds.length=ps.nd:=R0.1.1.1.1
 have hdl:∀ d∈ds,d.len=d.chs.length:=fun d hd=>(R0.1.1.2 d hd).1.symm
 have HSP:Hid (smF ds r 10 40=true→ps.nd≤10∧(∀ d∈ds,d.len≤60)∧r.pairs.length≤40∧r.loads.length≤40∧r.caps.length≤40):=Lib.hid (fun h=>by
  obtain⟨h1,h2,h3,h4,h5⟩:=smF_spec (by decide) h
  exact⟨by omega,h2,by omega,by omega,by omega⟩)
 have HVA:=Lib.hid (fun (W:World) (hb:Below w.heap.size w W)=>rvalid_any ps W ds r R0.2 ⟨R0.1.1.keep hb,R0.1.2.keep hb⟩)
 rw[←valid_eq hdl] at HVA
 have HKN:=Lib.hid (fun (W:World) (hb:Below w.heap.size w W)=>known_any W (hT.keep hb))
 have HPB:=Lib.hid (fun (W:World) (hb:Below w.heap.size w W)=>(⟨R0.1.1.keep hb,R0.1.2.keep hb⟩:PrbAt W W.heap.size ps ds r))
 have HDL:=Lib.hid hdl
 have HNL:=Eqn.mk hnl
 have HTW:=Lib.hid hT
 have HND:=Lib.hid R0.2
 obtain⟨L2,hL2⟩:∃ L,(peelF (ds.map Dom.say) r).2=L:=⟨_,rfl⟩
 obtain⟨m2,hm2⟩:∃ m,L2.length=m:=⟨_,rfl⟩
 obtain⟨L3,hL3⟩:∃ L,(peelF (ds.map Dom.say) (fewF r i)).2=L:=⟨_,rfl⟩
 obtain⟨m3,hm3⟩:∃ m,L3.length=m:=⟨_,rfl⟩
 have HCO:=Lib.hid (fun (hv:validP ds r=true) (hd:∀ d∈ds,d.len≤9223372036854775807) (W:World) (hb:Below w.heap.size w W)=>rcore_yes ps W (HTW.out.keep hb) HND.out hd hv hL2 hm2 (HPB.out W hb))
 have HFE:=Lib.hid (fun (h1:r.pairs.length≤1000) (h2:r.loads.length≤1000) (h3:r.caps.length≤1000) (W:World) (hb:Below w.heap.size w W)=>((fewer_any ps.rs i W r (HPB.out W hb).2 h1 h2 h3).mono (fun e w' hh=>(by
  obtain⟨⟨A0,k0,d0,A1,k1,d1,A2,k2,d2⟩,rfl,h,hb⟩:=hh
  exact⟨A0,k0,d0,A1,k1,d1,A2,k2,d2,rfl,h,hb⟩:∃ A0 k0 d0 A1 k1 d1 A2 k2 d2,e=.returned (.agg #[.slice A0 k0 d0,.slice A1 k1 d1,.slice A2 k2 d2])∧RulAt w' w'.heap.size ⟨A0,k0,d0,A1,k1,d1,A2,k2,d2⟩ (fewF r i)∧Below W.heap.size W w')):Calls Tryz.prog 13 #[.agg #[.slice ps.rs.a0 ps.rs.n0 ps.rs.c0,.slice ps.rs.a1 ps.rs.n1 ps.rs.c1,.slice ps.rs.a2 ps.rs.n2 ps.rs.c2],.int .i64 i] W (fun e w'=>∃ A0 k0 d0 A1 k1 d1 A2 k2 d2,e=.returned (.agg #[.slice A0 k0 d0,.slice A1 k1 d1,.slice A2 k2 d2])∧RulAt w' w'.heap.size ⟨A0,k0,d0,A1,k1,d1,A2,k2,d2⟩ (fewF r i)∧Below W.heap.size W w')))
 have HCF:=Lib.hid (fun (hv:validP ds r=true) (hd:∀ d∈ds,d.len≤9223372036854775807) (A0:Option Addr) (k0 d0:Nat) (A1:Option Addr) (k1 d1:Nat) (A2:Option Addr) (k2 d2:Nat) (W:World) (hb:Below w.heap.size w W) (hr:RulAt W W.heap.size ⟨A0,k0,d0,A1,k1,d1,A2,k2,d2⟩ (fewF r i))=>(rcore_yes ⟨ps.ad,ps.nd,ps.cd,⟨A0,k0,d0,A1,k1,d1,A2,k2,d2⟩⟩ W (HTW.out.keep hb) HND.out hd (valid_sub (few_sub r i) hv) hL3 hm3 ⟨(HPB.out W hb).1,hr⟩:Calls Tryz.prog 12 #[.agg #[.slice ps.ad ps.nd ps.cd,.slice A0 k0 d0,.slice A1 k1 d1,.slice A2 k2 d2]] W (fun e w'=>∃ A c,e=.returned (.tuple #[.slice A m3 c,.int .i64 0])∧Row1 intV w' w'.heap.size A m3 L3∧Below W.heap.size W w')))
 have HRS:=Lib.hid (fun (hv:validP ds r=true) (hmm:m2≤1000) (A:Option Addr) (c:Nat) (W:World) (hb:Below w.heap.size w W) (hA:Row1 intV W W.heap.size A m2 L2)=>((rest_yes ps A m2 c W hv HND.out HDL.out (HPB.out W hb) hA hmm (hL2 ▸ core_ok hv) (hL2 ▸ core_zero hv)).mono (fun e w' hh=>(by
  obtain⟨s,es,rfl,hP,hs,h1,h2,h3⟩:=hh
  have h4:=again_say (es:=es) hv (by rw[hL2];exact hs)
  rw[hL2] at h4
  exact⟨s,es,resR (stS L2) r,rfl,hP,h1,h2,h4.1,congrArg Prod.snd h4.2,congrArg Prod.fst h4.2,h3⟩:∃(s:PrbS) (es:List Dom) (q:Rul),e=.returned (.tuple #[.agg #[.slice s.ad s.nd s.cd,.slice s.rs.a0 s.rs.n0 s.rs.c0,.slice s.rs.a1 s.rs.n1 s.rs.c1,.slice s.rs.a2 s.rs.n2 s.rs.c2],.int .i64 0])∧PrbAt w' w'.heap.size s es q∧s.nd≤9223372036854775807∧(∀ d∈es,d.len≤9223372036854775807)∧validP es q=true∧(peelF (es.map Dom.say) q).2=L2∧(peelF (es.map Dom.say) q).1=[]∧Below W.heap.size W w'))))
 have HCQ:=Lib.hid (fun (sq:PrbS) (es:List Dom) (q:Rul) (W:World) (hb:Below w.heap.size w W) (h1:sq.nd≤9223372036854775807) (h2:∀ d∈es,d.len≤9223372036854775807) (h3:validP es q=true) (h4:(peelF (es.map Dom.say) q).2=L2) (h:PrbAt W W.heap.size sq es q)=>(rcore_yes sq W (HTW.out.keep hb) h1 h2 h3 h4 hm2 h:Calls Tryz.prog 12 #[.agg #[.slice sq.ad sq.nd sq.cd,.slice sq.rs.a0 sq.rs.n0 sq.rs.c0,.slice sq.rs.a1 sq.rs.n1 sq.rs.c1,.slice sq.rs.a2 sq.rs.n2 sq.rs.c2]] W (fun e w'=>∃ A c,e=.returned (.tuple #[.slice A m2 c,.int .i64 0])∧Row1 intV w' w'.heap.size A m2 L2∧Below W.heap.size W w')))
 have HPQ:=Lib.hid (fun (sq:PrbS) (es:List Dom) (q:Rul) (W:World) (hb:Below w.heap.size w W) (h1:sq.nd≤9223372036854775807) (h2:∀ d∈es,d.len≤9223372036854775807) (h3:validP es q=true) (h4:(peelF (es.map Dom.say) q).1=[]) (h:PrbAt W W.heap.size sq es q)=>(rpeel_yes sq W (HTW.out.keep hb) h1 h2 h3 h4 rfl h:Calls Tryz.prog 16 #[.agg #[.slice sq.ad sq.nd sq.cd,.slice sq.rs.a0 sq.rs.n0 sq.rs.c0,.slice sq.rs.a1 sq.rs.n1 sq.rs.c1,.slice sq.rs.a2 sq.rs.n2 sq.rs.c2]] W (fun e w'=>∃ A c,e=.returned (.tuple #[.slice A 0 c,.int .i64 0])∧Row1 intV w' w'.heap.size A 0 []∧Below W.heap.size W w')))
 have HME:Hid (validP ds r=true→m2≤512∧m3≤512∧∀ x∈L3,hasL L2 x=true):=Lib.hid (fun hv=>by
  have h1:=core_fewer (D:=ds.map Dom.say) (few_sub r i)
  have h2:=core_len hv
  rw[hL2,hL3] at h1
  rw[hL2,hm2] at h2
  refine⟨h2,?_,fun x hx=>?_⟩
  ·have:=h1.length_le;omega
  ·rw[hasL_mem];exact decide_eq_true (h1.subset hx))
 have HHS:=Lib.hid (fun (A B:Option Addr) (c d:Nat) (W:World) (hn:m2≤512) (ha:Row1 intV W W.heap.size A m2 L2) (hb:Row1 intV W W.heap.size B m2 L2)=>(sameInts_any A B m2 c m2 d W W.heap.size L2 L2 (by omega) ha hb).mono (fun e w' hh=>(by
  rw[sameL_refl] at hh
  exact hh:e=.returned (.bool true)∧Below W.heap.size W w')))
 clear hL2 hm2 hL3
 obtain⟨W0,hW0⟩:∃ W0,W0=w.alloc (.cells #[.slice ps.ad ps.nd ps.cd,.slice ps.rs.a0 ps.rs.n0 ps.rs.c0,.slice ps.rs.a1 ps.rs.n1 ps.rs.c1,.slice ps.rs.a2 ps.rs.n2 ps.rs.c2] 29):=⟨_,rfl⟩
 have HX0:Hid (Blk W0 w.heap.size 29 [.slice ps.ad ps.nd ps.cd,.slice ps.rs.a0 ps.rs.n0 ps.rs.c0,.slice ps.rs.a1 ps.rs.n1 ps.rs.c1,.slice ps.rs.a2 ps.rs.n2 ps.rs.c2]):=Lib.hid (by rw[hW0];exact blk_new w _ _)
 have hB0:Below w.heap.size w W0:=by rw[hW0];exact(Below.refl _ w).alloc (Nat.le_refl _) _
 have HQ:=Lib.hid (fun (W:World) (hb:Below W0.heap.size W0 W)=>(by
  have hx:=HX0.out.keep hb
  exact⟨hx.cell (i:=0) rfl,hx.cell (i:=1) rfl,hx.cell (i:=2) rfl,hx.cell (i:=3) rfl,hx.lt⟩:W.cell? ⟨w.heap.size,0,none⟩=some (.slice ps.ad ps.nd ps.cd)∧W.cell? ⟨w.heap.size,1,none⟩=some (.slice ps.rs.a0 ps.rs.n0 ps.rs.c0)∧W.cell? ⟨w.heap.size,2,none⟩=some (.slice ps.rs.a1 ps.rs.n1 ps.rs.c1)∧W.cell? ⟨w.heap.size,3,none⟩=some (.slice ps.rs.a2 ps.rs.n2 ps.rs.c2)∧w.heap.size<W.heap.size))
 have HB0:=Lib.hid hB0
 have HS0:=Lib.hid (HSM.out W0 hB0)
 obtain⟨q0,q1,q2,q3,q4⟩:=HQ.out W0 (Below.refl _ _)
 unfold PrbS.val at *
 clear R0 hnl hdl hT hB0 HSM
 generalize hsm:smF ds r 10 40=sm at *
 clear hsm
 go_enter Tryz.func3,Tryz.ntmps3
 go_upto_region 1 with fail
 rw[←hW0]
 clear hW0
 go_wp2_with fail
 refine HS0.out.mono ?_
 rintro e W1 ⟨rfl,hb1⟩
 have HF1:=Lib.hid hb1
 have HB1:=Lib.hid (HB0.out.trans (hb1.mono HB0.out.size))
 clear hb1 q0 q1 q2 q3 q4 HS0
 cases sm with
 | false=>
  go_wp2_with fail
  refine(HKN.out _ HB1.out).mono ?_
  rintro e W9 ⟨rfl,hb9⟩
  have HB9:=Lib.hid (Below.trans HB1.out (hb9.mono (Below.size HB1.out)))
  clear hb9
  go_wp2_with fail
  go_ret
  exact⟨rfl,HB9.out⟩
 | true=>
  obtain⟨hn10,hd60,hp40,hl40,hc40⟩:=HSP.out rfl
  have hd6:∀ d∈ds,d.len≤9223372036854775807:=fun d hd=>by have:=hd60 d hd;omega
  replace HCO:=Lib.hid (fun hv=>HCO.out hv hd6)
  replace HCF:=Lib.hid (fun hv=>HCF.out hv hd6)
  replace HFE:=Lib.hid (HFE.out (by omega) (by omega) (by omega))
  clear hn10 hd60 hp40 hl40 hc40 hd6 HSP
  obtain⟨q0,q1,q2,q3,q4⟩:=HQ.out W1 HF1.out
  generalize validP ds r=vv at *
  go_wp2_with fail
  refine(HVA.out W1 HB1.out).mono ?_
  rintro e W2 ⟨rfl,hb2⟩
  have HF2:=Lib.hid (HF1.out.trans (hb2.mono HF1.out.size))
  have HB2:=Lib.hid (HB1.out.trans (hb2.mono HB1.out.size))
  clear hb2 q0 q1 q2 q3 q4
  obtain⟨q0,q1,q2,q3,q4⟩:=HQ.out W2 HF2.out
  cases vv with
  | false=>
   clear q0 q1 q2 q3 q4
   go_wp2_with fail
   refine(HKN.out _ HB2.out).mono ?_
   rintro e W9 ⟨rfl,hb9⟩
   have HB9:=Lib.hid (Below.trans HB2.out (hb9.mono (Below.size HB2.out)))
   clear hb9
   go_wp2_with fail
   go_ret
   exact⟨rfl,HB9.out⟩
  | true=>
   obtain⟨hm2,hm3',hin⟩:=HME.out rfl
   have HIN:=Lib.hid hin
   replace HCO:=Lib.hid (HCO.out rfl)
   replace HCF:=Lib.hid (HCF.out rfl)
   replace HRS:=Lib.hid (HRS.out rfl (by omega))
   have HM3:=Eqn.mk hm3
   clear HME hin hm3
   go_wp2_with fail
   refine(HCO.out W2 HB2.out).mono ?_
   rintro e W3 ⟨A3,c3,rfl,hr3,hb3⟩
   have HR3:=Lib.hid hr3
   clear hr3 HCO
   have HF3:=Lib.hid (HF2.out.trans (hb3.mono HF2.out.size))
   have HB3:=Lib.hid (HB2.out.trans (hb3.mono HB2.out.size))
   clear hb3 q0 q1 q2 q3 q4
   obtain⟨q0,q1,q2,q3,q4⟩:=HQ.out W3 HF3.out
   have HD3:=Lib.hid ((Below.refl W3.heap.size W3).drew)
   go_wp2_with fail
   refine Lx.region (C:=fun X=>X.cell? ⟨w.heap.size,0,none⟩=some (.slice ps.ad ps.nd ps.cd)) (hs:=[1]) (by kernel_rfl) (by kernel_rfl) q0 ?_
   repeat' (first|((first|refine Lx.ln (fun K hK=>?_) | (first|(refine Lx.lp (v:=?_) ?_ (fun K hK=>?_);rotate_left 1;intro w' hCw;try dsimp only at hCw) | (refine Lx.lr (v:=?_) ?_ (fun K hK=>?_);rotate_left 1));go_simp;first|done | with_reducible rfl);go_simp;refine hK _ ?_;clear hK K) | (refine Lx.le (fun K hK=>?_);go_simp;(first|(go_at_call 13;refine(HFE.out _ HB3.out.drew).mono ?_;rintro e W4 ⟨A0,k0,d0,A1,k1,d1,A2,k2,d2,rfl,hrr,hb4⟩;replace hb4:Below W3.heap.size W3 W4:=HD3.out.trans (hb4.mono HD3.out.size);have HRR:=Lib.hid hrr;replace HR3:=Lib.hid (HR3.out.keep hb4);have HF4:=Lib.hid (HF3.out.trans (hb4.mono HF3.out.size));have HB4:=Lib.hid (HB3.out.trans (hb4.mono HB3.out.size));clear hrr hb4 q0 q1 q2 q3 q4;obtain⟨q0,q1,q2,q3,q4⟩:=HQ.out W4 HF4.out) | (go_at_call 12;refine(HCF.out A0 k0 d0 A1 k1 d1 A2 k2 d2 W4 HB4.out HRR.out).mono ?_;rintro e W5 ⟨A5,c5,rfl,hr5,hb5⟩;have HR5:=Lib.hid hr5;replace HR3:=Lib.hid (HR3.out.keep hb5);have HF5:=Lib.hid (HF4.out.trans (hb5.mono HF4.out.size));have HB5:=Lib.hid (HB4.out.trans (hb5.mono HB4.out.size));clear hr5 hb5 q0 q1 q2 q3 q4;obtain⟨q0,q1,q2,q3,q4⟩:=HQ.out W5 HF5.out) | skip);refine hK _ _ (q0) ?_;clear hK K) | (refine Lx.lex_cases rfl rfl rfl (fun hgd K hK=>?_) (fun hgd K hK=>?_)<;>(try simp only[decide_eq_true_eq,decide_eq_false_iff_not] at hgd)<;>(first|(exfalso;omega) | (go_simp;refine hK _ ?_;clear hK K))))
   all_goals (refine Lx.lex_nil ?_)
   clear HRR HCF HFE
   go_wp2_with fail
   refine(HRS.out A3 c3 W5 HB5.out HR3.out).mono ?_
   rintro e W6 ⟨sq,es,q,rfl,hPq,hnq,hdq,hvq,hcq,hpq,hb6⟩
   have hh6:((W6.alloc (.cells #[.slice sq.ad sq.nd sq.cd,.slice sq.rs.a0 sq.rs.n0 sq.rs.c0,.slice sq.rs.a1 sq.rs.n1 sq.rs.c1,.slice sq.rs.a2 sq.rs.n2 sq.rs.c2] 29)).heap.size=W6.heap.size+1):=by simp
   obtain⟨W7,hW7⟩:∃ V,V=W6.alloc (.cells #[.slice sq.ad sq.nd sq.cd,.slice sq.rs.a0 sq.rs.n0 sq.rs.c0,.slice sq.rs.a1 sq.rs.n1 sq.rs.c1,.slice sq.rs.a2 sq.rs.n2 sq.rs.c2] 29):=⟨_,rfl⟩
   have hX7:Blk W7 W6.heap.size 29 [.slice sq.ad sq.nd sq.cd,.slice sq.rs.a0 sq.rs.n0 sq.rs.c0,.slice sq.rs.a1 sq.rs.n1 sq.rs.c1,.slice sq.rs.a2 sq.rs.n2 sq.rs.c2]:=by rw[hW7];exact blk_new W6 _ _
   have hb67:Below W6.heap.size W6 W7:=by rw[hW7];exact(Below.refl _ W6).alloc (Nat.le_refl _) _
   have hb7:=hb6.trans (hb67.mono hb6.size)
   have hP7:PrbAt W7 W7.heap.size sq es q:=⟨hPq.1.keep hb67,hPq.2.keep hb67⟩
   have HB7:=Lib.hid (HB5.out.trans (hb7.mono HB5.out.size))
   have HC7:=Lib.hid (fun (W:World) (hb:Below W7.heap.size W7 W)=>HCQ.out sq es q W (HB7.out.trans (hb.mono HB7.out.size)) hnq hdq hvq hcq ⟨hP7.1.keep hb,hP7.2.keep hb⟩)
   have HP7:=Lib.hid (fun (W:World) (hb:Below W7.heap.size W7 W)=>HPQ.out sq es q W (HB7.out.trans (hb.mono HB7.out.size)) hnq hdq hvq hpq ⟨hP7.1.keep hb,hP7.2.keep hb⟩)
   have HX7:=Lib.hid (fun (W:World) (hb:Below W7.heap.size W7 W)=>(by
    have hx:=hX7.keep hb
    exact⟨hx.cell (i:=0) rfl,hx.cell (i:=1) rfl,hx.cell (i:=2) rfl,hx.cell (i:=3) rfl,hx.lt⟩:W.cell? ⟨W6.heap.size,0,none⟩=some (.slice sq.ad sq.nd sq.cd)∧W.cell? ⟨W6.heap.size,1,none⟩=some (.slice sq.rs.a0 sq.rs.n0 sq.rs.c0)∧W.cell? ⟨W6.heap.size,2,none⟩=some (.slice sq.rs.a1 sq.rs.n1 sq.rs.c1)∧W.cell? ⟨W6.heap.size,3,none⟩=some (.slice sq.rs.a2 sq.rs.n2 sq.rs.c2)∧W6.heap.size<W.heap.size))
   replace HR3:=Lib.hid (HR3.out.keep hb7)
   replace HR5:=Lib.hid (HR5.out.keep hb7)
   clear hPq hnq hdq hvq hcq hpq hb6 hb67 hb7 hX7 hP7 hh6 HCQ HPQ HRS q0 q1 q2 q3 q4
   go_upto_region 6 with fail
   rw[←hW7]
   clear hW7
   go_wp2_with fail
   go_loopw [11] (fun kv wr=>∃ k:Nat,kv=.int .i64 k∧k≤m3∧Below W7.heap.size W7 wr) (fun kv _=>m3 - (intOf kv).toNat)
   case atStart=>exact⟨0,rfl,Nat.zero_le _,Below.refl _ _⟩
   case round=>
    obtain⟨k,rfl,hk,hbk⟩:=hrel
    have HBK:=Lib.hid hbk
    by_cases hkl:k<m3
    ·have j1:(k:Int)<(m3:Int):=by omega
     obtain⟨x,hx⟩:∃ x,L3[k]?=some x:=⟨_,List.getElem?_eq_getElem (by rw[HM3.out];exact hkl)⟩
     obtain⟨b5,o5,rfl,hb5,hc5⟩:=(HR5.out.keep hbk).2 (by omega)
     have y5:=hc5 k x hx
     simp only[intV] at y5
     have HHA:=rhas_any A3 m2 c3 x wr L2 (by omega) (HR3.out.keep hbk)
     rw[HIN.out x (List.mem_of_getElem? hx)] at HHA
     have HHA:=Lib.hid HHA
     clear hx hbk hc5
     go_wp2_with fail
     refine HHA.out.mono ?_
     rintro e w8 ⟨rfl,rfl⟩
     clear y5 HHA
     go_wp2_with fail
     go_roundw
     case rel=>exact⟨k+1,by go_num,hkl,HBK.out⟩
     case measure=>simp[intOf];omega
    ·obtain rfl:k=m3:=by omega
     have j1:¬((k:Nat):Int)<(k:Int):=by omega
     have HB8:=Lib.hid (HB7.out.trans (hbk.mono HB7.out.size))
     obtain⟨z0,z1,z2,z3,z4⟩:=HX7.out wr hbk
     clear hbk
     go_wp2_with fail
     refine(HC7.out wr HBK.out).mono ?_
     rintro e W9 ⟨A9,c9,rfl,hr9,hb9⟩
     have HR9:=Lib.hid hr9
     have HF9:=Lib.hid (HBK.out.trans (hb9.mono HBK.out.size))
     have HB9:=Lib.hid (HB8.out.trans (hb9.mono HB8.out.size))
     clear hr9 hb9 z0 z1 z2 z3 z4
     obtain⟨z0,z1,z2,z3,z4⟩:=HX7.out W9 HF9.out
     go_wp2_with fail
     refine(HP7.out W9 HF9.out).mono ?_
     rintro e W10 ⟨A10,c10,rfl,hr10,hb10⟩
     replace HR9:=Lib.hid (HR9.out.keep hb10)
     have HF10:=Lib.hid (HF9.out.trans (hb10.mono HF9.out.size))
     have HB10:=Lib.hid (HB9.out.trans (hb10.mono HB9.out.size))
     clear hr10 hb10 z0 z1 z2 z3 z4
     go_wp2_with fail
     refine(HHS.out A9 A3 c9 c3 W10 hm2 HR9.out (HR3.out.keep HF10.out)).mono ?_
     rintro e W11 ⟨rfl,hb11⟩
     have HB11:=Lib.hid (HB10.out.trans (hb11.mono HB10.out.size))
     clear hb11
     go_wp2_with fail
     refine(HKN.out _ HB11.out).mono ?_
     rintro e W9 ⟨rfl,hb9⟩
     have HB9:=Lib.hid (Below.trans HB11.out (hb9.mono (Below.size HB11.out)))
     clear hb9
     go_wp2_with fail
     go_ret
     exact⟨rfl,HB9.out⟩
theorem reduceShrinks_lifted (os:Os) (started:os.Started) (H:Type) (enc:TypeId×Value→H):
  ReturnsInHanded {} Tryz.checked os 3 .any (fun w args=>(Rows.reduceShrinksSpec.pre enc Tryz.prog Tryz.f3 [] false w args∧laidMetH Tryz.prog laid07 w)∧sizedMet enc Tryz.prog Tryz.f3 (OpenSpec.ofChange Rows.reduceShrinksSpec) false w args) (Rows.reduceShrinksSpec.post enc Tryz.prog Tryz.f3 false true false false):=by
 refine handed_laid (C:=Tryz.checked) (laid:=laid07) own started (by kernel_rfl) Tryz.func3
  (ChangeSpec.witness_shaped (enc:=enc) (C:=Tryz.checked) (os:=os) (X:=fun w _=>laidMetH Tryz.prog laid07 w) false (World.laidAll Tryz.prog os laid07) #[.agg #[.slice none 0 0,.slice none 0 0,.slice none 0 0,.slice none 0 0],.int .i64 0] 8 (World.laidAll_os _ _ _) (World.shaped_of_ZipB (by kernel_rfl) (by kernel_rfl)) (by kernel_rfl) (by kernel_rfl) (by kernel_rfl) (laidHold os _)) ?_
 intro W base args ds gs before hval0 hW hL hsh
 have hTab:=tab_of hL hsh
 have hval:∀(j:Nat) t v,Tryz.f3.params[j]?=some t→args[j]?=some v→Value.okWide Tryz.prog W .any base t v:=hval0
 have hW':=hW
 obtain⟨p,q,hA0,hV,rfl,hfz,hnd⟩:=hW
 have hA:DataW.TrodAll enc Tryz.prog W 0 (fun _=>true) true Tryz.f3.params.toList args.toList ds p:=hA0
 rw[Tryz.params3] at hA hval
 obtain⟨v0,vs0,d0,ds0,p0,q0,hargs,rfl,rfl,h0,r0⟩:=trodAll_cons hA
 obtain⟨v1,vs1,d1,ds1,p1,q1,rfl,rfl,rfl,h1,r1⟩:=trodAll_cons r0
 obtain⟨rfl,rfl,rfl⟩:=trodAll_nil r1
 obtain rfl:args=#[v0,v1]:=by cases args;simp_all
 obtain⟨rfl,rfl⟩:=trodVars_none hV
 have k0:=h0
 have lt0:∀ x∈p0,x.block<W.heap.size:=by obtain⟨m,hm⟩:=k0;exact DataW.trod_lt m _ _ _ hm
 have k1:=h1
 have lt1:∀ x∈p1,x.block<W.heap.size:=by obtain⟨m,hm⟩:=k1;exact DataW.trod_lt m _ _ _ hm
 obtain⟨s0,ds0,x0,rfl,R0⟩:=arg_prb (hval 0 29 _ rfl rfl) h0
 obtain⟨x1,rfl,b1⟩:=arg_int Tryz.underlying3 (hval 1 3 _ rfl rfl) h1
 clear hA0 hval0
 refine(reduceShrinks_walk W hTab s0 ds0 x0 R0 x1 b1).mono fun e W' ⟨he,bel⟩=>?_
 subst he
 exact⟨_,rfl,_,_,_,[],_,[],hW',trodAll_mk1 (shut_bool Tryz.underlying4 _),(trodAll_cons_mk (Below.trod laidOut (by kernel_rfl) (of_decide_eq_true (by kernel_rfl)) k0 bel lt0) (trodAll_cons_mk (Below.trod laidOut (by kernel_rfl) (of_decide_eq_true (by kernel_rfl)) k1 bel lt1) trodAll_mk0)),rfl,bel.frame _,fun h=>by cases h⟩
theorem reduceShrinks_over:Rows.reduceShrinksRow.holds Tryz.pinned (OpenSpec.ofChange Rows.reduceShrinksSpec):=
 OpenClaim.holds_of_wide 3 Tryz.f3 rfl rfl rfl rfl rfl rfl rfl ⟨rfl,rfl,rfl,rfl,rfl⟩ rfl rfl rfl rfl rfl (by kernel_rfl) Tryz.func3 (by kernel_rfl)
  (of_decide_eq_true (by kernel_rfl)) (by unfold Func.isWrapper;first|(rw[if_pos (by decide +kernel)];kernel_rfl) | (rw[if_neg (by decide +kernel)];exact⟨rfl,rfl⟩))
  (fun os started H enc _=>reduceShrinks_lifted os started H enc)
theorem reduceShrinksCard_holds:Rows.ReduceShrinksCardSaid:=
 Claim7.holds_tied_plain_at .later [] [.data] true (true, "60866ed61efe1440238383c15dd6059d6e8c591d87e8f8b121f25048c3dbf775") false
  reduceShrinks_over (fun _ h=>by cases h) (by kernel_rfl) (fun _ h=>by cases h) reduceShrinks_row_tie rfl ⟨rfl,rfl⟩ (by kernel_rfl) rfl
  (fun f fn hf hfn=>by
   obtain rfl : f = 3 := Option.some.inj ((show Tryz.prog.funcNamed "bandplan/bandplanlaw19.ReduceShrinks" = some 3 by kernel_rfl).symm.trans hf) |>.symm
   obtain rfl:fn=Tryz.f3:=(Option.some.inj (Tryz.func3.symm.trans hfn)).symm
   exact⟨by kernel_rfl,fun j t ht=>by
    rw[Tryz.params3] at ht
    rcases j with _ | j
    ·obtain rfl:t=29:=by simpa using ht.symm
     exact(show Tryz.prog.wantsStandIn 29=false by kernel_rfl)
    rcases j with _ | j
    ·obtain rfl:t=3:=by simpa using ht.symm
     exact(show Tryz.prog.wantsStandIn 3=false by kernel_rfl)
    ·simp at ht⟩)
  (by kernel_rfl)
#print axioms reduceShrinksCard_holds
end Go.Proofs.YtjakdikhdndlgaaGreatDoor
