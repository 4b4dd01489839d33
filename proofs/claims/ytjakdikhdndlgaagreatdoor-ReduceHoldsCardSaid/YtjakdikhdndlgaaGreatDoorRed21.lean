/- The contract of arrange of reduce. -/
import Derived.Deep.OwnRows
import Derived.Test.YtjakdikhdndlgaaGreatDoorRed20
set_option maxRecDepth 100000
set_option maxHeartbeats 16000000
namespace Go.Proofs.YtjakdikhdndlgaaGreatDoor
open Go.RowKit
def TbA (s0 s1 s2:Value):Array Value:=#[s0,s1,s2]++Array.replicate 512 (.int .i64 0)
theorem build_tb (W:World) (A0 A1 A2:Option Addr) (n0 n1 n2 c0 c1 c2:Nat):(Instr.build 91 #[(0,.slice A0 n0 c0),(1,.slice A1 n1 c1),(2,.slice A2 n2 c2)]).run Tryz.prog W=.ok (.agg (TbA (.slice A0 n0 c0) (.slice A1 n1 c1) (.slice A2 n2 c2))) W:=by kernel_rfl
theorem tbz_eq (v0 v1 v2:Value):((Tryz.zeroCells91.setIfInBounds 0 v0).setIfInBounds 1 v1).setIfInBounds 2 v2=TbA v0 v1 v2:=by kernel_rfl
theorem permIdx {α:Type} (L:List α) (p:List Nat) (n:Nat) (hn:L.length=n) (hp:p.Perm (List.range n)):L.Perm (p.filterMap fun i=>L[i]?):=by
 subst hn
 have h1:=(hp.symm.filterMap fun i=>L[i]?)
 refine List.Perm.trans ?_ h1
 have:(List.range L.length).filterMap (fun i=>L[i]?)=L:=by
  clear h1 hp p
  induction L with
  | nil=>rfl
  | cons x q ih=>
   rw[List.length_cons,List.range_succ_eq_map,List.filterMap_cons,List.getElem?_cons_zero]
   dsimp only
   rw[List.filterMap_map]
   congr 1
 rw[this]
theorem u64_info:(Tryz.prog.info? 76).map (fun i=>(i.zero,i.size,i.bytes))=some (some (.int .u64 0),1,8):=by kernel_rfl
theorem nbs_info:(Tryz.prog.info? 102).map (fun i=>(i.zero,i.size,i.bytes))=some (some (.slice none 0 0),1,24):=by kernel_rfl
theorem arr512u:(∀ w,(zeroValue 142).run Tryz.prog w=.ok (.agg (Array.replicate 512 (.int .u64 0))) w)∧(Tryz.prog.info? 142).map (·.size)=some 512:=zero_of_info (by kernel_rfl)
theorem TBc_zero (q0 q1 q2 n:Nat):(TbA (.slice (some ⟨q0,0,none⟩) n n) (.slice (some ⟨q1,0,none⟩) n n) (.slice (some ⟨q2,0,none⟩) n n)).toList=TBc q0 q1 q2 n (List.replicate 512 0):=by
 unfold TbA TBc
 rw[List.map_replicate,Array.toList_append,Array.toList_replicate]
 rfl
def stK (D:Dms) (i:Nat):List Int:=(D.map Prod.fst).take i++List.replicate (D.length - i) 0
def dmK (D:Dms) (i:Nat):List Nat:=(D.map fun d=>stS d.2).take i++List.replicate (D.length - i) 0
theorem stK_set {D:Dms} {i:Nat} {d:Int×List Int} (h:D[i]?=some d):(stK D i).set i d.1=stK D (i+1):=fill_set 0 _ _ i _ (by simp) (by rw[List.getElem?_map,h];rfl)
theorem dmK_set {D:Dms} {i:Nat} {d:Int×List Int} (h:D[i]?=some d):(dmK D i).set i (stS d.2)=dmK D (i+1):=fill_set 0 _ _ i _ (by simp) (by rw[List.getElem?_map,h];rfl)
theorem stK_len {D:Dms} {i:Nat} (h:i≤D.length):(stK D i).length=D.length:=by unfold stK;simp;omega
theorem dmK_len {D:Dms} {i:Nat} (h:i≤D.length):(dmK D i).length=D.length:=by unfold dmK;simp;omega
theorem dmK_zero {D:Dms} {i:Nat} (h:i<D.length):(dmK D i)[i]?=some 0:=by
 unfold dmK
 rw[List.getElem?_append_right (by rw[List.length_take,List.length_map];omega),List.getElem?_replicate,if_pos (by rw[List.length_take,List.length_map];omega)]
theorem stS_take {l:List Int} {k:Nat} {c:Int} (h:l[k]?=some c):stS (l.take (k+1))=stS (l.take k) ||| 2 ^ c.toNat:=by rw[List.take_add_one,h,Option.toList_some,stS_snoc]
def cpK (caps:List R4) (k:Nat):List Nat:=(caps.take k).foldl (fun X x=>X.set x.a.toNat (X.getD x.a.toNat 0 ||| spN x.c x.d)) (List.replicate 512 0)
theorem cpK_succ {caps:List R4} {k:Nat} {x:R4} (h:caps[k]?=some x):cpK caps (k+1)=(cpK caps k).set x.a.toNat ((cpK caps k).getD x.a.toNat 0 ||| spN x.c x.d):=by unfold cpK;rw[List.take_add_one,h,List.foldl_append];rfl
theorem cpK_len (caps:List R4) (k:Nat):(cpK caps k).length=512:=by
 have:∀(l:List R4) (X:List Nat),(l.foldl (fun X x=>X.set x.a.toNat (X.getD x.a.toNat 0 ||| spN x.c x.d)) X).length=X.length:=by
  intro l
  induction l with
  | nil=>intro X;rfl
  | cons x q ih=>intro X;rw[List.foldl_cons,ih,List.length_set]
 unfold cpK;rw[this,List.length_replicate]
theorem cpK_lt {caps:List R4} (hc:∀ x∈caps,2≤x.c∧x.c≤x.d∧x.d≤51) (k:Nat):∀ y∈cpK caps k,y<18446744073709551616:=by
 have:∀(l:List R4) (X:List Nat),(∀ x∈l,2≤x.c∧x.c≤x.d∧x.d≤51)→(∀ y∈X,y<18446744073709551616)→∀ y∈l.foldl (fun X x=>X.set x.a.toNat (X.getD x.a.toNat 0 ||| spN x.c x.d)) X,y<18446744073709551616:=by
  intro l
  induction l with
  | nil=>intro X _ h;exact h
  | cons x q ih=>
   intro X h1 h2
   rw[List.foldl_cons]
   refine ih _ (fun y hy=>h1 y (by simp[hy])) (fun y hy=>?_)
   rcases List.mem_or_eq_of_mem_set hy with hy | rfl
   ·exact h2 y hy
   ·have hx:=h1 x (by simp)
    refine or_lt64 ?_ (sp_lt (by omega))
    rw[List.getD_eq_getElem?_getD]
    cases hg:X[x.a.toNat]? with
    | none=>decide
    | some z=>exact h2 z (List.mem_of_getElem? hg)
 unfold cpK
 exact this _ _ (fun x hx=>hc x (List.take_subset k caps hx)) (fun y hy=>by obtain⟨_,rfl⟩:=List.mem_replicate.1 hy;decide)
theorem cpK_tb {caps:List R4} (hc:∀ x∈caps,(0≤x.a∧x.a<512)∧2≤x.c∧x.c≤x.d∧x.d≤51) {m:Nat} (hm:m<512) {n:Nat} (hn:caps.length≤n) {CP:Nat} (h:(cpK caps n)[m]?=some CP) (c:Nat):CP.testBit c=capF caps (m:Int) (c:Int):=by
 have key:∀(l:List R4) (X:List Nat),X.length=512→(∀ x∈l,(0≤x.a∧x.a<512)∧2≤x.c∧x.c≤x.d∧x.d≤51)→∀ CP,(l.foldl (fun X x=>X.set x.a.toNat (X.getD x.a.toNat 0 ||| spN x.c x.d)) X)[m]?=some CP→CP.testBit c=((X.getD m 0).testBit c||capF l (m:Int) (c:Int)):=by
  intro l
  induction l with
  | nil=>
   intro X _ _ CP h
   rw[List.foldl_nil] at h
   rw[List.getD_eq_getElem?_getD,h]
   simp[capF]
  | cons x q ih=>
   intro X hX hl CP h
   rw[List.foldl_cons] at h
   rw[ih _ (by rw[List.length_set];exact hX) (fun y hy=>hl y (by simp[hy])) CP h]
   have hx:=hl x (by simp)
   unfold capF
   rw[List.any_cons,←Bool.or_assoc]
   congr 1
   rw[List.getD_eq_getElem?_getD,List.getElem?_set]
   by_cases hxm:x.a.toNat=m
   ·rw[if_pos hxm,if_pos (by omega),Option.getD_some,hxm,Nat.testBit_or,sp_tb (by omega),show decide (x.a=(m:Int))=true from decide_eq_true (by omega),Bool.true_and]
   ·rw[if_neg hxm,show decide (x.a=(m:Int))=false from decide_eq_false (by omega),Bool.false_and,Bool.or_false,List.getD_eq_getElem?_getD]
 unfold cpK at h
 rw[List.take_of_length_le hn] at h
 rw[key caps _ (List.length_replicate ..) hc CP h,List.getD_eq_getElem?_getD,List.getElem?_replicate,if_pos hm,Option.getD_some,Nat.zero_testBit,Bool.false_or]
theorem arE_setB {S:ArS} {n:Nat} {NV:List NH} {LK:List Lk} {q:Nat} {l l':Lk} (hq:LK[q]?=some l) (hi:l'.i=l.i) (hj:l'.j=l.j) (hg:l'.g=l.g) (hr:lkR l'=lkR l):(arE S n NV LK).set (8+n+q) (lkB l')=arE S n NV (LK.set q l'):=by
 have h:=arE_setL (S:=S) (n:=n) (NV:=NV) hq hi hj hg
 have e:(arE S n NV LK).set (8+n+LK.length+q) (lkR l')=arE S n NV LK:=by
  apply List.ext_getElem?
  intro k
  rw[List.getElem?_set]
  split
  ·next hk=>
   subst hk
   have:=arE_row (S:=S) (n:=n) (NV:=NV) hq
   rw[this,hr,if_pos (List.getElem?_eq_some_iff.1 this).1]
  ·rfl
 rw[e] at h
 exact h
theorem Hp.setOther {w u W:World} {L:List Ent} {ds:List Nat} (h:Hp w u W L ds) {i j:Nat} {g t p tx:Nat} {C X:List Value} (hb:L[i]?=some (.blk g t C)) (hx:L[j]?=some (.blk p tx X)) (hij:i≠j) (k:Nat) (v:Value) {o:Nat} {x:Value} (hc:X[o]?=some x):(W.setCell ⟨g,k,none⟩ v).cell? ⟨p,o,none⟩=some x:=
 (h.set i k v hb).c j o (by rw[List.getElem?_set_ne hij];exact hx) hc
theorem arE_ne {S:ArS} {n:Nat} {NV:List NH} {LK:List Lk} {q:Nat} {l:Lk} (hq:LK[q]?=some l):8+n+q≠(arE S n NV LK).length∧8+n+q≠6:=by
 have hql:=(List.getElem?_eq_some_iff.1 hq).1
 have hl0:(arE S n NV LK).length=8+(n+(LK.length+LK.length)):=by unfold arE;simp[arF];omega
 omega
theorem arrange_any (s:PrbS) (w:World) (ds:List Dom) (r:Rul) (h:PrbAt w w.heap.size s ds r) (hp:PrI (ds.map Dom.say) r) (hj:PrJ (ds.map Dom.say) r) (hup:((ds.map Dom.say).map Prod.fst).Pairwise (·<·)):
  Calls Tryz.prog 42 #[s.val] w (ArPost (ds.map Dom.say) r w):=by
 obtain⟨D,hD⟩:∃ D,D=ds.map Dom.say:=⟨_,rfl⟩
 have HD:=Lib.hid hD
 rw[←hD] at hp hj hup
 have hlen:=hp.len
 have hnd:s.nd=D.length:=by rw[hD,List.length_map];exact h.1.1.1.symm
 have HPR:=Lib.hid hp
 have HPA:=Lib.hid h
 have HST:Hid (∀ i,i<D.length→0≤stA D i∧stA D i<512):=Lib.hid (fun i hi=>by
  have hDi:D[i]?=some D[i]:=List.getElem?_eq_getElem hi
  rw[stA_at hDi]
  exact hj.st _ (List.mem_map_of_mem (List.getElem_mem hi)))
 have HPJ:=Lib.hid hj
 have HUP:Hid ((D.map Prod.fst).Pairwise (·<·)):=Lib.hid hup
 have HNB:Hid (∀ {P Ls:List R5} {LK:List Lk},LkI D r.caps P Ls LK→∀ k,k<D.length→(nbs LK k).length≤100000):=Lib.hid (fun hI k hk=>Nat.le_trans (nbs_len hI k hk) (by omega))
 clear h hp hD hj hup
 obtain⟨Ad,nd,cd,⟨A0,n0,c0,A1,n1,c1,A2,n2,c2⟩⟩:=s
 dsimp only at hnd
 subst hnd
 obtain⟨g0,hg0,hg1,hg2,hg3⟩:=info_parts pair_info
 have hmk0:=fun W=>run_make_row' (P:=Tryz.prog) 32 3 (.int .i64 0) 8 Tryz.underlying32 int_info (by simp[Value.cells]) .i64 .i64 D.length (by omega) (by omega) W
 have hmk1:=fun W=>run_make_row' (P:=Tryz.prog) 87 76 (.int .u64 0) 8 Tryz.underlying87 u64_info (by simp[Value.cells]) .i64 .i64 D.length (by omega) (by omega) W
 have hmk2:=fun W=>run_make_row' (P:=Tryz.prog) 88 102 (.slice none 0 0) 24 Tryz.underlying88 nbs_info (by simp[Value.cells]) .i64 .i64 D.length (by omega) (by omega) W
 have hbd:=build_tb
 obtain⟨X0,hX0⟩:∃ X,X=madeCells #[Value.int .i64 0] D.length:=⟨_,rfl⟩
 obtain⟨X1,hX1⟩:∃ X,X=madeCells #[Value.int .u64 0] D.length:=⟨_,rfl⟩
 obtain⟨X2,hX2⟩:∃ X,X=madeCells #[Value.slice none 0 0] D.length:=⟨_,rfl⟩
 rw[←hX0] at hmk0
 rw[←hX1] at hmk1
 rw[←hX2] at hmk2
 have HX0:=Eqn.mk hX0
 have HX1:=Eqn.mk hX1
 have HX2:=Eqn.mk hX2
 clear hX0 hX1 hX2
 obtain⟨V0,hV0⟩:∃ V,V=w.alloc (.cells #[.slice Ad D.length cd,.slice A0 n0 c0,.slice A1 n1 c1,.slice A2 n2 c2] 29):=⟨_,rfl⟩
 obtain⟨pb,hpb⟩:∃ p,p=w.heap.size:=⟨_,rfl⟩
 have hP0:=(Hp.start w).alloc [.slice Ad D.length cd,.slice A0 n0 c0,.slice A1 n1 c1,.slice A2 n2 c2] 29
 rw[show ([.slice Ad D.length cd,.slice A0 n0 c0,.slice A1 n1 c1,.slice A2 n2 c2]:List Value).toArray=#[.slice Ad D.length cd,.slice A0 n0 c0,.slice A1 n1 c1,.slice A2 n2 c2] from rfl,←hV0,←hpb] at hP0
 have HV0:=Lib.hid hP0
 have b0:=hP0.c 0 0 rfl rfl
 have bl:=hP0.lt 0 rfl
 have HPB:=Eqn.mk hpb
 unfold PrbS.val
 dsimp only
 clear hP0
 go_enter Tryz.func42,Tryz.ntmps42
 go_upto_region 2 with fail
 rw[←hV0,←hpb]
 clear hV0 hpb
 go_cut [4] from 5 to 153 (fun s4 wx=>∃ tb pt q2 q0 q1:Nat,s4=.pointer (some ⟨pt,0,none⟩)∧Hp w w wx [.blk tb 91 (TbA (.slice (some ⟨q0,0,none⟩) D.length D.length) (.slice (some ⟨q1,0,none⟩) D.length D.length) (.slice (some ⟨q2,0,none⟩) D.length D.length)).toList,.blk pt 85 [.pointer (some ⟨tb,0,none⟩)],.blk q2 102 X2.toList,.blk q0 3 X0.toList,.blk q1 76 X1.toList,.blk pb 29 [.slice Ad D.length cd,.slice A0 n0 c0,.slice A1 n1 c1,.slice A2 n2 c2]] [])
 case first=>
  go_wp2_with fail
  refine Lx.regionA (C:=fun _=>True) (hs:=[]) (.op 0 (.op 2 (.op 4 (.alt (.op 1 (.alt (.op 3 (.alt (.op 5 (.alt (.op 6 (.op 7 (.op 8 (.op 9 .done)))) (.op 8 (.op 6 (.op 7 (.op 9 .done)))))) (.op 8 (.op 5 (.op 6 (.op 7 (.op 9 .done))))))) (.alt (.op 5 (.alt (.op 3 (.alt (.op 6 (.op 7 (.op 8 (.op 9 .done)))) (.op 8 (.op 6 (.op 7 (.op 9 .done)))))) (.op 8 (.op 3 (.op 6 (.op 7 (.op 9 .done))))))) (.op 8 (.alt (.op 3 (.op 5 (.op 6 (.op 7 (.op 9 .done))))) (.op 5 (.op 3 (.op 6 (.op 7 (.op 9 .done)))))))))) (.alt (.op 3 (.alt (.op 1 (.alt (.op 5 (.alt (.op 6 (.op 7 (.op 8 (.op 9 .done)))) (.op 8 (.op 6 (.op 7 (.op 9 .done)))))) (.op 8 (.op 5 (.op 6 (.op 7 (.op 9 .done))))))) (.alt (.op 5 (.alt (.op 1 (.alt (.op 6 (.op 7 (.op 8 (.op 9 .done)))) (.op 8 (.op 6 (.op 7 (.op 9 .done)))))) (.op 8 (.op 1 (.op 6 (.op 7 (.op 9 .done))))))) (.op 8 (.alt (.op 1 (.op 5 (.op 6 (.op 7 (.op 9 .done))))) (.op 5 (.op 1 (.op 6 (.op 7 (.op 9 .done)))))))))) (.alt (.op 5 (.alt (.op 1 (.alt (.op 3 (.alt (.op 6 (.op 7 (.op 8 (.op 9 .done)))) (.op 8 (.op 6 (.op 7 (.op 9 .done)))))) (.op 8 (.op 3 (.op 6 (.op 7 (.op 9 .done))))))) (.alt (.op 3 (.alt (.op 1 (.alt (.op 6 (.op 7 (.op 8 (.op 9 .done)))) (.op 8 (.op 6 (.op 7 (.op 9 .done)))))) (.op 8 (.op 1 (.op 6 (.op 7 (.op 9 .done))))))) (.op 8 (.alt (.op 1 (.op 3 (.op 6 (.op 7 (.op 9 .done))))) (.op 3 (.op 1 (.op 6 (.op 7 (.op 9 .done)))))))))) (.op 8 (.alt (.op 1 (.alt (.op 3 (.op 5 (.op 6 (.op 7 (.op 9 .done))))) (.op 5 (.op 3 (.op 6 (.op 7 (.op 9 .done))))))) (.alt (.op 3 (.alt (.op 1 (.op 5 (.op 6 (.op 7 (.op 9 .done))))) (.op 5 (.op 1 (.op 6 (.op 7 (.op 9 .done))))))) (.op 5 (.alt (.op 1 (.op 3 (.op 6 (.op 7 (.op 9 .done))))) (.op 3 (.op 1 (.op 6 (.op 7 (.op 9 .done)))))))))))))))) (by kernel_rfl) (by kernel_rfl) trivial ?_
  dsimp only[Lx.numbT,List.getElem?_cons_zero,List.getElem?_cons_succ]
  repeat' (first|((first|refine Lx.qn (fun K hK=>?_) | (first|(refine Lx.qp (v:=?_) ?_ (fun K hK=>?_);rotate_left 1;intro w' hCw;try dsimp only at hCw) | (refine Lx.qr (v:=?_) ?_ (fun K hK=>?_);rotate_left 1));go_simp;first|done | with_reducible rfl);go_simp;refine hK _ ?_;clear hK K) | (refine Lx.qe (fun K hK=>?_);go_simp;(first|skip | skip);refine hK _ _ (trivial) ?_;clear hK K))
  refine Lx.lexO_alt ?_ ?_
  ·skip
   repeat' (first|((first|refine Lx.qn (fun K hK=>?_) | (first|(refine Lx.qp (v:=?_) ?_ (fun K hK=>?_);rotate_left 1;intro w' hCw;try dsimp only at hCw) | (refine Lx.qr (v:=?_) ?_ (fun K hK=>?_);rotate_left 1));go_simp;first|done | with_reducible rfl);go_simp;refine hK _ ?_;clear hK K) | (refine Lx.qe (fun K hK=>?_);go_simp;(first|skip | skip);refine hK _ _ (trivial) ?_;clear hK K))
   refine Lx.lexO_alt ?_ ?_
   ·skip
    repeat' (first|((first|refine Lx.qn (fun K hK=>?_) | (first|(refine Lx.qp (v:=?_) ?_ (fun K hK=>?_);rotate_left 1;intro w' hCw;try dsimp only at hCw) | (refine Lx.qr (v:=?_) ?_ (fun K hK=>?_);rotate_left 1));go_simp;first|done | with_reducible rfl);go_simp;refine hK _ ?_;clear hK K) | (refine Lx.qe (fun K hK=>?_);go_simp;(first|skip | skip);refine hK _ _ (trivial) ?_;clear hK K))
    refine Lx.lexO_alt ?_ ?_
    ·skip
     repeat' (first|((first|refine Lx.qn (fun K hK=>?_) | (first|(refine Lx.qp (v:=?_) ?_ (fun K hK=>?_);rotate_left 1;intro w' hCw;try dsimp only at hCw) | (refine Lx.qr (v:=?_) ?_ (fun K hK=>?_);rotate_left 1));go_simp;first|done | with_reducible rfl);go_simp;refine hK _ ?_;clear hK K) | (refine Lx.qe (fun K hK=>?_);go_simp;(first|skip | skip);refine hK _ _ (trivial) ?_;clear hK K))
     refine Lx.lexO_alt ?_ ?_
     ·skip
      repeat' (first|((first|refine Lx.qn (fun K hK=>?_) | (first|(refine Lx.qp (v:=?_) ?_ (fun K hK=>?_);rotate_left 1;intro w' hCw;try dsimp only at hCw) | (refine Lx.qr (v:=?_) ?_ (fun K hK=>?_);rotate_left 1));go_simp;first|done | with_reducible rfl);go_simp;refine hK _ ?_;clear hK K) | (refine Lx.qe (fun K hK=>?_);go_simp;(first|skip | skip);refine hK _ _ (trivial) ?_;clear hK K))
      all_goals (refine Lx.lexO_done ?_)
      go_wp2_with fail
      go_meet
      have hq:=(((((((((((HV0.out).alloc X0.toList 3)).alloc X1.toList 76)).alloc X2.toList 102)).alloc (TbA (.slice (some ⟨(V0.heap.size),0,none⟩) D.length D.length) (.slice (some ⟨(V0.heap.size+1),0,none⟩) D.length D.length) (.slice (some ⟨(V0.heap.size+2),0,none⟩) D.length D.length)).toList 91)).alloc [.pointer (some ⟨(V0.heap.size+3),0,none⟩)] 85)).drew
      simp only[World.size_alloc,Array.toArray_toList,Nat.add_assoc,Nat.reduceAdd] at hq
      rw[tbz_eq]
      simp only[Nat.add_assoc,Nat.reduceAdd]
      exact⟨(V0.heap.size+3),(V0.heap.size+4),(V0.heap.size+2),(V0.heap.size),(V0.heap.size+1),rfl,(hq.perm (permIdx _ [4,5,3,1,2,0] 6 rfl (by decide))).base⟩
     ·skip
      repeat' (first|((first|refine Lx.qn (fun K hK=>?_) | (first|(refine Lx.qp (v:=?_) ?_ (fun K hK=>?_);rotate_left 1;intro w' hCw;try dsimp only at hCw) | (refine Lx.qr (v:=?_) ?_ (fun K hK=>?_);rotate_left 1));go_simp;first|done | with_reducible rfl);go_simp;refine hK _ ?_;clear hK K) | (refine Lx.qe (fun K hK=>?_);go_simp;(first|skip | skip);refine hK _ _ (trivial) ?_;clear hK K))
      all_goals (refine Lx.lexO_done ?_)
      go_wp2_with fail
      go_meet
      have hq:=(((((((((((HV0.out).alloc X0.toList 3)).alloc X1.toList 76)).alloc X2.toList 102)).alloc [.pointer (some ⟨(V0.heap.size+4),0,none⟩)] 85)).alloc (TbA (.slice (some ⟨(V0.heap.size),0,none⟩) D.length D.length) (.slice (some ⟨(V0.heap.size+1),0,none⟩) D.length D.length) (.slice (some ⟨(V0.heap.size+2),0,none⟩) D.length D.length)).toList 91)).drew
      simp only[World.size_alloc,Array.toArray_toList,Nat.add_assoc,Nat.reduceAdd] at hq
      rw[tbz_eq]
      simp only[Nat.add_assoc,Nat.reduceAdd]
      exact⟨(V0.heap.size+4),(V0.heap.size+3),(V0.heap.size+2),(V0.heap.size),(V0.heap.size+1),rfl,(hq.perm (permIdx _ [5,4,3,1,2,0] 6 rfl (by decide))).base⟩
    ·skip
     repeat' (first|((first|refine Lx.qn (fun K hK=>?_) | (first|(refine Lx.qp (v:=?_) ?_ (fun K hK=>?_);rotate_left 1;intro w' hCw;try dsimp only at hCw) | (refine Lx.qr (v:=?_) ?_ (fun K hK=>?_);rotate_left 1));go_simp;first|done | with_reducible rfl);go_simp;refine hK _ ?_;clear hK K) | (refine Lx.qe (fun K hK=>?_);go_simp;(first|skip | skip);refine hK _ _ (trivial) ?_;clear hK K))
     all_goals (refine Lx.lexO_done ?_)
     go_wp2_with fail
     go_meet
     have hq:=(((((((((((HV0.out).alloc X0.toList 3)).alloc X1.toList 76)).alloc [.pointer (some ⟨(V0.heap.size+4),0,none⟩)] 85)).alloc X2.toList 102)).alloc (TbA (.slice (some ⟨(V0.heap.size),0,none⟩) D.length D.length) (.slice (some ⟨(V0.heap.size+1),0,none⟩) D.length D.length) (.slice (some ⟨(V0.heap.size+3),0,none⟩) D.length D.length)).toList 91)).drew
     simp only[World.size_alloc,Array.toArray_toList,Nat.add_assoc,Nat.reduceAdd] at hq
     rw[tbz_eq]
     simp only[Nat.add_assoc,Nat.reduceAdd]
     exact⟨(V0.heap.size+4),(V0.heap.size+2),(V0.heap.size+3),(V0.heap.size),(V0.heap.size+1),rfl,(hq.perm (permIdx _ [5,3,4,1,2,0] 6 rfl (by decide))).base⟩
   ·skip
    refine Lx.lexO_alt ?_ ?_
    ·skip
     repeat' (first|((first|refine Lx.qn (fun K hK=>?_) | (first|(refine Lx.qp (v:=?_) ?_ (fun K hK=>?_);rotate_left 1;intro w' hCw;try dsimp only at hCw) | (refine Lx.qr (v:=?_) ?_ (fun K hK=>?_);rotate_left 1));go_simp;first|done | with_reducible rfl);go_simp;refine hK _ ?_;clear hK K) | (refine Lx.qe (fun K hK=>?_);go_simp;(first|skip | skip);refine hK _ _ (trivial) ?_;clear hK K))
     refine Lx.lexO_alt ?_ ?_
     ·skip
      repeat' (first|((first|refine Lx.qn (fun K hK=>?_) | (first|(refine Lx.qp (v:=?_) ?_ (fun K hK=>?_);rotate_left 1;intro w' hCw;try dsimp only at hCw) | (refine Lx.qr (v:=?_) ?_ (fun K hK=>?_);rotate_left 1));go_simp;first|done | with_reducible rfl);go_simp;refine hK _ ?_;clear hK K) | (refine Lx.qe (fun K hK=>?_);go_simp;(first|skip | skip);refine hK _ _ (trivial) ?_;clear hK K))
      refine Lx.lexO_alt ?_ ?_
      ·skip
       repeat' (first|((first|refine Lx.qn (fun K hK=>?_) | (first|(refine Lx.qp (v:=?_) ?_ (fun K hK=>?_);rotate_left 1;intro w' hCw;try dsimp only at hCw) | (refine Lx.qr (v:=?_) ?_ (fun K hK=>?_);rotate_left 1));go_simp;first|done | with_reducible rfl);go_simp;refine hK _ ?_;clear hK K) | (refine Lx.qe (fun K hK=>?_);go_simp;(first|skip | skip);refine hK _ _ (trivial) ?_;clear hK K))
       all_goals (refine Lx.lexO_done ?_)
       go_wp2_with fail
       go_meet
       have hq:=(((((((((((HV0.out).alloc X0.toList 3)).alloc X2.toList 102)).alloc X1.toList 76)).alloc (TbA (.slice (some ⟨(V0.heap.size),0,none⟩) D.length D.length) (.slice (some ⟨(V0.heap.size+2),0,none⟩) D.length D.length) (.slice (some ⟨(V0.heap.size+1),0,none⟩) D.length D.length)).toList 91)).alloc [.pointer (some ⟨(V0.heap.size+3),0,none⟩)] 85)).drew
       simp only[World.size_alloc,Array.toArray_toList,Nat.add_assoc,Nat.reduceAdd] at hq
       rw[tbz_eq]
       simp only[Nat.add_assoc,Nat.reduceAdd]
       exact⟨(V0.heap.size+3),(V0.heap.size+4),(V0.heap.size+1),(V0.heap.size),(V0.heap.size+2),rfl,(hq.perm (permIdx _ [4,5,2,1,3,0] 6 rfl (by decide))).base⟩
      ·skip
       repeat' (first|((first|refine Lx.qn (fun K hK=>?_) | (first|(refine Lx.qp (v:=?_) ?_ (fun K hK=>?_);rotate_left 1;intro w' hCw;try dsimp only at hCw) | (refine Lx.qr (v:=?_) ?_ (fun K hK=>?_);rotate_left 1));go_simp;first|done | with_reducible rfl);go_simp;refine hK _ ?_;clear hK K) | (refine Lx.qe (fun K hK=>?_);go_simp;(first|skip | skip);refine hK _ _ (trivial) ?_;clear hK K))
       all_goals (refine Lx.lexO_done ?_)
       go_wp2_with fail
       go_meet
       have hq:=(((((((((((HV0.out).alloc X0.toList 3)).alloc X2.toList 102)).alloc X1.toList 76)).alloc [.pointer (some ⟨(V0.heap.size+4),0,none⟩)] 85)).alloc (TbA (.slice (some ⟨(V0.heap.size),0,none⟩) D.length D.length) (.slice (some ⟨(V0.heap.size+2),0,none⟩) D.length D.length) (.slice (some ⟨(V0.heap.size+1),0,none⟩) D.length D.length)).toList 91)).drew
       simp only[World.size_alloc,Array.toArray_toList,Nat.add_assoc,Nat.reduceAdd] at hq
       rw[tbz_eq]
       simp only[Nat.add_assoc,Nat.reduceAdd]
       exact⟨(V0.heap.size+4),(V0.heap.size+3),(V0.heap.size+1),(V0.heap.size),(V0.heap.size+2),rfl,(hq.perm (permIdx _ [5,4,2,1,3,0] 6 rfl (by decide))).base⟩
     ·skip
      repeat' (first|((first|refine Lx.qn (fun K hK=>?_) | (first|(refine Lx.qp (v:=?_) ?_ (fun K hK=>?_);rotate_left 1;intro w' hCw;try dsimp only at hCw) | (refine Lx.qr (v:=?_) ?_ (fun K hK=>?_);rotate_left 1));go_simp;first|done | with_reducible rfl);go_simp;refine hK _ ?_;clear hK K) | (refine Lx.qe (fun K hK=>?_);go_simp;(first|skip | skip);refine hK _ _ (trivial) ?_;clear hK K))
      all_goals (refine Lx.lexO_done ?_)
      go_wp2_with fail
      go_meet
      have hq:=(((((((((((HV0.out).alloc X0.toList 3)).alloc X2.toList 102)).alloc [.pointer (some ⟨(V0.heap.size+4),0,none⟩)] 85)).alloc X1.toList 76)).alloc (TbA (.slice (some ⟨(V0.heap.size),0,none⟩) D.length D.length) (.slice (some ⟨(V0.heap.size+3),0,none⟩) D.length D.length) (.slice (some ⟨(V0.heap.size+1),0,none⟩) D.length D.length)).toList 91)).drew
      simp only[World.size_alloc,Array.toArray_toList,Nat.add_assoc,Nat.reduceAdd] at hq
      rw[tbz_eq]
      simp only[Nat.add_assoc,Nat.reduceAdd]
      exact⟨(V0.heap.size+4),(V0.heap.size+2),(V0.heap.size+1),(V0.heap.size),(V0.heap.size+3),rfl,(hq.perm (permIdx _ [5,3,2,1,4,0] 6 rfl (by decide))).base⟩
    ·skip
     repeat' (first|((first|refine Lx.qn (fun K hK=>?_) | (first|(refine Lx.qp (v:=?_) ?_ (fun K hK=>?_);rotate_left 1;intro w' hCw;try dsimp only at hCw) | (refine Lx.qr (v:=?_) ?_ (fun K hK=>?_);rotate_left 1));go_simp;first|done | with_reducible rfl);go_simp;refine hK _ ?_;clear hK K) | (refine Lx.qe (fun K hK=>?_);go_simp;(first|skip | skip);refine hK _ _ (trivial) ?_;clear hK K))
     refine Lx.lexO_alt ?_ ?_
     ·skip
      repeat' (first|((first|refine Lx.qn (fun K hK=>?_) | (first|(refine Lx.qp (v:=?_) ?_ (fun K hK=>?_);rotate_left 1;intro w' hCw;try dsimp only at hCw) | (refine Lx.qr (v:=?_) ?_ (fun K hK=>?_);rotate_left 1));go_simp;first|done | with_reducible rfl);go_simp;refine hK _ ?_;clear hK K) | (refine Lx.qe (fun K hK=>?_);go_simp;(first|skip | skip);refine hK _ _ (trivial) ?_;clear hK K))
      all_goals (refine Lx.lexO_done ?_)
      go_wp2_with fail
      go_meet
      have hq:=(((((((((((HV0.out).alloc X0.toList 3)).alloc [.pointer (some ⟨(V0.heap.size+4),0,none⟩)] 85)).alloc X1.toList 76)).alloc X2.toList 102)).alloc (TbA (.slice (some ⟨(V0.heap.size),0,none⟩) D.length D.length) (.slice (some ⟨(V0.heap.size+2),0,none⟩) D.length D.length) (.slice (some ⟨(V0.heap.size+3),0,none⟩) D.length D.length)).toList 91)).drew
      simp only[World.size_alloc,Array.toArray_toList,Nat.add_assoc,Nat.reduceAdd] at hq
      rw[tbz_eq]
      simp only[Nat.add_assoc,Nat.reduceAdd]
      exact⟨(V0.heap.size+4),(V0.heap.size+1),(V0.heap.size+3),(V0.heap.size),(V0.heap.size+2),rfl,(hq.perm (permIdx _ [5,2,4,1,3,0] 6 rfl (by decide))).base⟩
     ·skip
      repeat' (first|((first|refine Lx.qn (fun K hK=>?_) | (first|(refine Lx.qp (v:=?_) ?_ (fun K hK=>?_);rotate_left 1;intro w' hCw;try dsimp only at hCw) | (refine Lx.qr (v:=?_) ?_ (fun K hK=>?_);rotate_left 1));go_simp;first|done | with_reducible rfl);go_simp;refine hK _ ?_;clear hK K) | (refine Lx.qe (fun K hK=>?_);go_simp;(first|skip | skip);refine hK _ _ (trivial) ?_;clear hK K))
      all_goals (refine Lx.lexO_done ?_)
      go_wp2_with fail
      go_meet
      have hq:=(((((((((((HV0.out).alloc X0.toList 3)).alloc [.pointer (some ⟨(V0.heap.size+4),0,none⟩)] 85)).alloc X2.toList 102)).alloc X1.toList 76)).alloc (TbA (.slice (some ⟨(V0.heap.size),0,none⟩) D.length D.length) (.slice (some ⟨(V0.heap.size+3),0,none⟩) D.length D.length) (.slice (some ⟨(V0.heap.size+2),0,none⟩) D.length D.length)).toList 91)).drew
      simp only[World.size_alloc,Array.toArray_toList,Nat.add_assoc,Nat.reduceAdd] at hq
      rw[tbz_eq]
      simp only[Nat.add_assoc,Nat.reduceAdd]
      exact⟨(V0.heap.size+4),(V0.heap.size+1),(V0.heap.size+2),(V0.heap.size),(V0.heap.size+3),rfl,(hq.perm (permIdx _ [5,2,3,1,4,0] 6 rfl (by decide))).base⟩
  ·skip
   refine Lx.lexO_alt ?_ ?_
   ·skip
    repeat' (first|((first|refine Lx.qn (fun K hK=>?_) | (first|(refine Lx.qp (v:=?_) ?_ (fun K hK=>?_);rotate_left 1;intro w' hCw;try dsimp only at hCw) | (refine Lx.qr (v:=?_) ?_ (fun K hK=>?_);rotate_left 1));go_simp;first|done | with_reducible rfl);go_simp;refine hK _ ?_;clear hK K) | (refine Lx.qe (fun K hK=>?_);go_simp;(first|skip | skip);refine hK _ _ (trivial) ?_;clear hK K))
    refine Lx.lexO_alt ?_ ?_
    ·skip
     repeat' (first|((first|refine Lx.qn (fun K hK=>?_) | (first|(refine Lx.qp (v:=?_) ?_ (fun K hK=>?_);rotate_left 1;intro w' hCw;try dsimp only at hCw) | (refine Lx.qr (v:=?_) ?_ (fun K hK=>?_);rotate_left 1));go_simp;first|done | with_reducible rfl);go_simp;refine hK _ ?_;clear hK K) | (refine Lx.qe (fun K hK=>?_);go_simp;(first|skip | skip);refine hK _ _ (trivial) ?_;clear hK K))
     refine Lx.lexO_alt ?_ ?_
     ·skip
      repeat' (first|((first|refine Lx.qn (fun K hK=>?_) | (first|(refine Lx.qp (v:=?_) ?_ (fun K hK=>?_);rotate_left 1;intro w' hCw;try dsimp only at hCw) | (refine Lx.qr (v:=?_) ?_ (fun K hK=>?_);rotate_left 1));go_simp;first|done | with_reducible rfl);go_simp;refine hK _ ?_;clear hK K) | (refine Lx.qe (fun K hK=>?_);go_simp;(first|skip | skip);refine hK _ _ (trivial) ?_;clear hK K))
      refine Lx.lexO_alt ?_ ?_
      ·skip
       repeat' (first|((first|refine Lx.qn (fun K hK=>?_) | (first|(refine Lx.qp (v:=?_) ?_ (fun K hK=>?_);rotate_left 1;intro w' hCw;try dsimp only at hCw) | (refine Lx.qr (v:=?_) ?_ (fun K hK=>?_);rotate_left 1));go_simp;first|done | with_reducible rfl);go_simp;refine hK _ ?_;clear hK K) | (refine Lx.qe (fun K hK=>?_);go_simp;(first|skip | skip);refine hK _ _ (trivial) ?_;clear hK K))
       all_goals (refine Lx.lexO_done ?_)
       go_wp2_with fail
       go_meet
       have hq:=(((((((((((HV0.out).alloc X1.toList 76)).alloc X0.toList 3)).alloc X2.toList 102)).alloc (TbA (.slice (some ⟨(V0.heap.size+1),0,none⟩) D.length D.length) (.slice (some ⟨(V0.heap.size),0,none⟩) D.length D.length) (.slice (some ⟨(V0.heap.size+2),0,none⟩) D.length D.length)).toList 91)).alloc [.pointer (some ⟨(V0.heap.size+3),0,none⟩)] 85)).drew
       simp only[World.size_alloc,Array.toArray_toList,Nat.add_assoc,Nat.reduceAdd] at hq
       rw[tbz_eq]
       simp only[Nat.add_assoc,Nat.reduceAdd]
       exact⟨(V0.heap.size+3),(V0.heap.size+4),(V0.heap.size+2),(V0.heap.size+1),(V0.heap.size),rfl,(hq.perm (permIdx _ [4,5,3,2,1,0] 6 rfl (by decide))).base⟩
      ·skip
       repeat' (first|((first|refine Lx.qn (fun K hK=>?_) | (first|(refine Lx.qp (v:=?_) ?_ (fun K hK=>?_);rotate_left 1;intro w' hCw;try dsimp only at hCw) | (refine Lx.qr (v:=?_) ?_ (fun K hK=>?_);rotate_left 1));go_simp;first|done | with_reducible rfl);go_simp;refine hK _ ?_;clear hK K) | (refine Lx.qe (fun K hK=>?_);go_simp;(first|skip | skip);refine hK _ _ (trivial) ?_;clear hK K))
       all_goals (refine Lx.lexO_done ?_)
       go_wp2_with fail
       go_meet
       have hq:=(((((((((((HV0.out).alloc X1.toList 76)).alloc X0.toList 3)).alloc X2.toList 102)).alloc [.pointer (some ⟨(V0.heap.size+4),0,none⟩)] 85)).alloc (TbA (.slice (some ⟨(V0.heap.size+1),0,none⟩) D.length D.length) (.slice (some ⟨(V0.heap.size),0,none⟩) D.length D.length) (.slice (some ⟨(V0.heap.size+2),0,none⟩) D.length D.length)).toList 91)).drew
       simp only[World.size_alloc,Array.toArray_toList,Nat.add_assoc,Nat.reduceAdd] at hq
       rw[tbz_eq]
       simp only[Nat.add_assoc,Nat.reduceAdd]
       exact⟨(V0.heap.size+4),(V0.heap.size+3),(V0.heap.size+2),(V0.heap.size+1),(V0.heap.size),rfl,(hq.perm (permIdx _ [5,4,3,2,1,0] 6 rfl (by decide))).base⟩
     ·skip
      repeat' (first|((first|refine Lx.qn (fun K hK=>?_) | (first|(refine Lx.qp (v:=?_) ?_ (fun K hK=>?_);rotate_left 1;intro w' hCw;try dsimp only at hCw) | (refine Lx.qr (v:=?_) ?_ (fun K hK=>?_);rotate_left 1));go_simp;first|done | with_reducible rfl);go_simp;refine hK _ ?_;clear hK K) | (refine Lx.qe (fun K hK=>?_);go_simp;(first|skip | skip);refine hK _ _ (trivial) ?_;clear hK K))
      all_goals (refine Lx.lexO_done ?_)
      go_wp2_with fail
      go_meet
      have hq:=(((((((((((HV0.out).alloc X1.toList 76)).alloc X0.toList 3)).alloc [.pointer (some ⟨(V0.heap.size+4),0,none⟩)] 85)).alloc X2.toList 102)).alloc (TbA (.slice (some ⟨(V0.heap.size+1),0,none⟩) D.length D.length) (.slice (some ⟨(V0.heap.size),0,none⟩) D.length D.length) (.slice (some ⟨(V0.heap.size+3),0,none⟩) D.length D.length)).toList 91)).drew
      simp only[World.size_alloc,Array.toArray_toList,Nat.add_assoc,Nat.reduceAdd] at hq
      rw[tbz_eq]
      simp only[Nat.add_assoc,Nat.reduceAdd]
      exact⟨(V0.heap.size+4),(V0.heap.size+2),(V0.heap.size+3),(V0.heap.size+1),(V0.heap.size),rfl,(hq.perm (permIdx _ [5,3,4,2,1,0] 6 rfl (by decide))).base⟩
    ·skip
     refine Lx.lexO_alt ?_ ?_
     ·skip
      repeat' (first|((first|refine Lx.qn (fun K hK=>?_) | (first|(refine Lx.qp (v:=?_) ?_ (fun K hK=>?_);rotate_left 1;intro w' hCw;try dsimp only at hCw) | (refine Lx.qr (v:=?_) ?_ (fun K hK=>?_);rotate_left 1));go_simp;first|done | with_reducible rfl);go_simp;refine hK _ ?_;clear hK K) | (refine Lx.qe (fun K hK=>?_);go_simp;(first|skip | skip);refine hK _ _ (trivial) ?_;clear hK K))
      refine Lx.lexO_alt ?_ ?_
      ·skip
       repeat' (first|((first|refine Lx.qn (fun K hK=>?_) | (first|(refine Lx.qp (v:=?_) ?_ (fun K hK=>?_);rotate_left 1;intro w' hCw;try dsimp only at hCw) | (refine Lx.qr (v:=?_) ?_ (fun K hK=>?_);rotate_left 1));go_simp;first|done | with_reducible rfl);go_simp;refine hK _ ?_;clear hK K) | (refine Lx.qe (fun K hK=>?_);go_simp;(first|skip | skip);refine hK _ _ (trivial) ?_;clear hK K))
       refine Lx.lexO_alt ?_ ?_
       ·skip
        repeat' (first|((first|refine Lx.qn (fun K hK=>?_) | (first|(refine Lx.qp (v:=?_) ?_ (fun K hK=>?_);rotate_left 1;intro w' hCw;try dsimp only at hCw) | (refine Lx.qr (v:=?_) ?_ (fun K hK=>?_);rotate_left 1));go_simp;first|done | with_reducible rfl);go_simp;refine hK _ ?_;clear hK K) | (refine Lx.qe (fun K hK=>?_);go_simp;(first|skip | skip);refine hK _ _ (trivial) ?_;clear hK K))
        all_goals (refine Lx.lexO_done ?_)
        go_wp2_with fail
        go_meet
        have hq:=(((((((((((HV0.out).alloc X1.toList 76)).alloc X2.toList 102)).alloc X0.toList 3)).alloc (TbA (.slice (some ⟨(V0.heap.size+2),0,none⟩) D.length D.length) (.slice (some ⟨(V0.heap.size),0,none⟩) D.length D.length) (.slice (some ⟨(V0.heap.size+1),0,none⟩) D.length D.length)).toList 91)).alloc [.pointer (some ⟨(V0.heap.size+3),0,none⟩)] 85)).drew
        simp only[World.size_alloc,Array.toArray_toList,Nat.add_assoc,Nat.reduceAdd] at hq
        rw[tbz_eq]
        simp only[Nat.add_assoc,Nat.reduceAdd]
        exact⟨(V0.heap.size+3),(V0.heap.size+4),(V0.heap.size+1),(V0.heap.size+2),(V0.heap.size),rfl,(hq.perm (permIdx _ [4,5,2,3,1,0] 6 rfl (by decide))).base⟩
       ·skip
        repeat' (first|((first|refine Lx.qn (fun K hK=>?_) | (first|(refine Lx.qp (v:=?_) ?_ (fun K hK=>?_);rotate_left 1;intro w' hCw;try dsimp only at hCw) | (refine Lx.qr (v:=?_) ?_ (fun K hK=>?_);rotate_left 1));go_simp;first|done | with_reducible rfl);go_simp;refine hK _ ?_;clear hK K) | (refine Lx.qe (fun K hK=>?_);go_simp;(first|skip | skip);refine hK _ _ (trivial) ?_;clear hK K))
        all_goals (refine Lx.lexO_done ?_)
        go_wp2_with fail
        go_meet
        have hq:=(((((((((((HV0.out).alloc X1.toList 76)).alloc X2.toList 102)).alloc X0.toList 3)).alloc [.pointer (some ⟨(V0.heap.size+4),0,none⟩)] 85)).alloc (TbA (.slice (some ⟨(V0.heap.size+2),0,none⟩) D.length D.length) (.slice (some ⟨(V0.heap.size),0,none⟩) D.length D.length) (.slice (some ⟨(V0.heap.size+1),0,none⟩) D.length D.length)).toList 91)).drew
        simp only[World.size_alloc,Array.toArray_toList,Nat.add_assoc,Nat.reduceAdd] at hq
        rw[tbz_eq]
        simp only[Nat.add_assoc,Nat.reduceAdd]
        exact⟨(V0.heap.size+4),(V0.heap.size+3),(V0.heap.size+1),(V0.heap.size+2),(V0.heap.size),rfl,(hq.perm (permIdx _ [5,4,2,3,1,0] 6 rfl (by decide))).base⟩
      ·skip
       repeat' (first|((first|refine Lx.qn (fun K hK=>?_) | (first|(refine Lx.qp (v:=?_) ?_ (fun K hK=>?_);rotate_left 1;intro w' hCw;try dsimp only at hCw) | (refine Lx.qr (v:=?_) ?_ (fun K hK=>?_);rotate_left 1));go_simp;first|done | with_reducible rfl);go_simp;refine hK _ ?_;clear hK K) | (refine Lx.qe (fun K hK=>?_);go_simp;(first|skip | skip);refine hK _ _ (trivial) ?_;clear hK K))
       all_goals (refine Lx.lexO_done ?_)
       go_wp2_with fail
       go_meet
       have hq:=(((((((((((HV0.out).alloc X1.toList 76)).alloc X2.toList 102)).alloc [.pointer (some ⟨(V0.heap.size+4),0,none⟩)] 85)).alloc X0.toList 3)).alloc (TbA (.slice (some ⟨(V0.heap.size+3),0,none⟩) D.length D.length) (.slice (some ⟨(V0.heap.size),0,none⟩) D.length D.length) (.slice (some ⟨(V0.heap.size+1),0,none⟩) D.length D.length)).toList 91)).drew
       simp only[World.size_alloc,Array.toArray_toList,Nat.add_assoc,Nat.reduceAdd] at hq
       rw[tbz_eq]
       simp only[Nat.add_assoc,Nat.reduceAdd]
       exact⟨(V0.heap.size+4),(V0.heap.size+2),(V0.heap.size+1),(V0.heap.size+3),(V0.heap.size),rfl,(hq.perm (permIdx _ [5,3,2,4,1,0] 6 rfl (by decide))).base⟩
     ·skip
      repeat' (first|((first|refine Lx.qn (fun K hK=>?_) | (first|(refine Lx.qp (v:=?_) ?_ (fun K hK=>?_);rotate_left 1;intro w' hCw;try dsimp only at hCw) | (refine Lx.qr (v:=?_) ?_ (fun K hK=>?_);rotate_left 1));go_simp;first|done | with_reducible rfl);go_simp;refine hK _ ?_;clear hK K) | (refine Lx.qe (fun K hK=>?_);go_simp;(first|skip | skip);refine hK _ _ (trivial) ?_;clear hK K))
      refine Lx.lexO_alt ?_ ?_
      ·skip
       repeat' (first|((first|refine Lx.qn (fun K hK=>?_) | (first|(refine Lx.qp (v:=?_) ?_ (fun K hK=>?_);rotate_left 1;intro w' hCw;try dsimp only at hCw) | (refine Lx.qr (v:=?_) ?_ (fun K hK=>?_);rotate_left 1));go_simp;first|done | with_reducible rfl);go_simp;refine hK _ ?_;clear hK K) | (refine Lx.qe (fun K hK=>?_);go_simp;(first|skip | skip);refine hK _ _ (trivial) ?_;clear hK K))
       all_goals (refine Lx.lexO_done ?_)
       go_wp2_with fail
       go_meet
       have hq:=(((((((((((HV0.out).alloc X1.toList 76)).alloc [.pointer (some ⟨(V0.heap.size+4),0,none⟩)] 85)).alloc X0.toList 3)).alloc X2.toList 102)).alloc (TbA (.slice (some ⟨(V0.heap.size+2),0,none⟩) D.length D.length) (.slice (some ⟨(V0.heap.size),0,none⟩) D.length D.length) (.slice (some ⟨(V0.heap.size+3),0,none⟩) D.length D.length)).toList 91)).drew
       simp only[World.size_alloc,Array.toArray_toList,Nat.add_assoc,Nat.reduceAdd] at hq
       rw[tbz_eq]
       simp only[Nat.add_assoc,Nat.reduceAdd]
       exact⟨(V0.heap.size+4),(V0.heap.size+1),(V0.heap.size+3),(V0.heap.size+2),(V0.heap.size),rfl,(hq.perm (permIdx _ [5,2,4,3,1,0] 6 rfl (by decide))).base⟩
      ·skip
       repeat' (first|((first|refine Lx.qn (fun K hK=>?_) | (first|(refine Lx.qp (v:=?_) ?_ (fun K hK=>?_);rotate_left 1;intro w' hCw;try dsimp only at hCw) | (refine Lx.qr (v:=?_) ?_ (fun K hK=>?_);rotate_left 1));go_simp;first|done | with_reducible rfl);go_simp;refine hK _ ?_;clear hK K) | (refine Lx.qe (fun K hK=>?_);go_simp;(first|skip | skip);refine hK _ _ (trivial) ?_;clear hK K))
       all_goals (refine Lx.lexO_done ?_)
       go_wp2_with fail
       go_meet
       have hq:=(((((((((((HV0.out).alloc X1.toList 76)).alloc [.pointer (some ⟨(V0.heap.size+4),0,none⟩)] 85)).alloc X2.toList 102)).alloc X0.toList 3)).alloc (TbA (.slice (some ⟨(V0.heap.size+3),0,none⟩) D.length D.length) (.slice (some ⟨(V0.heap.size),0,none⟩) D.length D.length) (.slice (some ⟨(V0.heap.size+2),0,none⟩) D.length D.length)).toList 91)).drew
       simp only[World.size_alloc,Array.toArray_toList,Nat.add_assoc,Nat.reduceAdd] at hq
       rw[tbz_eq]
       simp only[Nat.add_assoc,Nat.reduceAdd]
       exact⟨(V0.heap.size+4),(V0.heap.size+1),(V0.heap.size+2),(V0.heap.size+3),(V0.heap.size),rfl,(hq.perm (permIdx _ [5,2,3,4,1,0] 6 rfl (by decide))).base⟩
   ·skip
    refine Lx.lexO_alt ?_ ?_
    ·skip
     repeat' (first|((first|refine Lx.qn (fun K hK=>?_) | (first|(refine Lx.qp (v:=?_) ?_ (fun K hK=>?_);rotate_left 1;intro w' hCw;try dsimp only at hCw) | (refine Lx.qr (v:=?_) ?_ (fun K hK=>?_);rotate_left 1));go_simp;first|done | with_reducible rfl);go_simp;refine hK _ ?_;clear hK K) | (refine Lx.qe (fun K hK=>?_);go_simp;(first|skip | skip);refine hK _ _ (trivial) ?_;clear hK K))
     refine Lx.lexO_alt ?_ ?_
     ·skip
      repeat' (first|((first|refine Lx.qn (fun K hK=>?_) | (first|(refine Lx.qp (v:=?_) ?_ (fun K hK=>?_);rotate_left 1;intro w' hCw;try dsimp only at hCw) | (refine Lx.qr (v:=?_) ?_ (fun K hK=>?_);rotate_left 1));go_simp;first|done | with_reducible rfl);go_simp;refine hK _ ?_;clear hK K) | (refine Lx.qe (fun K hK=>?_);go_simp;(first|skip | skip);refine hK _ _ (trivial) ?_;clear hK K))
      refine Lx.lexO_alt ?_ ?_
      ·skip
       repeat' (first|((first|refine Lx.qn (fun K hK=>?_) | (first|(refine Lx.qp (v:=?_) ?_ (fun K hK=>?_);rotate_left 1;intro w' hCw;try dsimp only at hCw) | (refine Lx.qr (v:=?_) ?_ (fun K hK=>?_);rotate_left 1));go_simp;first|done | with_reducible rfl);go_simp;refine hK _ ?_;clear hK K) | (refine Lx.qe (fun K hK=>?_);go_simp;(first|skip | skip);refine hK _ _ (trivial) ?_;clear hK K))
       refine Lx.lexO_alt ?_ ?_
       ·skip
        repeat' (first|((first|refine Lx.qn (fun K hK=>?_) | (first|(refine Lx.qp (v:=?_) ?_ (fun K hK=>?_);rotate_left 1;intro w' hCw;try dsimp only at hCw) | (refine Lx.qr (v:=?_) ?_ (fun K hK=>?_);rotate_left 1));go_simp;first|done | with_reducible rfl);go_simp;refine hK _ ?_;clear hK K) | (refine Lx.qe (fun K hK=>?_);go_simp;(first|skip | skip);refine hK _ _ (trivial) ?_;clear hK K))
        all_goals (refine Lx.lexO_done ?_)
        go_wp2_with fail
        go_meet
        have hq:=(((((((((((HV0.out).alloc X2.toList 102)).alloc X0.toList 3)).alloc X1.toList 76)).alloc (TbA (.slice (some ⟨(V0.heap.size+1),0,none⟩) D.length D.length) (.slice (some ⟨(V0.heap.size+2),0,none⟩) D.length D.length) (.slice (some ⟨(V0.heap.size),0,none⟩) D.length D.length)).toList 91)).alloc [.pointer (some ⟨(V0.heap.size+3),0,none⟩)] 85)).drew
        simp only[World.size_alloc,Array.toArray_toList,Nat.add_assoc,Nat.reduceAdd] at hq
        rw[tbz_eq]
        simp only[Nat.add_assoc,Nat.reduceAdd]
        exact⟨(V0.heap.size+3),(V0.heap.size+4),(V0.heap.size),(V0.heap.size+1),(V0.heap.size+2),rfl,(hq.perm (permIdx _ [4,5,1,2,3,0] 6 rfl (by decide))).base⟩
       ·skip
        repeat' (first|((first|refine Lx.qn (fun K hK=>?_) | (first|(refine Lx.qp (v:=?_) ?_ (fun K hK=>?_);rotate_left 1;intro w' hCw;try dsimp only at hCw) | (refine Lx.qr (v:=?_) ?_ (fun K hK=>?_);rotate_left 1));go_simp;first|done | with_reducible rfl);go_simp;refine hK _ ?_;clear hK K) | (refine Lx.qe (fun K hK=>?_);go_simp;(first|skip | skip);refine hK _ _ (trivial) ?_;clear hK K))
        all_goals (refine Lx.lexO_done ?_)
        go_wp2_with fail
        go_meet
        have hq:=(((((((((((HV0.out).alloc X2.toList 102)).alloc X0.toList 3)).alloc X1.toList 76)).alloc [.pointer (some ⟨(V0.heap.size+4),0,none⟩)] 85)).alloc (TbA (.slice (some ⟨(V0.heap.size+1),0,none⟩) D.length D.length) (.slice (some ⟨(V0.heap.size+2),0,none⟩) D.length D.length) (.slice (some ⟨(V0.heap.size),0,none⟩) D.length D.length)).toList 91)).drew
        simp only[World.size_alloc,Array.toArray_toList,Nat.add_assoc,Nat.reduceAdd] at hq
        rw[tbz_eq]
        simp only[Nat.add_assoc,Nat.reduceAdd]
        exact⟨(V0.heap.size+4),(V0.heap.size+3),(V0.heap.size),(V0.heap.size+1),(V0.heap.size+2),rfl,(hq.perm (permIdx _ [5,4,1,2,3,0] 6 rfl (by decide))).base⟩
      ·skip
       repeat' (first|((first|refine Lx.qn (fun K hK=>?_) | (first|(refine Lx.qp (v:=?_) ?_ (fun K hK=>?_);rotate_left 1;intro w' hCw;try dsimp only at hCw) | (refine Lx.qr (v:=?_) ?_ (fun K hK=>?_);rotate_left 1));go_simp;first|done | with_reducible rfl);go_simp;refine hK _ ?_;clear hK K) | (refine Lx.qe (fun K hK=>?_);go_simp;(first|skip | skip);refine hK _ _ (trivial) ?_;clear hK K))
       all_goals (refine Lx.lexO_done ?_)
       go_wp2_with fail
       go_meet
       have hq:=(((((((((((HV0.out).alloc X2.toList 102)).alloc X0.toList 3)).alloc [.pointer (some ⟨(V0.heap.size+4),0,none⟩)] 85)).alloc X1.toList 76)).alloc (TbA (.slice (some ⟨(V0.heap.size+1),0,none⟩) D.length D.length) (.slice (some ⟨(V0.heap.size+3),0,none⟩) D.length D.length) (.slice (some ⟨(V0.heap.size),0,none⟩) D.length D.length)).toList 91)).drew
       simp only[World.size_alloc,Array.toArray_toList,Nat.add_assoc,Nat.reduceAdd] at hq
       rw[tbz_eq]
       simp only[Nat.add_assoc,Nat.reduceAdd]
       exact⟨(V0.heap.size+4),(V0.heap.size+2),(V0.heap.size),(V0.heap.size+1),(V0.heap.size+3),rfl,(hq.perm (permIdx _ [5,3,1,2,4,0] 6 rfl (by decide))).base⟩
     ·skip
      refine Lx.lexO_alt ?_ ?_
      ·skip
       repeat' (first|((first|refine Lx.qn (fun K hK=>?_) | (first|(refine Lx.qp (v:=?_) ?_ (fun K hK=>?_);rotate_left 1;intro w' hCw;try dsimp only at hCw) | (refine Lx.qr (v:=?_) ?_ (fun K hK=>?_);rotate_left 1));go_simp;first|done | with_reducible rfl);go_simp;refine hK _ ?_;clear hK K) | (refine Lx.qe (fun K hK=>?_);go_simp;(first|skip | skip);refine hK _ _ (trivial) ?_;clear hK K))
       refine Lx.lexO_alt ?_ ?_
       ·skip
        repeat' (first|((first|refine Lx.qn (fun K hK=>?_) | (first|(refine Lx.qp (v:=?_) ?_ (fun K hK=>?_);rotate_left 1;intro w' hCw;try dsimp only at hCw) | (refine Lx.qr (v:=?_) ?_ (fun K hK=>?_);rotate_left 1));go_simp;first|done | with_reducible rfl);go_simp;refine hK _ ?_;clear hK K) | (refine Lx.qe (fun K hK=>?_);go_simp;(first|skip | skip);refine hK _ _ (trivial) ?_;clear hK K))
        refine Lx.lexO_alt ?_ ?_
        ·skip
         repeat' (first|((first|refine Lx.qn (fun K hK=>?_) | (first|(refine Lx.qp (v:=?_) ?_ (fun K hK=>?_);rotate_left 1;intro w' hCw;try dsimp only at hCw) | (refine Lx.qr (v:=?_) ?_ (fun K hK=>?_);rotate_left 1));go_simp;first|done | with_reducible rfl);go_simp;refine hK _ ?_;clear hK K) | (refine Lx.qe (fun K hK=>?_);go_simp;(first|skip | skip);refine hK _ _ (trivial) ?_;clear hK K))
         all_goals (refine Lx.lexO_done ?_)
         go_wp2_with fail
         go_meet
         have hq:=(((((((((((HV0.out).alloc X2.toList 102)).alloc X1.toList 76)).alloc X0.toList 3)).alloc (TbA (.slice (some ⟨(V0.heap.size+2),0,none⟩) D.length D.length) (.slice (some ⟨(V0.heap.size+1),0,none⟩) D.length D.length) (.slice (some ⟨(V0.heap.size),0,none⟩) D.length D.length)).toList 91)).alloc [.pointer (some ⟨(V0.heap.size+3),0,none⟩)] 85)).drew
         simp only[World.size_alloc,Array.toArray_toList,Nat.add_assoc,Nat.reduceAdd] at hq
         rw[tbz_eq]
         simp only[Nat.add_assoc,Nat.reduceAdd]
         exact⟨(V0.heap.size+3),(V0.heap.size+4),(V0.heap.size),(V0.heap.size+2),(V0.heap.size+1),rfl,(hq.perm (permIdx _ [4,5,1,3,2,0] 6 rfl (by decide))).base⟩
        ·skip
         repeat' (first|((first|refine Lx.qn (fun K hK=>?_) | (first|(refine Lx.qp (v:=?_) ?_ (fun K hK=>?_);rotate_left 1;intro w' hCw;try dsimp only at hCw) | (refine Lx.qr (v:=?_) ?_ (fun K hK=>?_);rotate_left 1));go_simp;first|done | with_reducible rfl);go_simp;refine hK _ ?_;clear hK K) | (refine Lx.qe (fun K hK=>?_);go_simp;(first|skip | skip);refine hK _ _ (trivial) ?_;clear hK K))
         all_goals (refine Lx.lexO_done ?_)
         go_wp2_with fail
         go_meet
         have hq:=(((((((((((HV0.out).alloc X2.toList 102)).alloc X1.toList 76)).alloc X0.toList 3)).alloc [.pointer (some ⟨(V0.heap.size+4),0,none⟩)] 85)).alloc (TbA (.slice (some ⟨(V0.heap.size+2),0,none⟩) D.length D.length) (.slice (some ⟨(V0.heap.size+1),0,none⟩) D.length D.length) (.slice (some ⟨(V0.heap.size),0,none⟩) D.length D.length)).toList 91)).drew
         simp only[World.size_alloc,Array.toArray_toList,Nat.add_assoc,Nat.reduceAdd] at hq
         rw[tbz_eq]
         simp only[Nat.add_assoc,Nat.reduceAdd]
         exact⟨(V0.heap.size+4),(V0.heap.size+3),(V0.heap.size),(V0.heap.size+2),(V0.heap.size+1),rfl,(hq.perm (permIdx _ [5,4,1,3,2,0] 6 rfl (by decide))).base⟩
       ·skip
        repeat' (first|((first|refine Lx.qn (fun K hK=>?_) | (first|(refine Lx.qp (v:=?_) ?_ (fun K hK=>?_);rotate_left 1;intro w' hCw;try dsimp only at hCw) | (refine Lx.qr (v:=?_) ?_ (fun K hK=>?_);rotate_left 1));go_simp;first|done | with_reducible rfl);go_simp;refine hK _ ?_;clear hK K) | (refine Lx.qe (fun K hK=>?_);go_simp;(first|skip | skip);refine hK _ _ (trivial) ?_;clear hK K))
        all_goals (refine Lx.lexO_done ?_)
        go_wp2_with fail
        go_meet
        have hq:=(((((((((((HV0.out).alloc X2.toList 102)).alloc X1.toList 76)).alloc [.pointer (some ⟨(V0.heap.size+4),0,none⟩)] 85)).alloc X0.toList 3)).alloc (TbA (.slice (some ⟨(V0.heap.size+3),0,none⟩) D.length D.length) (.slice (some ⟨(V0.heap.size+1),0,none⟩) D.length D.length) (.slice (some ⟨(V0.heap.size),0,none⟩) D.length D.length)).toList 91)).drew
        simp only[World.size_alloc,Array.toArray_toList,Nat.add_assoc,Nat.reduceAdd] at hq
        rw[tbz_eq]
        simp only[Nat.add_assoc,Nat.reduceAdd]
        exact⟨(V0.heap.size+4),(V0.heap.size+2),(V0.heap.size),(V0.heap.size+3),(V0.heap.size+1),rfl,(hq.perm (permIdx _ [5,3,1,4,2,0] 6 rfl (by decide))).base⟩
      ·skip
       repeat' (first|((first|refine Lx.qn (fun K hK=>?_) | (first|(refine Lx.qp (v:=?_) ?_ (fun K hK=>?_);rotate_left 1;intro w' hCw;try dsimp only at hCw) | (refine Lx.qr (v:=?_) ?_ (fun K hK=>?_);rotate_left 1));go_simp;first|done | with_reducible rfl);go_simp;refine hK _ ?_;clear hK K) | (refine Lx.qe (fun K hK=>?_);go_simp;(first|skip | skip);refine hK _ _ (trivial) ?_;clear hK K))
       refine Lx.lexO_alt ?_ ?_
       ·skip
        repeat' (first|((first|refine Lx.qn (fun K hK=>?_) | (first|(refine Lx.qp (v:=?_) ?_ (fun K hK=>?_);rotate_left 1;intro w' hCw;try dsimp only at hCw) | (refine Lx.qr (v:=?_) ?_ (fun K hK=>?_);rotate_left 1));go_simp;first|done | with_reducible rfl);go_simp;refine hK _ ?_;clear hK K) | (refine Lx.qe (fun K hK=>?_);go_simp;(first|skip | skip);refine hK _ _ (trivial) ?_;clear hK K))
        all_goals (refine Lx.lexO_done ?_)
        go_wp2_with fail
        go_meet
        have hq:=(((((((((((HV0.out).alloc X2.toList 102)).alloc [.pointer (some ⟨(V0.heap.size+4),0,none⟩)] 85)).alloc X0.toList 3)).alloc X1.toList 76)).alloc (TbA (.slice (some ⟨(V0.heap.size+2),0,none⟩) D.length D.length) (.slice (some ⟨(V0.heap.size+3),0,none⟩) D.length D.length) (.slice (some ⟨(V0.heap.size),0,none⟩) D.length D.length)).toList 91)).drew
        simp only[World.size_alloc,Array.toArray_toList,Nat.add_assoc,Nat.reduceAdd] at hq
        rw[tbz_eq]
        simp only[Nat.add_assoc,Nat.reduceAdd]
        exact⟨(V0.heap.size+4),(V0.heap.size+1),(V0.heap.size),(V0.heap.size+2),(V0.heap.size+3),rfl,(hq.perm (permIdx _ [5,2,1,3,4,0] 6 rfl (by decide))).base⟩
       ·skip
        repeat' (first|((first|refine Lx.qn (fun K hK=>?_) | (first|(refine Lx.qp (v:=?_) ?_ (fun K hK=>?_);rotate_left 1;intro w' hCw;try dsimp only at hCw) | (refine Lx.qr (v:=?_) ?_ (fun K hK=>?_);rotate_left 1));go_simp;first|done | with_reducible rfl);go_simp;refine hK _ ?_;clear hK K) | (refine Lx.qe (fun K hK=>?_);go_simp;(first|skip | skip);refine hK _ _ (trivial) ?_;clear hK K))
        all_goals (refine Lx.lexO_done ?_)
        go_wp2_with fail
        go_meet
        have hq:=(((((((((((HV0.out).alloc X2.toList 102)).alloc [.pointer (some ⟨(V0.heap.size+4),0,none⟩)] 85)).alloc X1.toList 76)).alloc X0.toList 3)).alloc (TbA (.slice (some ⟨(V0.heap.size+3),0,none⟩) D.length D.length) (.slice (some ⟨(V0.heap.size+2),0,none⟩) D.length D.length) (.slice (some ⟨(V0.heap.size),0,none⟩) D.length D.length)).toList 91)).drew
        simp only[World.size_alloc,Array.toArray_toList,Nat.add_assoc,Nat.reduceAdd] at hq
        rw[tbz_eq]
        simp only[Nat.add_assoc,Nat.reduceAdd]
        exact⟨(V0.heap.size+4),(V0.heap.size+1),(V0.heap.size),(V0.heap.size+3),(V0.heap.size+2),rfl,(hq.perm (permIdx _ [5,2,1,4,3,0] 6 rfl (by decide))).base⟩
    ·skip
     repeat' (first|((first|refine Lx.qn (fun K hK=>?_) | (first|(refine Lx.qp (v:=?_) ?_ (fun K hK=>?_);rotate_left 1;intro w' hCw;try dsimp only at hCw) | (refine Lx.qr (v:=?_) ?_ (fun K hK=>?_);rotate_left 1));go_simp;first|done | with_reducible rfl);go_simp;refine hK _ ?_;clear hK K) | (refine Lx.qe (fun K hK=>?_);go_simp;(first|skip | skip);refine hK _ _ (trivial) ?_;clear hK K))
     refine Lx.lexO_alt ?_ ?_
     ·skip
      repeat' (first|((first|refine Lx.qn (fun K hK=>?_) | (first|(refine Lx.qp (v:=?_) ?_ (fun K hK=>?_);rotate_left 1;intro w' hCw;try dsimp only at hCw) | (refine Lx.qr (v:=?_) ?_ (fun K hK=>?_);rotate_left 1));go_simp;first|done | with_reducible rfl);go_simp;refine hK _ ?_;clear hK K) | (refine Lx.qe (fun K hK=>?_);go_simp;(first|skip | skip);refine hK _ _ (trivial) ?_;clear hK K))
      refine Lx.lexO_alt ?_ ?_
      ·skip
       repeat' (first|((first|refine Lx.qn (fun K hK=>?_) | (first|(refine Lx.qp (v:=?_) ?_ (fun K hK=>?_);rotate_left 1;intro w' hCw;try dsimp only at hCw) | (refine Lx.qr (v:=?_) ?_ (fun K hK=>?_);rotate_left 1));go_simp;first|done | with_reducible rfl);go_simp;refine hK _ ?_;clear hK K) | (refine Lx.qe (fun K hK=>?_);go_simp;(first|skip | skip);refine hK _ _ (trivial) ?_;clear hK K))
       all_goals (refine Lx.lexO_done ?_)
       go_wp2_with fail
       go_meet
       have hq:=(((((((((((HV0.out).alloc [.pointer (some ⟨(V0.heap.size+4),0,none⟩)] 85)).alloc X0.toList 3)).alloc X1.toList 76)).alloc X2.toList 102)).alloc (TbA (.slice (some ⟨(V0.heap.size+1),0,none⟩) D.length D.length) (.slice (some ⟨(V0.heap.size+2),0,none⟩) D.length D.length) (.slice (some ⟨(V0.heap.size+3),0,none⟩) D.length D.length)).toList 91)).drew
       simp only[World.size_alloc,Array.toArray_toList,Nat.add_assoc,Nat.reduceAdd] at hq
       rw[tbz_eq]
       simp only[Nat.add_assoc,Nat.reduceAdd]
       exact⟨(V0.heap.size+4),(V0.heap.size),(V0.heap.size+3),(V0.heap.size+1),(V0.heap.size+2),rfl,(hq.perm (permIdx _ [5,1,4,2,3,0] 6 rfl (by decide))).base⟩
      ·skip
       repeat' (first|((first|refine Lx.qn (fun K hK=>?_) | (first|(refine Lx.qp (v:=?_) ?_ (fun K hK=>?_);rotate_left 1;intro w' hCw;try dsimp only at hCw) | (refine Lx.qr (v:=?_) ?_ (fun K hK=>?_);rotate_left 1));go_simp;first|done | with_reducible rfl);go_simp;refine hK _ ?_;clear hK K) | (refine Lx.qe (fun K hK=>?_);go_simp;(first|skip | skip);refine hK _ _ (trivial) ?_;clear hK K))
       all_goals (refine Lx.lexO_done ?_)
       go_wp2_with fail
       go_meet
       have hq:=(((((((((((HV0.out).alloc [.pointer (some ⟨(V0.heap.size+4),0,none⟩)] 85)).alloc X0.toList 3)).alloc X2.toList 102)).alloc X1.toList 76)).alloc (TbA (.slice (some ⟨(V0.heap.size+1),0,none⟩) D.length D.length) (.slice (some ⟨(V0.heap.size+3),0,none⟩) D.length D.length) (.slice (some ⟨(V0.heap.size+2),0,none⟩) D.length D.length)).toList 91)).drew
       simp only[World.size_alloc,Array.toArray_toList,Nat.add_assoc,Nat.reduceAdd] at hq
       rw[tbz_eq]
       simp only[Nat.add_assoc,Nat.reduceAdd]
       exact⟨(V0.heap.size+4),(V0.heap.size),(V0.heap.size+2),(V0.heap.size+1),(V0.heap.size+3),rfl,(hq.perm (permIdx _ [5,1,3,2,4,0] 6 rfl (by decide))).base⟩
     ·skip
      refine Lx.lexO_alt ?_ ?_
      ·skip
       repeat' (first|((first|refine Lx.qn (fun K hK=>?_) | (first|(refine Lx.qp (v:=?_) ?_ (fun K hK=>?_);rotate_left 1;intro w' hCw;try dsimp only at hCw) | (refine Lx.qr (v:=?_) ?_ (fun K hK=>?_);rotate_left 1));go_simp;first|done | with_reducible rfl);go_simp;refine hK _ ?_;clear hK K) | (refine Lx.qe (fun K hK=>?_);go_simp;(first|skip | skip);refine hK _ _ (trivial) ?_;clear hK K))
       refine Lx.lexO_alt ?_ ?_
       ·skip
        repeat' (first|((first|refine Lx.qn (fun K hK=>?_) | (first|(refine Lx.qp (v:=?_) ?_ (fun K hK=>?_);rotate_left 1;intro w' hCw;try dsimp only at hCw) | (refine Lx.qr (v:=?_) ?_ (fun K hK=>?_);rotate_left 1));go_simp;first|done | with_reducible rfl);go_simp;refine hK _ ?_;clear hK K) | (refine Lx.qe (fun K hK=>?_);go_simp;(first|skip | skip);refine hK _ _ (trivial) ?_;clear hK K))
        all_goals (refine Lx.lexO_done ?_)
        go_wp2_with fail
        go_meet
        have hq:=(((((((((((HV0.out).alloc [.pointer (some ⟨(V0.heap.size+4),0,none⟩)] 85)).alloc X1.toList 76)).alloc X0.toList 3)).alloc X2.toList 102)).alloc (TbA (.slice (some ⟨(V0.heap.size+2),0,none⟩) D.length D.length) (.slice (some ⟨(V0.heap.size+1),0,none⟩) D.length D.length) (.slice (some ⟨(V0.heap.size+3),0,none⟩) D.length D.length)).toList 91)).drew
        simp only[World.size_alloc,Array.toArray_toList,Nat.add_assoc,Nat.reduceAdd] at hq
        rw[tbz_eq]
        simp only[Nat.add_assoc,Nat.reduceAdd]
        exact⟨(V0.heap.size+4),(V0.heap.size),(V0.heap.size+3),(V0.heap.size+2),(V0.heap.size+1),rfl,(hq.perm (permIdx _ [5,1,4,3,2,0] 6 rfl (by decide))).base⟩
       ·skip
        repeat' (first|((first|refine Lx.qn (fun K hK=>?_) | (first|(refine Lx.qp (v:=?_) ?_ (fun K hK=>?_);rotate_left 1;intro w' hCw;try dsimp only at hCw) | (refine Lx.qr (v:=?_) ?_ (fun K hK=>?_);rotate_left 1));go_simp;first|done | with_reducible rfl);go_simp;refine hK _ ?_;clear hK K) | (refine Lx.qe (fun K hK=>?_);go_simp;(first|skip | skip);refine hK _ _ (trivial) ?_;clear hK K))
        all_goals (refine Lx.lexO_done ?_)
        go_wp2_with fail
        go_meet
        have hq:=(((((((((((HV0.out).alloc [.pointer (some ⟨(V0.heap.size+4),0,none⟩)] 85)).alloc X1.toList 76)).alloc X2.toList 102)).alloc X0.toList 3)).alloc (TbA (.slice (some ⟨(V0.heap.size+3),0,none⟩) D.length D.length) (.slice (some ⟨(V0.heap.size+1),0,none⟩) D.length D.length) (.slice (some ⟨(V0.heap.size+2),0,none⟩) D.length D.length)).toList 91)).drew
        simp only[World.size_alloc,Array.toArray_toList,Nat.add_assoc,Nat.reduceAdd] at hq
        rw[tbz_eq]
        simp only[Nat.add_assoc,Nat.reduceAdd]
        exact⟨(V0.heap.size+4),(V0.heap.size),(V0.heap.size+2),(V0.heap.size+3),(V0.heap.size+1),rfl,(hq.perm (permIdx _ [5,1,3,4,2,0] 6 rfl (by decide))).base⟩
      ·skip
       repeat' (first|((first|refine Lx.qn (fun K hK=>?_) | (first|(refine Lx.qp (v:=?_) ?_ (fun K hK=>?_);rotate_left 1;intro w' hCw;try dsimp only at hCw) | (refine Lx.qr (v:=?_) ?_ (fun K hK=>?_);rotate_left 1));go_simp;first|done | with_reducible rfl);go_simp;refine hK _ ?_;clear hK K) | (refine Lx.qe (fun K hK=>?_);go_simp;(first|skip | skip);refine hK _ _ (trivial) ?_;clear hK K))
       refine Lx.lexO_alt ?_ ?_
       ·skip
        repeat' (first|((first|refine Lx.qn (fun K hK=>?_) | (first|(refine Lx.qp (v:=?_) ?_ (fun K hK=>?_);rotate_left 1;intro w' hCw;try dsimp only at hCw) | (refine Lx.qr (v:=?_) ?_ (fun K hK=>?_);rotate_left 1));go_simp;first|done | with_reducible rfl);go_simp;refine hK _ ?_;clear hK K) | (refine Lx.qe (fun K hK=>?_);go_simp;(first|skip | skip);refine hK _ _ (trivial) ?_;clear hK K))
        all_goals (refine Lx.lexO_done ?_)
        go_wp2_with fail
        go_meet
        have hq:=(((((((((((HV0.out).alloc [.pointer (some ⟨(V0.heap.size+4),0,none⟩)] 85)).alloc X2.toList 102)).alloc X0.toList 3)).alloc X1.toList 76)).alloc (TbA (.slice (some ⟨(V0.heap.size+2),0,none⟩) D.length D.length) (.slice (some ⟨(V0.heap.size+3),0,none⟩) D.length D.length) (.slice (some ⟨(V0.heap.size+1),0,none⟩) D.length D.length)).toList 91)).drew
        simp only[World.size_alloc,Array.toArray_toList,Nat.add_assoc,Nat.reduceAdd] at hq
        rw[tbz_eq]
        simp only[Nat.add_assoc,Nat.reduceAdd]
        exact⟨(V0.heap.size+4),(V0.heap.size),(V0.heap.size+1),(V0.heap.size+2),(V0.heap.size+3),rfl,(hq.perm (permIdx _ [5,1,2,3,4,0] 6 rfl (by decide))).base⟩
       ·skip
        repeat' (first|((first|refine Lx.qn (fun K hK=>?_) | (first|(refine Lx.qp (v:=?_) ?_ (fun K hK=>?_);rotate_left 1;intro w' hCw;try dsimp only at hCw) | (refine Lx.qr (v:=?_) ?_ (fun K hK=>?_);rotate_left 1));go_simp;first|done | with_reducible rfl);go_simp;refine hK _ ?_;clear hK K) | (refine Lx.qe (fun K hK=>?_);go_simp;(first|skip | skip);refine hK _ _ (trivial) ?_;clear hK K))
        all_goals (refine Lx.lexO_done ?_)
        go_wp2_with fail
        go_meet
        have hq:=(((((((((((HV0.out).alloc [.pointer (some ⟨(V0.heap.size+4),0,none⟩)] 85)).alloc X2.toList 102)).alloc X1.toList 76)).alloc X0.toList 3)).alloc (TbA (.slice (some ⟨(V0.heap.size+3),0,none⟩) D.length D.length) (.slice (some ⟨(V0.heap.size+2),0,none⟩) D.length D.length) (.slice (some ⟨(V0.heap.size+1),0,none⟩) D.length D.length)).toList 91)).drew
        simp only[World.size_alloc,Array.toArray_toList,Nat.add_assoc,Nat.reduceAdd] at hq
        rw[tbz_eq]
        simp only[Nat.add_assoc,Nat.reduceAdd]
        exact⟨(V0.heap.size+4),(V0.heap.size),(V0.heap.size+1),(V0.heap.size+3),(V0.heap.size+2),rfl,(hq.perm (permIdx _ [5,1,2,4,3,0] 6 rfl (by decide))).base⟩
 case rest=>
  obtain⟨tb,pt,q2,q0,q1,rfl,hP⟩:=hcut
  have HP:Hid (Hp w w wc [.blk tb 91 (TBc q0 q1 q2 D.length (ixK D 0)),.blk pt 85 [.pointer (some ⟨tb,0,none⟩)],.blk q2 102 (List.replicate D.length (.slice none 0 0)),.blk q0 3 ((stK D 0).map intV),.blk q1 76 ((dmK D 0).map u64V),.blk pb 29 [.slice Ad D.length cd,.slice A0 n0 c0,.slice A1 n1 c1,.slice A2 n2 c2]] []):=Lib.hid (by
   have e0:X0.toList=(stK D 0).map intV:=by
    have:=made_one (.int .i64 0) (by simp[Value.cells]) D.length
    rw[Nat.mul_one,show (Value.int .i64 0).cells=#[.int .i64 0] by simp[Value.cells],←HX0.out] at this
    rw[this];unfold stK;simp[intV]
   have e1:X1.toList=(dmK D 0).map u64V:=by
    have:=made_one (.int .u64 0) (by simp[Value.cells]) D.length
    rw[Nat.mul_one,show (Value.int .u64 0).cells=#[.int .u64 0] by simp[Value.cells],←HX1.out] at this
    rw[this];unfold dmK;simp[u64V]
   have e2:X2.toList=List.replicate D.length (.slice none 0 0):=by
    have:=made_one (.slice none 0 0) (by simp[Value.cells]) D.length
    rw[Nat.mul_one,show (Value.slice none 0 0).cells=#[.slice none 0 0] by simp[Value.cells],←HX2.out] at this
    exact this
   rw[←e0,←e1,←e2,show ixK D 0=List.replicate 512 0 from rfl,←TBc_zero]
   exact hP)
  have b0:=hP.c 5 0 rfl rfl
  have bl:=hP.lt 5 rfl
  clear hP hmk0 hmk1 hmk2 hbd HX0 HX1 HX2
  go_wp2_with fail
  clear b0 bl
  go_loopw [33] (fun iv wr=>∃ i:Nat,i≤D.length∧iv=.int .i64 i∧Hp w w wr [.blk tb 91 (TBc q0 q1 q2 D.length (ixK D i)),.blk pt 85 [.pointer (some ⟨tb,0,none⟩)],.blk q2 102 (List.replicate D.length (.slice none 0 0)),.blk q0 3 ((stK D i).map intV),.blk q1 76 ((dmK D i).map u64V),.blk pb 29 [.slice Ad D.length cd,.slice A0 n0 c0,.slice A1 n1 c1,.slice A2 n2 c2]] []) (fun iv _=>D.length - (intOf iv).toNat)
  case atStart=>exact⟨0,Nat.zero_le _,rfl,HP.out⟩
  case round=>
   clear HP
   obtain⟨i,hi,rfl,hP⟩:=hrel
   have HP:=Lib.hid hP
   by_cases hlt:i<D.length
   ·have j0:(i:Int)<(D.length:Int):=by omega
    obtain⟨d,hd⟩:∃ d,ds[i]?=some d:=⟨_,List.getElem?_eq_getElem (by have:=hlt;rw[HD.out,List.length_map] at this;exact this)⟩
    have hDi:D[i]?=some (d.st,d.chs):=by rw[HD.out,List.getElem?_map,hd];rfl
    have HDI:=Lib.hid hDi
    obtain⟨b,off,rfl,hbw,hcell⟩:=(HPA.out.1.1.below hP.below).2 (by show 0<D.length;omega)
    have y0:wr.cell? ⟨b,off+i * 2,none⟩=some (.int .i64 d.st):=hcell i d hd 0 (by decide)
    have y1:wr.cell? ⟨b,off+i * 2+1,none⟩=some (.slice d.adr d.len d.cap):=hcell i d hd 1 (by decide)
    have HCH:=Lib.hid (HPA.out.1.2 d (List.mem_of_getElem? hd))
    have hst:stA D i=d.st:=stA_at hDi
    have hsr:0≤d.st∧d.st<512:=HST.out i hlt |> fun h=>by rw[hst] at h;exact h
    obtain⟨m,hm⟩:∃ m:Nat,d.st=(m:Int):=⟨d.st.toNat,by omega⟩
    have hm512:m<512:=by omega
    have HCHV:=Lib.hid (HPR.out.ch _ (List.mem_of_getElem? hDi))
    have HCL:Hid (d.chs.length=d.len):=Lib.hid HCH.out.1
    have hdl:d.len≤50:=by have:=HPR.out.chl _ (List.mem_of_getElem? hDi);have:=HCL.out;simp only at *;omega
    have HSTM:Hid ((stA D i).toNat=m):=Lib.hid (by rw[hst];omega)
    have HSTD:Hid ((stK D i).set i (m:Int)=stK D (i+1)):=Lib.hid (by rw[←hm];exact stK_set hDi)
    obtain⟨dst,dadr,dlen,dcap,dchs⟩:=d
    dsimp only at y0 y1 HCH hm HCHV HCL hdl HDI
    subst hm
    have hsk:i<(stK D i).length:=by rw[stK_len hi];exact hlt
    obtain⟨u0,hu0⟩:∃ u,(stK D i)[i]?=some u:=⟨_,List.getElem?_eq_getElem hsk⟩
    clear hcell hd hDi hst hsr hP hsk
    go_upto_region 6 with fail
    obtain⟨V1,hV1⟩:∃ V,V=wr.alloc (.cells #[.int .i64 m,.slice dadr dlen dcap] 64):=⟨_,rfl⟩
    obtain⟨p6,hp6⟩:∃ p,p=wr.heap.size:=⟨_,rfl⟩
    have hP1:=HP.out.alloc [.int .i64 m,.slice dadr dlen dcap] 64
    rw[show ([.int .i64 m,.slice dadr dlen dcap]:List Value).toArray=#[.int .i64 m,.slice dadr dlen dcap] from rfl,←hV1,←hp6] at hP1
    have HP1:=Lib.hid hP1
    have a0:=hP1.c 1 0 rfl rfl
    have a1:=hP1.lt 1 rfl
    have a2:=hP1.c 0 0 rfl rfl
    have a3:=hP1.lt 0 rfl
    have a4:=hP1.c 6 0 rfl rfl
    have a5:=hP1.lt 6 rfl
    have a6:=hP1.cI 3 i rfl hu0
    have a7:=hP1.lt 3 rfl
    have a8:=hP1.f 3 rfl
    rw[←hV1,←hp6]
    clear hV1 hp6 hP1 HP y0 y1 hu0
    go_wp2_with fail
    refine Lx.region (C:=fun _=>True) (hs:=[]) (by kernel_rfl) (by kernel_rfl) trivial ?_
    repeat' (first|((first|refine Lx.ln (fun K hK=>?_) | (first|(refine Lx.lp (v:=?_) ?_ (fun K hK=>?_);rotate_left 1;intro w' hCw;try dsimp only at hCw) | (refine Lx.lr (v:=?_) ?_ (fun K hK=>?_);rotate_left 1));go_simp;first|done | with_reducible rfl);go_simp;refine hK _ ?_;clear hK K) | (refine Lx.le (fun K hK=>?_);go_simp;(first|fail | skip);refine hK _ _ (trivial) ?_;clear hK K) | (refine Lx.lex_cases rfl rfl rfl (fun hgd K hK=>?_) (fun hgd K hK=>?_)<;>(try simp only[decide_eq_true_eq,decide_eq_false_iff_not] at hgd)<;>(first|(exfalso;omega) | (go_simp;refine hK _ ?_;clear hK K))))
    all_goals (refine Lx.lex_nil ?_)
    obtain⟨V2,hV2⟩:∃ V,V=(V1.setCell ⟨q0,i,none⟩ (.int .i64 m)).drew:=⟨_,rfl⟩
    have HP2:Hid (Hp w w V2 [.blk tb 91 (TBc q0 q1 q2 D.length (ixK D i)),.blk pt 85 [.pointer (some ⟨tb,0,none⟩)],.blk q2 102 (List.replicate D.length (.slice none 0 0)),.blk q0 3 ((stK D (i+1)).map intV),.blk q1 76 ((dmK D i).map u64V),.blk pb 29 [.slice (some ⟨b,off,none⟩) D.length cd,.slice A0 n0 c0,.slice A1 n1 c1,.slice A2 n2 c2],.blk p6 64 [.int .i64 m,.slice dadr dlen dcap]] []):=Lib.hid (by
     have h:=(HP1.out.setI 3 i m rfl).drew.base
     rw[hV2,←HSTD.out];exact h)
    rw[←hV2]
    clear hV2 a0 a1 a2 a3 a4 a5 a6 a7 a8 HP1
    obtain⟨u1,hu1⟩:∃ u,(ixK D i)[m]?=some u:=⟨_,List.getElem?_eq_getElem (by rw[ixK_len];exact hm512)⟩
    have a0:=HP2.out.c 1 0 rfl rfl
    have a1:=HP2.out.lt 1 rfl
    have a2:=HP2.out.c 0 (3+m) rfl (TBc_at hu1)
    have a3:=HP2.out.lt 0 rfl
    have a4:=HP2.out.c 6 0 rfl rfl
    have a5:=HP2.out.lt 6 rfl
    have a6:=HP2.out.f 0 rfl
    have j1:(m:Int)<512:=by omega
    have e1:IntKind.i64.wrap ((i:Int)+1)=(i:Int)+1:=IntWalk.i64_in _ (by omega)
    clear hu1
    go_wp2_with fail
    refine Lx.region (C:=fun _=>True) (hs:=[]) (by kernel_rfl) (by kernel_rfl) trivial ?_
    repeat' (first|((first|refine Lx.ln (fun K hK=>?_) | (first|(refine Lx.lp (v:=?_) ?_ (fun K hK=>?_);rotate_left 1;intro w' hCw;try dsimp only at hCw) | (refine Lx.lr (v:=?_) ?_ (fun K hK=>?_);rotate_left 1));go_simp;first|done | with_reducible rfl);go_simp;refine hK _ ?_;clear hK K) | (refine Lx.le (fun K hK=>?_);go_simp;(first|fail | skip);refine hK _ _ (trivial) ?_;clear hK K) | (refine Lx.lex_cases rfl rfl rfl (fun hgd K hK=>?_) (fun hgd K hK=>?_)<;>(try simp only[decide_eq_true_eq,decide_eq_false_iff_not] at hgd)<;>(first|(exfalso;omega) | (go_simp;refine hK _ ?_;clear hK K))))
    all_goals (refine Lx.lex_nil ?_)
    clear e1
    obtain⟨V3,hV3⟩:∃ V,V=(V2.setCell ⟨tb,3+m,none⟩ (.int .i64 ((i:Int)+1))).drew:=⟨_,rfl⟩
    have HP3:Hid (Hp w w V3 [.blk tb 91 (TBc q0 q1 q2 D.length (ixK D (i+1))),.blk pt 85 [.pointer (some ⟨tb,0,none⟩)],.blk q2 102 (List.replicate D.length (.slice none 0 0)),.blk q0 3 ((stK D (i+1)).map intV),.blk q1 76 (((dmK D i).set i (stS (dchs.take 0))).map u64V),.blk pb 29 [.slice (some ⟨b,off,none⟩) D.length cd,.slice A0 n0 c0,.slice A1 n1 c1,.slice A2 n2 c2],.blk p6 64 [.int .i64 m,.slice dadr dlen dcap]] []):=Lib.hid (by
     have h:=(HP2.out.set 0 (3+m) (.int .i64 ((i:Int)+1)) rfl).drew.base
     have e0:(dmK D i).set i (stS (dchs.take 0))=dmK D i:=by
      rw[List.take_zero,show stS []=0 from rfl]
      apply List.ext_getElem?
      intro k
      rw[List.getElem?_set]
      by_cases hk:i=k
      ·subst hk;rw[if_pos rfl,if_pos (by rw[dmK_len hi];exact hlt),dmK_zero hlt]
      ·rw[if_neg hk]
     rw[hV3,ixK_succ,HSTM.out,←TBc_set,e0];exact h)
    rw[←hV3]
    clear hV3 a0 a1 a2 a3 a4 a5 a6 HP2
    have a0:=HP3.out.c 6 1 rfl rfl
    have a1:=HP3.out.lt 6 rfl
    go_wp2_with fail
    clear a0 a1
    go_loopw [57] (fun kv wr=>∃ k:Nat,k≤dlen∧kv=.int .i64 k∧Hp w w wr [.blk tb 91 (TBc q0 q1 q2 D.length (ixK D (i+1))),.blk pt 85 [.pointer (some ⟨tb,0,none⟩)],.blk q2 102 (List.replicate D.length (.slice none 0 0)),.blk q0 3 ((stK D (i+1)).map intV),.blk q1 76 (((dmK D i).set i (stS (dchs.take k))).map u64V),.blk pb 29 [.slice (some ⟨b,off,none⟩) D.length cd,.slice A0 n0 c0,.slice A1 n1 c1,.slice A2 n2 c2],.blk p6 64 [.int .i64 m,.slice dadr dlen dcap]] []) (fun kv _=>dlen - (intOf kv).toNat)
    case atStart=>exact⟨0,Nat.zero_le _,rfl,HP3.out⟩
    case round=>
     clear HP3
     obtain⟨k,hk,rfl,hP⟩:=hrel
     have HP:=Lib.hid hP
     by_cases hkl:k<dlen
     ·have j2:(k:Int)<(dlen:Int):=by omega
      obtain⟨c,hc⟩:∃ c,dchs[k]?=some c:=⟨_,List.getElem?_eq_getElem (by rw[HCL.out];exact hkl)⟩
      have hc2:=HCHV.out.1 c (List.mem_of_getElem? hc)
      obtain⟨bc,oc,rfl,hbc,hcc⟩:=(HCH.out.below hP.below).2 (by omega)
      have y0:wr.cell? ⟨bc,oc+k,none⟩=some (.int .i64 c):=hcc k c hc
      obtain⟨z,hz⟩:∃ z:Nat,c=(z:Int):=⟨c.toNat,by omega⟩
      subst hz
      have HTK:=Lib.hid (stS_take hc)
      have hz64:z<64:=by omega
      have e3:=wrap_pow hz64
      have HXL:Hid (stS (dchs.take k)<18446744073709551616):=Lib.hid (chs_lt64 (fun x hx=>HCHV.out.1 x (List.take_subset k dchs hx)))
      have HOR:=Lib.hid (or_pow (stS (dchs.take k)) HXL.out hz64)
      have hgi:((dmK D i).set i (stS (dchs.take k)))[i]?=some (stS (dchs.take k)):=by rw[List.getElem?_set,if_pos rfl,if_pos (by rw[dmK_len hi];exact hlt)]
      have a0:=hP.c 1 0 rfl rfl
      have a1:=hP.lt 1 rfl
      have a2:=hP.c 0 1 rfl rfl
      have a3:=hP.lt 0 rfl
      have a4:wr.cell? ⟨q1,i,none⟩=some (.int .u64 (stS (dchs.take k):Nat)):=hP.c 4 i rfl (by rw[List.getElem?_map,hgi];rfl)
      have a5:=hP.lt 4 rfl
      have a6:=hP.f 4 rfl
      clear hc hcc hP hgi
      rw[Int.toNat_natCast] at HTK
      generalize stS (dchs.take k)=X at *
      generalize hX':stS (dchs.take (k+1))=X' at *
      have HX':=Eqn.mk hX'
      clear hX'
      go_wp2_with fail
      refine Lx.region (C:=fun _=>True) (hs:=[]) (by kernel_rfl) (by kernel_rfl) trivial ?_
      repeat' (first|((first|refine Lx.ln (fun K hK=>?_) | (first|(refine Lx.lp (v:=?_) ?_ (fun K hK=>?_);rotate_left 1;intro w' hCw;try dsimp only at hCw) | (refine Lx.lr (v:=?_) ?_ (fun K hK=>?_);rotate_left 1));go_simp;first|done | with_reducible rfl);go_simp;refine hK _ ?_;clear hK K) | (refine Lx.le (fun K hK=>?_);go_simp;(first|fail | skip);refine hK _ _ (trivial) ?_;clear hK K) | (refine Lx.lex_cases rfl rfl rfl (fun hgd K hK=>?_) (fun hgd K hK=>?_)<;>(try simp only[decide_eq_true_eq,decide_eq_false_iff_not] at hgd)<;>(first|(exfalso;omega) | (go_simp;refine hK _ ?_;clear hK K))))
      all_goals (refine Lx.lex_nil ?_)
      obtain⟨V4,hV4⟩:∃ V,V=(wr.setCell ⟨q1,i,none⟩ (.int .u64 (bits .or .u64 (X:Int) (2 ^ z)))).drew:=⟨_,rfl⟩
      have HP4:Hid (Hp w w V4 [.blk tb 91 (TBc q0 q1 q2 D.length (ixK D (i+1))),.blk pt 85 [.pointer (some ⟨tb,0,none⟩)],.blk q2 102 (List.replicate D.length (.slice none 0 0)),.blk q0 3 ((stK D (i+1)).map intV),.blk q1 76 (((dmK D i).set i X').map u64V),.blk pb 29 [.slice (some ⟨b,off,none⟩) D.length cd,.slice A0 n0 c0,.slice A1 n1 c1,.slice A2 n2 c2],.blk p6 64 [.int .i64 m,.slice (some ⟨bc,oc,none⟩) dlen dcap]] []):=Lib.hid (by
       have h:=(HP.out.set 4 i (.int .u64 (bits .or .u64 (X:Int) (2 ^ z))) rfl).drew.base
       have e0:((dmK D i).set i X').map u64V=(((dmK D i).set i X).map u64V).set i (.int .u64 (bits .or .u64 (X:Int) (2 ^ z))):=by
        rw[HOR.out,List.map_set,List.map_set,List.set_set,HTK.out];rfl
       rw[hV4,e0];exact h)
      rw[←hV4]
      clear hV4 a0 a1 a2 a3 a4 a5 a6 HP
      go_wp2_with fail
      go_roundw
      case rel=>exact⟨k+1,hkl,by go_num,by rw[HX'.out];exact HP4.out⟩
      case measure=>simp[intOf];omega
     ·obtain rfl:k=dlen:=by omega
      have j2:¬((k:Nat):Int)<(k:Int):=by omega
      have HP9:Hid (Hp w w wr [.blk tb 91 (TBc q0 q1 q2 D.length (ixK D (i+1))),.blk pt 85 [.pointer (some ⟨tb,0,none⟩)],.blk q2 102 (List.replicate D.length (.slice none 0 0)),.blk q0 3 ((stK D (i+1)).map intV),.blk q1 76 ((dmK D (i+1)).map u64V),.blk pb 29 [.slice (some ⟨b,off,none⟩) D.length cd,.slice A0 n0 c0,.slice A1 n1 c1,.slice A2 n2 c2]] []):=Lib.hid (by
       have h:=hP.sub (L':=[.blk tb 91 (TBc q0 q1 q2 D.length (ixK D (i+1))),.blk pt 85 [.pointer (some ⟨tb,0,none⟩)],.blk q2 102 (List.replicate D.length (.slice none 0 0)),.blk q0 3 ((stK D (i+1)).map intV),.blk q1 76 (((dmK D i).set i (stS (dchs.take k))).map u64V),.blk pb 29 [.slice (some ⟨b,off,none⟩) D.length cd,.slice A0 n0 c0,.slice A1 n1 c1,.slice A2 n2 c2]]) (by simp)
       rw[List.take_of_length_le (by rw[HCL.out];exact Nat.le_refl _),dmK_set HDI.out] at h
       exact h)
      clear hP HP
      go_wp2_with fail
      go_roundw
      case rel=>exact⟨i+1,hlt,by go_num,HP9.out⟩
      case measure=>simp[intOf];omega
   ·obtain rfl:i=D.length:=by omega
    have j0:¬((D.length:Nat):Int)<(D.length:Int):=by omega
    obtain⟨Z,hZ⟩:∃ Z:Array Value,Z=Array.replicate 512 (.int .u64 0):=⟨_,rfl⟩
    have hz:=arr512u.1
    rw[←hZ] at hz
    have HZ:=Eqn.mk hZ
    clear hZ
    obtain⟨wo,rfl⟩:∃ wo:World,wo=wr:=⟨_,rfl⟩
    obtain⟨V5,hV5⟩:∃ V,V=wo.alloc (.cells Z 142):=⟨_,rfl⟩
    obtain⟨p9,hp9⟩:∃ p,p=wo.heap.size:=⟨_,rfl⟩
    have HP5:Hid (Hp w w V5 [.blk tb 91 (TBc q0 q1 q2 D.length (ixK D D.length)),.blk pt 85 [.pointer (some ⟨tb,0,none⟩)],.blk q2 102 (List.replicate D.length (.slice none 0 0)),.blk q0 3 ((stK D D.length).map intV),.blk q1 76 ((dmK D D.length).map u64V),.blk pb 29 [.slice Ad D.length cd,.slice A0 n0 c0,.slice A1 n1 c1,.slice A2 n2 c2],.blk p9 142 ((cpK r.caps 0).map u64V)] []):=Lib.hid (by
     have h:=(hP.alloc Z.toList 142).base
     rw[Array.toArray_toList,←hV5,←hp9] at h
     have e0:(cpK r.caps 0).map u64V=Z.toList:=by
      rw[HZ.out,Array.toList_replicate]
      unfold cpK
      rw[List.take_zero,List.foldl_nil,List.map_replicate];rfl
     rw[e0];exact h)
    clear hP HP
    go_upto_region 15 with fail
    rw[←hV5,←hp9]
    clear hV5 hp9 hz HZ
    have a0:=HP5.out.c 5 3 rfl rfl
    have a1:=HP5.out.lt 5 rfl
    go_wp2_with fail
    clear a0 a1
    go_loopw [78] (fun kv wr=>∃ k:Nat,k≤n2∧kv=.int .i64 k∧Hp w w wr [.blk tb 91 (TBc q0 q1 q2 D.length (ixK D D.length)),.blk pt 85 [.pointer (some ⟨tb,0,none⟩)],.blk q2 102 (List.replicate D.length (.slice none 0 0)),.blk q0 3 ((stK D D.length).map intV),.blk q1 76 ((dmK D D.length).map u64V),.blk pb 29 [.slice Ad D.length cd,.slice A0 n0 c0,.slice A1 n1 c1,.slice A2 n2 c2],.blk p9 142 ((cpK r.caps k).map u64V)] []) (fun kv _=>n2 - (intOf kv).toNat)
    case atStart=>exact⟨0,Nat.zero_le _,rfl,HP5.out⟩
    case round=>
     clear HP5
     obtain⟨k,hk,rfl,hP⟩:=hrel
     have HP:=Lib.hid hP
     by_cases hkl:k<n2
     ·have j2:(k:Int)<(n2:Int):=by omega
      have hrl:r.caps.length=n2:=HPA.out.2.2.2.1.1
      have hn2:n2≤1024:=by rw[←hrl];exact HPJ.out.cl
      obtain⟨x,hx⟩:∃ x,r.caps[k]?=some x:=⟨_,List.getElem?_eq_getElem (by omega)⟩
      have hxx:=HPJ.out.cps x (List.mem_of_getElem? hx)
      have HSC:=Lib.hid (cpK_succ hx)
      obtain⟨b3,o3,rfl,hb3,hcell⟩:=(HPA.out.2.2.2.1.below hP.below).2 (by show 0<n2;omega)
      have y0:wr.cell? ⟨b3,o3+k * 4,none⟩=some (.int .i64 x.a):=hcell k x hx 0 (by decide)
      have y1:wr.cell? ⟨b3,o3+k * 4+1,none⟩=some (.int .i64 x.b):=hcell k x hx 1 (by decide)
      have y2:wr.cell? ⟨b3,o3+k * 4+2,none⟩=some (.int .i64 x.c):=hcell k x hx 2 (by decide)
      have y3:wr.cell? ⟨b3,o3+k * 4+3,none⟩=some (.int .i64 x.d):=hcell k x hx 3 (by decide)
      obtain⟨xa,xb,xc,xd⟩:=x
      dsimp only at y0 y1 y2 y3 hxx HSC
      obtain⟨m,hm⟩:∃ m:Nat,xa=(m:Int):=⟨xa.toNat,by omega⟩
      subst hm
      rw[Int.toNat_natCast] at HSC
      have hm512:m<512:=by omega
      have j3:(m:Int)<512:=by omega
      have HSP:=Lib.hid (fun W=>span_any xc xd W (by omega))
      obtain⟨G,hG⟩:∃ G,(cpK r.caps k)[m]?=some G:=⟨_,List.getElem?_eq_getElem (by rw[cpK_len];exact hm512)⟩
      have hGD:(cpK r.caps k).getD m 0=G:=by rw[List.getD_eq_getElem?_getD,hG];rfl
      rw[hGD] at HSC
      have HOR:Hid (bits .or .u64 (G:Int) (spN xc xd:Nat)=((G ||| spN xc xd:Nat):Int)):=Lib.hid (bits_or_u64_nat _ _ (cpK_lt (fun x hx=>(HPJ.out.cps x hx).2) k G (List.mem_of_getElem? hG)) (sp_lt (by omega)))
      generalize spN xc xd=SP at *
      clear hcell hx hrl hGD hP
      go_upto_region 18 with fail
      obtain⟨V6,hV6⟩:∃ V,V=wr.alloc (.cells #[.int .i64 m,.int .i64 xb,.int .i64 xc,.int .i64 xd] 71):=⟨_,rfl⟩
      obtain⟨p6,hp6⟩:∃ p,p=wr.heap.size:=⟨_,rfl⟩
      have hP6:=HP.out.alloc [.int .i64 m,.int .i64 xb,.int .i64 xc,.int .i64 xd] 71
      rw[show ([.int .i64 m,.int .i64 xb,.int .i64 xc,.int .i64 xd]:List Value).toArray=#[.int .i64 m,.int .i64 xb,.int .i64 xc,.int .i64 xd] from rfl,←hV6,←hp6] at hP6
      have HP6:=Lib.hid hP6
      have a0:=hP6.c 7 0 rfl rfl
      have a1:=hP6.c 7 2 rfl rfl
      have a2:=hP6.c 7 3 rfl rfl
      have a3:=hP6.lt 7 rfl
      have a4:V6.cell? ⟨p9,m,none⟩=some (.int .u64 G):=hP6.c 6 m rfl (by rw[List.getElem?_map,hG];rfl)
      have a5:=hP6.lt 6 rfl
      have a6:=hP6.f 6 rfl
      rw[←hV6,←hp6]
      clear hV6 hp6 hP6 HP y0 y1 y2 y3 hG
      go_wp2_with fail
      refine Lx.regionT (C:=fun Z=>Z.cell? ⟨p6,0,none⟩=some (.int .i64 m)∧Z.cell? ⟨p6,2,none⟩=some (.int .i64 xc)∧Z.cell? ⟨p6,3,none⟩=some (.int .i64 xd)∧Z.cell? ⟨p9,m,none⟩=some (.int .u64 G)) (C':=fun _=>True) (hs:=[1,3,5,7]) 10 (List.take 10 _) (List.drop 10 _) (List.take_append_drop 10 _).symm rfl (by kernel_rfl) (by kernel_rfl) (by kernel_rfl) ⟨a0,a1,a2,a4⟩ ?_
      simp only[List.take_succ_cons,List.take_zero,List.drop_succ_cons,List.drop_zero]
      repeat' (first|((first|refine Lx.ln (fun K hK=>?_) | (first|(refine Lx.lp (v:=?_) ?_ (fun K hK=>?_);rotate_left 1;intro w' hCw;try dsimp only at hCw) | (refine Lx.lr (v:=?_) ?_ (fun K hK=>?_);rotate_left 1));go_simp;first|done | with_reducible rfl);go_simp;refine hK _ ?_;clear hK K) | (refine Lx.le (fun K hK=>?_);go_simp;(first|(go_at_call 87;refine(HSP.out _).mono ?_;rintro e W7 ⟨rfl,hb7⟩;have hP7:=(HP6.out.drew.keep hb7).base;have r1:=hP7.c 7 0 rfl rfl;have r2:=hP7.c 7 2 rfl rfl;have r3:=hP7.c 7 3 rfl rfl;have r4:=(hb7.cell (p:=⟨p9,m,none⟩) a5).trans a4;have r5:=hP7.lt 6 rfl;have r6:=hP7.f 6 rfl;have HP7:=Lib.hid hP7;clear hb7 hP7) | skip | skip);refine hK _ _ (by first|exact⟨a0,a1,a2,a4⟩ | exact⟨r1,r2,r3,r4⟩) ?_;clear hK K) | (refine Lx.lex_cases rfl rfl rfl (fun hgd K hK=>?_) (fun hgd K hK=>?_)<;>(try simp only[decide_eq_true_eq,decide_eq_false_iff_not] at hgd)<;>(first|(exfalso;omega) | (go_simp;refine hK _ ?_;clear hK K))))
      clear a0 a1 a2 a3 a4 a5 a6 HP6
      refine Lx.lex_nil ⟨trivial,?_⟩
      go_simp
      repeat' (first|((first|refine Lx.ln (fun K hK=>?_) | (first|(refine Lx.lp (v:=?_) ?_ (fun K hK=>?_);rotate_left 1;intro w' hCw;try dsimp only at hCw) | (refine Lx.lr (v:=?_) ?_ (fun K hK=>?_);rotate_left 1));go_simp;first|done | with_reducible rfl);go_simp;refine hK _ ?_;clear hK K) | (refine Lx.le (fun K hK=>?_);go_simp;(first|skip);refine hK _ _ (trivial) ?_;clear hK K))
      all_goals (refine Lx.lex_nil ?_)
      obtain⟨V8,hV8⟩:∃ V,V=W7.setCell ⟨p9,m,none⟩ (.int .u64 (bits .or .u64 (G:Int) (SP:Int))):=⟨_,rfl⟩
      have HP8:Hid (Hp w w V8 [.blk tb 91 (TBc q0 q1 q2 D.length (ixK D D.length)),.blk pt 85 [.pointer (some ⟨tb,0,none⟩)],.blk q2 102 (List.replicate D.length (.slice none 0 0)),.blk q0 3 ((stK D D.length).map intV),.blk q1 76 ((dmK D D.length).map u64V),.blk pb 29 [.slice Ad D.length cd,.slice A0 n0 c0,.slice A1 n1 c1,.slice (some ⟨b3,o3,none⟩) n2 c2],.blk p9 142 ((cpK r.caps (k+1)).map u64V)] []):=Lib.hid (by
       have h:=((HP7.out.set 6 m (.int .u64 (bits .or .u64 (G:Int) (SP:Int))) rfl).sub (L':=[.blk tb 91 (TBc q0 q1 q2 D.length (ixK D D.length)),.blk pt 85 [.pointer (some ⟨tb,0,none⟩)],.blk q2 102 (List.replicate D.length (.slice none 0 0)),.blk q0 3 ((stK D D.length).map intV),.blk q1 76 ((dmK D D.length).map u64V),.blk pb 29 [.slice Ad D.length cd,.slice A0 n0 c0,.slice A1 n1 c1,.slice (some ⟨b3,o3,none⟩) n2 c2],.blk p9 142 (((cpK r.caps k).map u64V).set m (.int .u64 (bits .or .u64 (G:Int) (SP:Int))))]) (by simp)).base
       rw[HSC.out,List.map_set,hV8]
       rw[HOR.out] at h ⊢
       exact h)
      clear r1 r2 r3 r4 r5 r6 HP7
      go_wp2_with fail
      rw[←hV8]
      clear hV8
      go_roundw
      case rel=>exact⟨k+1,hkl,by go_num,HP8.out⟩
      case measure=>simp[intOf];omega
     ·obtain rfl:k=n2:=by omega
      have j2:¬((k:Nat):Int)<(k:Int):=by omega
      obtain⟨wd,rfl⟩:∃ wd:World,wd=wr:=⟨_,rfl⟩
      have hmk:∀ W:World,(Instr.makeMap 144 none).run Tryz.prog W=.ok (.map (some W.heap.size)) (W.alloc (.map #[] 0)):=fun W=>by kernel_rfl
      clear hP
      go_upto_region 22 with fail
      obtain⟨mb,hmb⟩:∃ p,p=wd.heap.size:=⟨_,rfl⟩
      obtain⟨lm,hlm⟩:∃ p,p=wd.heap.size+1:=⟨_,rfl⟩
      obtain⟨V9,hV9⟩:∃ V,V=(wd.alloc (.map #[] 0)).alloc (.cells #[.map (some wd.heap.size)] 144):=⟨_,rfl⟩
      obtain⟨S,hS⟩:∃ S:ArS,S=⟨tb,pt,q2,lm,mb,q0,q1,p9,pb,TBc q0 q1 q2 D.length (ixK D D.length),(stK D D.length).map intV,(dmK D D.length).map u64V,(cpK r.caps k).map u64V,[.slice Ad D.length cd,.slice A0 n0 c0,.slice A1 n1 c1,.slice A2 k c2]⟩:=⟨_,rfl⟩
      have HPS:Hid (Hp w w V9 (arE S D.length (List.replicate D.length ⟨none,0,0⟩) []) []):=Lib.hid (by
       have h:=(((HP.out.alloc0 (.map #[] 0)).alloc [.map (some wd.heap.size)] 144).perm (permIdx _ [0,1,2,7,3,4,6,5] 8 rfl (by decide))).nils 105 3 D.length
       rw[arE_start,hS,hV9,hlm,hmb]
       rw[World.size_alloc] at h
       exact h.base)
      have HMS:Hid (MapF enc2 V9 mb (lkM [])):=Lib.hid (by
       have h:=(MapF.made enc2 wd).alloc (.cells #[.map (some wd.heap.size)] 144)
       rw[hV9,hmb]
       exact h)
      have HLO:Hid (w.heap.size≤mb):=Lib.hid (by rw[hmb];exact HP.out.below.size)
      have HSE:=Eqn.mk hS
      rw[←hV9,←hlm]
      clear hmk hV9 hmb hlm HP
      have a0:=HPS.out.c 7 1 (by rw[hS];rfl) rfl
      have a1:=HPS.out.lt 7 (by rw[hS];rfl)
      clear hS
      go_wp2_with fail
      clear a0 a1
      have hent:=enters_of Tryz.func88 (by kernel_rfl) rfl
      go_loopw [100] (fun kv wr=>∃(kp:Nat) (NV:List NH) (LK:List Lk),kp≤n0∧kv=.int .i64 kp∧NV.length=D.length∧LkI D r.caps (r.pairs.take kp) [] LK∧MapF enc2 wr mb (lkM LK)∧Hp w w wr (arE S D.length NV LK) []) (fun kv _=>n0 - (intOf kv).toNat)
      case atStart=>exact⟨0,_,[],Nat.zero_le _,rfl,List.length_replicate ..,LkI.start D r.caps,HMS.out,HPS.out⟩
      case round=>
       clear HMS HPS
       obtain⟨kp,NV,LK,hkp,rfl,hNV,hI,hM,hP⟩:=hrel
       by_cases hkpl:kp<n0
       ·have j4:(kp:Int)<(n0:Int):=by omega
        have hpl:r.pairs.length=n0:=HPA.out.2.1.1
        have hn0:n0≤4096:=by rw[←hpl];exact HPJ.out.pl
        obtain⟨x,hx⟩:∃ x,r.pairs[kp]?=some x:=⟨_,List.getElem?_eq_getElem (by omega)⟩
        have hxm:=List.mem_of_getElem? hx
        have hxx:=HPR.out.prs x hxm
        have hx2:=HPJ.out.prm x hxm
        have HTP:Hid (r.pairs.take (kp+1)=r.pairs.take kp++[x]):=Lib.hid (by rw[List.take_add_one,hx];rfl)
        obtain⟨b3,o3,rfl,hb3,hcell⟩:=(HPA.out.2.1.below hP.below).2 (by show 0<n0;omega)
        have y0:wr.cell? ⟨b3,o3+kp * 5,none⟩=some (.int .i64 x.a):=hcell kp x hx 0 (by decide)
        have y1:wr.cell? ⟨b3,o3+kp * 5+1,none⟩=some (.int .i64 x.b):=hcell kp x hx 1 (by decide)
        have y2:wr.cell? ⟨b3,o3+kp * 5+2,none⟩=some (.int .i64 x.c):=hcell kp x hx 2 (by decide)
        have y3:wr.cell? ⟨b3,o3+kp * 5+3,none⟩=some (.int .i64 x.d):=hcell kp x hx 3 (by decide)
        have y4:wr.cell? ⟨b3,o3+kp * 5+4,none⟩=some (.int .i64 x.e):=hcell kp x hx 4 (by decide)
        obtain⟨V1,hV1⟩:∃ V,V=wr.alloc (.cells #[.int .i64 x.a,.int .i64 x.b,.int .i64 x.c,.int .i64 x.d,.int .i64 x.e] 67):=⟨_,rfl⟩
        obtain⟨p15,hp15⟩:∃ p,p=wr.heap.size:=⟨_,rfl⟩
        have hP1:=hP.alloc [.int .i64 x.a,.int .i64 x.b,.int .i64 x.c,.int .i64 x.d,.int .i64 x.e] 67
        rw[show ([.int .i64 x.a,.int .i64 x.b,.int .i64 x.c,.int .i64 x.d,.int .i64 x.e]:List Value).toArray=#[.int .i64 x.a,.int .i64 x.b,.int .i64 x.c,.int .i64 x.d,.int .i64 x.e] from rfl,←hV1,←hp15] at hP1
        have hM1:MapF enc2 V1 S.mb (lkM LK):=by rw[hV1,HSE.out];exact hM.alloc _
        have HBT:=Lib.hid (between_any hP1 hM1 (by rw[HSE.out];exact HLO.out) hI hNV (by rw[HSE.out]) HPR.out.nd HUP.out HPJ.out.st hlen hx2.1 hx2.2 (by omega) (fun kk hkk=>HNB.out hI kk hkk))
        have hl0:(arE S D.length NV LK).length=8+(D.length+(LK.length+LK.length)):=by unfold arE;simp[arF];omega
        have z0:=hP1.c _ 0 (List.getElem?_concat_length ..) rfl
        have z1:=hP1.c _ 1 (List.getElem?_concat_length ..) rfl
        have zl:=hP1.lt _ (List.getElem?_concat_length ..)
        have hpt:S.pt=pt:=by rw[HSE.out]
        have hlm:S.lm=lm:=by rw[HSE.out]
        rw[hpt,hlm] at HBT
        have HXX:=Lib.hid (And.intro hxx hx2)
        clear hcell hx hxm hxx hx2 hpl hP hP1 hM hM1 hI hNV hl0 hpt hlm
        obtain⟨xa,xb,xc,xd,xe⟩:=x
        dsimp only at *
        go_upto_region 25 with fail
        rw[←hV1,←hp15]
        clear hV1 hp15 y0 y1 y2 y3 y4
        go_wp2_with fail
        refine HBT.out.mono ?_
        rintro e W2 ⟨NV2,LK2,q,l,rfl,hq,hst,hNV2,hI2,hP2,hM2⟩
        obtain⟨li,lj,lg,lA,lc,lps,lsh⟩:=l
        dsimp only at hst
        have hx5:stA D li=xa∧stA D lj=xb:=by
         have h1:=hI2.ij _ (List.mem_of_getElem? hq)
         have h2:=st_up HUP.out h1.1 h1.2
         have h3:=HXX.out.1.1
         dsimp only at h2
         rcases hst with h | h
         ·exact h
         ·omega
        have hgb:=app_get (X:=[Ent.blk p15 67 [.int .i64 xa,.int .i64 xb,.int .i64 xc,.int .i64 xd,.int .i64 xe]]) (arE_blk (S:=S) (n:=D.length) (NV:=NV2) hq)
        have hgr:=app_get (X:=[Ent.blk p15 67 [.int .i64 xa,.int .i64 xb,.int .i64 xc,.int .i64 xd,.int .i64 xe]]) (arE_row (S:=S) (n:=D.length) (NV:=NV2) hq)
        have hgx:(arE S D.length NV2 LK2++[Ent.blk p15 67 [.int .i64 xa,.int .i64 xb,.int .i64 xc,.int .i64 xd,.int .i64 xe]])[(arE S D.length NV2 LK2).length]?=some (Ent.blk p15 67 [.int .i64 xa,.int .i64 xb,.int .i64 xc,.int .i64 xd,.int .i64 xe]):=List.getElem?_concat_length ..
        unfold lkB at hgb
        unfold lkR at hgr
        dsimp only at hgb hgr
        have HLE:Hid (lps.length≤4096):=Lib.hid (by
         have h0:=hI2.ps _ (List.mem_of_getElem? hq)
         dsimp only at h0
         rw[h0]
         exact Nat.le_trans (List.length_filter_le _ _) (Nat.le_trans (by rw[List.length_take];exact Nat.min_le_right _ _) HPJ.out.pl))
        have HI2:=Lib.hid hI2
        have HQ:=Lib.hid hq
        have HP2:=Lib.hid hP2
        have HM2:=Lib.hid (show MapF enc2 W2 S.mb (lkM LK2) from hM2)
        have HGB:=Lib.hid hgb
        have HGR:=Lib.hid hgr
        have HGX:=Lib.hid hgx
        have HX5:=Lib.hid hx5
        have HNV2:=Eqn.mk hNV2
        have m0:=hP2.c _ 0 hgb rfl
        have m1:=hP2.lt _ hgb
        have y0:=hP2.c _ 0 hgx rfl
        have y1:=hP2.c _ 1 hgx rfl
        have y2:=hP2.c _ 2 hgx rfl
        have y3:=hP2.c _ 3 hgx rfl
        have y4:=hP2.c _ 4 hgx rfl
        have yl:=hP2.lt _ hgx
        have HCA:=Lib.hid (fun o=>And.intro ((HP2.out.drew.alloc0 o).c _ 0 hgb rfl) (And.intro ((HP2.out.drew.alloc0 o).c _ 0 hgx rfl) (And.intro ((HP2.out.drew.alloc0 o).c _ 1 hgx rfl) (And.intro ((HP2.out.drew.alloc0 o).c _ 2 hgx rfl) (And.intro ((HP2.out.drew.alloc0 o).c _ 3 hgx rfl) ((HP2.out.drew.alloc0 o).c _ 4 hgx rfl))))))
        have hll:lps.length≤4096:=HLE.out
        clear hI2 hq hP2 hM2 hgb hgr hgx hst hx5 hNV2 HBT z0 z1 zl
        go_wp2_with fail
        refine Lx.regionT (C:=fun Z=>Z.cell? ⟨lg,0,none⟩=some (.slice lA lps.length lc)∧Z.cell? ⟨p15,0,none⟩=some (.int .i64 xa)∧Z.cell? ⟨p15,1,none⟩=some (.int .i64 xb)∧Z.cell? ⟨p15,2,none⟩=some (.int .i64 xc)∧Z.cell? ⟨p15,3,none⟩=some (.int .i64 xd)∧Z.cell? ⟨p15,4,none⟩=some (.int .i64 xe)) (C':=fun _=>True) (hs:=[4,5]) 10 (List.take 10 _) (List.drop 10 _) (List.take_append_drop 10 _).symm rfl (by kernel_rfl) (by kernel_rfl) (by kernel_rfl) ⟨m0,y0,y1,y2,y3,y4⟩ ?_
        simp only[List.take_succ_cons,List.take_zero,List.drop_succ_cons,List.drop_zero]
        repeat' (first|((first|refine Lx.ln (fun K hK=>?_) | (first|(refine Lx.lp (v:=?_) ?_ (fun K hK=>?_);rotate_left 1;intro w' hCw;try dsimp only at hCw) | (refine Lx.lr (v:=?_) ?_ (fun K hK=>?_);rotate_left 1));go_simp;first|done | with_reducible rfl);go_simp;refine hK _ ?_;clear hK K) | (refine Lx.le (fun K hK=>?_);go_simp;(first|skip);refine hK _ _ (by first|exact HCA.out _ | exact⟨m0,y0,y1,y2,y3,y4⟩) ?_;clear hK K))
        refine Lx.lex_append rfl rfl _ _ 23 rfl w.heap.size 67 g0 (.agg #[.int .i64 0,.int .i64 0,.int .i64 0,.int .i64 0,.int .i64 0]) 5 40 Tryz.underlying23 hg0 hg1 hg2 hg3 rfl (by decide) _ _ _ rfl ((HP2.out.drew.row _ HGR.out).alloc _) ⟨W2.heap.size,0,none⟩ 1 1 [.int .i64 xa,.int .i64 xb,.int .i64 xc,.int .i64 xd,.int .i64 xe] rfl rfl (cells_newR W2.drew [.int .i64 xa,.int .i64 xb,.int .i64 xc,.int .i64 xd,.int .i64 xe] 67) (by simp[Value.oneCell']) (by unfold maxLen;omega) (by omega) (by have:=HP2.out.below.size;simp;omega) ?_
        intro v' W3 hown' hgrow hor
        have hP3:=((HP2.out.drew.alloc0 (.cells #[.int .i64 xa,.int .i64 xb,.int .i64 xc,.int .i64 xd,.int .i64 xe] 67)).grow _ HGR.out hgrow hown' hor).base
        have HM3:=Lib.hid ((HP2.out.drew.alloc0 (.cells #[.int .i64 xa,.int .i64 xb,.int .i64 xc,.int .i64 xd,.int .i64 xe] 67)).mapKeep ((HM2.out.congr (rfl:W2.drew.heap[S.mb]?=W2.heap[S.mb]?)).alloc _) (List.mem_of_getElem? HGR.out) hgrow)
        obtain⟨A5,c5,rfl⟩:=hP3.form _ (List.getElem?_set_self (List.getElem?_eq_some_iff.1 HGR.out).1)
        obtain⟨L4,hL4⟩:∃ L4,L4=(arE S D.length NV2 LK2++[Ent.blk p15 67 [.int .i64 xa,.int .i64 xb,.int .i64 xc,.int .i64 xd,.int .i64 xe]]).set (8+D.length+LK2.length+q) (Ent.row (.slice A5 (lps.length+1) c5) 67 5 (lps.length+1) (flat 5 R5.cell lps++[Value.int .i64 xa,Value.int .i64 xb,Value.int .i64 xc,Value.int .i64 xd,Value.int .i64 xe])):=⟨_,rfl⟩
        have hP3:Hp w w W3 L4 []:=by rw[hL4];exact hP3
        have HP3:=Lib.hid hP3
        have hql:=(List.getElem?_eq_some_iff.1 HQ.out).1
        have hl0:(arE S D.length NV2 LK2).length=8+(D.length+(LK2.length+LK2.length)):=by unfold arE;simp[arF];omega
        have gB:L4[8+D.length+q]?=some (Ent.blk lg 147 [.slice lA lps.length lc,.int .u64 lsh]):=by rw[hL4,List.getElem?_set_ne (by omega)];exact HGB.out
        have gX:L4[(arE S D.length NV2 LK2).length]?=some (Ent.blk p15 67 [.int .i64 xa,.int .i64 xb,.int .i64 xc,.int .i64 xd,.int .i64 xe]):=by rw[hL4,List.getElem?_set_ne (by omega)];exact HGX.out
        have q0':=hP3.c _ 0 gB rfl
        have q1':=hP3.f _ gB
        have q2':=hP3.lt _ gB
        have w0:=hP3.c _ 0 gX rfl
        have w1:=hP3.c _ 1 gX rfl
        have w2:=hP3.c _ 2 gX rfl
        have w3:=hP3.c _ 3 gX rfl
        have w4:=hP3.c _ 4 gX rfl
        have HGB4:=Lib.hid gB
        have HL4:=Eqn.mk hL4
        refine⟨⟨q0',w0,w1,w2,w3,w4⟩,?_⟩
        clear hown' hgrow hor hP3 hL4 gB gX m0 m1 y0 y1 y2 y3 y4 yl hl0 hql
        repeat' (first|((first|refine Lx.ln (fun K hK=>?_) | (first|(refine Lx.lp (v:=?_) ?_ (fun K hK=>?_);rotate_left 1;intro w' hCw;try dsimp only at hCw) | (refine Lx.lr (v:=?_) ?_ (fun K hK=>?_);rotate_left 1));go_simp;first|done | with_reducible rfl);go_simp;refine hK _ ?_;clear hK K) | (refine Lx.le (fun K hK=>?_);go_simp;(first|skip);refine hK _ _ (exact ⟨q0',w0,w1,w2,w3,w4⟩) ?_;clear hK K))
        refine Lx.lex_nil ⟨trivial,?_⟩
        clear w0 w1 w2 w3 w4
        go_simp
        repeat' (first|((first|refine Lx.ln (fun K hK=>?_) | (first|(refine Lx.lp (v:=?_) ?_ (fun K hK=>?_);rotate_left 1;intro w' hCw;try dsimp only at hCw) | (refine Lx.lr (v:=?_) ?_ (fun K hK=>?_);rotate_left 1));go_simp;first|done | with_reducible rfl);go_simp;refine hK _ ?_;clear hK K) | (refine Lx.le (fun K hK=>?_);go_simp;(first|skip);refine hK _ _ (trivial) ?_;clear hK K))
        all_goals (refine Lx.lex_nil ?_)
        obtain⟨V4,hV4⟩:∃ V,V=W3.setCell ⟨lg,0,none⟩ (.slice A5 (lps.length+1) c5):=⟨_,rfl⟩
        have hP4:=HP3.out.set _ 0 (.slice A5 (lps.length+1) c5) HGB4.out
        have hM4:=HP3.out.mapKeep HM3.out (List.mem_of_getElem? HGB4.out) (grownBy_cell W3 lg 0 (.slice A5 (lps.length+1) c5))
        rw[←hV4] at hP4 hM4
        have HP4:Hid (Hp w w V4 (arE S D.length NV2 (LK2.set q ⟨li,lj,lg,A5,c5,lps++[⟨xa,xb,xc,xd,xe⟩],lsh⟩)) []):=Lib.hid (by
         have e:=arE_setL (S:=S) (n:=D.length) (NV:=NV2) HQ.out (l':=⟨li,lj,lg,A5,c5,lps++[⟨xa,xb,xc,xd,xe⟩],lsh⟩) rfl rfl rfl
         rw[←e]
         have hql:=(List.getElem?_eq_some_iff.1 HQ.out).1
         have hl0:(arE S D.length NV2 LK2).length=8+(D.length+(LK2.length+LK2.length)):=by unfold arE;simp[arF];omega
         have e2:L4.set (8+D.length+q) (Ent.blk lg 147 ([Value.slice lA lps.length lc,Value.int .u64 lsh].set 0 (.slice A5 (lps.length+1) c5)))=(((arE S D.length NV2 LK2).set (8+D.length+LK2.length+q) (lkR ⟨li,lj,lg,A5,c5,lps++[⟨xa,xb,xc,xd,xe⟩],lsh⟩)).set (8+D.length+q) (lkB ⟨li,lj,lg,A5,c5,lps++[⟨xa,xb,xc,xd,xe⟩],lsh⟩))++[Ent.blk p15 67 [.int .i64 xa,.int .i64 xb,.int .i64 xc,.int .i64 xd,.int .i64 xe]]:=by
          rw[HL4.out,List.set_append_left _ _ (by omega),List.set_append_left _ _ (by rw[List.length_set];omega)]
          unfold lkR lkB
          rw[flat_snoc,List.length_append]
          rfl
         rw[e2] at hP4
         exact(hP4.sub (List.sublist_append_left _ _)).base)
        have HM4:Hid (MapF enc2 V4 mb (lkM (LK2.set q ⟨li,lj,lg,A5,c5,lps++[⟨xa,xb,xc,xd,xe⟩],lsh⟩))):=Lib.hid (by
         have e3:=lkM_set (LK:=LK2) (q:=q) (l:=⟨li,lj,lg,lA,lc,lps,lsh⟩) (l':=(⟨li,lj,lg,A5,c5,lps++[(⟨xa,xb,xc,xd,xe⟩:R5)],lsh⟩:Lk)) HQ.out rfl rfl rfl
         rw[e3]
         have e:S.mb=mb:=by rw[HSE.out]
         rw[←e];exact hM4)
        have HI4:=Lib.hid (HI2.out.pair HPR.out.nd HQ.out (x:=⟨xa,xb,xc,xd,xe⟩) HX5.out A5 c5)
        clear hP4 hM4 q0' q1' q2' HP3 HM3 HP2 HM2 HCA
        go_wp2_with fail
        rw[←hV4]
        clear hV4
        go_roundw
        case rel=>exact⟨kp+1,NV2,_,hkpl,by go_num,HNV2.out,by rw[HTP.out];exact HI4.out,HM4.out,HP4.out⟩
        case measure=>simp[intOf];omega
       ·obtain rfl:kp=n0:=by omega
        have j4:¬((kp:Nat):Int)<(kp:Int):=by omega
        obtain⟨we,rfl⟩:∃ we:World,we=wr:=⟨_,rfl⟩
        have hI0:LkI D r.caps r.pairs (r.loads.take 0) LK:=by
         have hpl:r.pairs.length=kp:=HPA.out.2.1.1
         rw[List.take_of_length_le (by omega)] at hI
         rw[List.take_zero];exact hI
        have HPS:=Lib.hid hP
        have HMS:=Lib.hid hM
        have HIS:=Lib.hid hI0
        have HNS:=Eqn.mk hNV
        have a0:=hP.c 7 2 (by rw[HSE.out];rfl) rfl
        have a1:=hP.lt 7 (by rw[HSE.out];rfl)
        clear hP hM hI0 hI hNV
        go_wp2_with fail
        clear a0 a1
        go_loopw [125] (fun kv wr=>∃(kp:Nat) (NV:List NH) (LK:List Lk),kp≤n1∧kv=.int .i64 kp∧NV.length=D.length∧LkI D r.caps r.pairs (r.loads.take kp) LK∧MapF enc2 wr mb (lkM LK)∧Hp w w wr (arE S D.length NV LK) []) (fun kv _=>n1 - (intOf kv).toNat)
        case atStart=>exact⟨0,NV,LK,Nat.zero_le _,rfl,HNS.out,HIS.out,HMS.out,HPS.out⟩
        case round=>
         clear HMS HPS HIS HNS
         obtain⟨kq,NV,LK,hkq,rfl,hNV,hI,hM,hP⟩:=hrel
         by_cases hkql:kq<n1
         ·have j5:(kq:Int)<(n1:Int):=by omega
          have hll:r.loads.length=n1:=HPA.out.2.2.1.1
          have hn1:n1≤1024:=by rw[←hll];exact HPJ.out.ll
          obtain⟨x,hx⟩:∃ x,r.loads[kq]?=some x:=⟨_,List.getElem?_eq_getElem (by omega)⟩
          have hxm:=List.mem_of_getElem? hx
          have hxx:=HPJ.out.lds x hxm
          have HTP:Hid (r.loads.take (kq+1)=r.loads.take kq++[x]):=Lib.hid (by rw[List.take_add_one,hx];rfl)
          obtain⟨b3,o3,rfl,hb3,hcell⟩:=(HPA.out.2.2.1.below hP.below).2 (by show 0<n1;omega)
          have y0:wr.cell? ⟨b3,o3+kq * 5,none⟩=some (.int .i64 x.a):=hcell kq x hx 0 (by decide)
          have y1:wr.cell? ⟨b3,o3+kq * 5+1,none⟩=some (.int .i64 x.b):=hcell kq x hx 1 (by decide)
          have y2:wr.cell? ⟨b3,o3+kq * 5+2,none⟩=some (.int .i64 x.c):=hcell kq x hx 2 (by decide)
          have y3:wr.cell? ⟨b3,o3+kq * 5+3,none⟩=some (.int .i64 x.d):=hcell kq x hx 3 (by decide)
          have y4:wr.cell? ⟨b3,o3+kq * 5+4,none⟩=some (.int .i64 x.e):=hcell kq x hx 4 (by decide)
          obtain⟨V1,hV1⟩:∃ V,V=wr.alloc (.cells #[.int .i64 x.a,.int .i64 x.b,.int .i64 x.c,.int .i64 x.d,.int .i64 x.e] 69):=⟨_,rfl⟩
          obtain⟨p18,hp18⟩:∃ p,p=wr.heap.size:=⟨_,rfl⟩
          have hP1:=hP.alloc [.int .i64 x.a,.int .i64 x.b,.int .i64 x.c,.int .i64 x.d,.int .i64 x.e] 69
          rw[show ([.int .i64 x.a,.int .i64 x.b,.int .i64 x.c,.int .i64 x.d,.int .i64 x.e]:List Value).toArray=#[.int .i64 x.a,.int .i64 x.b,.int .i64 x.c,.int .i64 x.d,.int .i64 x.e] from rfl,←hV1,←hp18] at hP1
          have hM1:MapF enc2 V1.drew S.mb (lkM LK):=by rw[hV1,HSE.out];exact(hM.alloc _).congr rfl
          have HBT:=Lib.hid (between_any hP1.drew.base hM1 (by rw[HSE.out];exact HLO.out) hI hNV (by rw[HSE.out]) HPR.out.nd HUP.out HPJ.out.st hlen hxx.1.1 hxx.1.2 hxx.2.1 (fun kk hkk=>HNB.out hI kk hkk))
          have hga:=hxx.1.1
          have hg0:=HPJ.out.st _ hga
          obtain⟨m,hm⟩:∃ m:Nat,x.a=(m:Int):=⟨x.a.toNat,by omega⟩
          have hm512:m<512:=by omega
          obtain⟨CP,hCP⟩:∃ CP,(cpK r.caps k)[m]?=some CP:=⟨_,List.getElem?_eq_getElem (by rw[cpK_len];exact hm512)⟩
          have HCPm:Hid (((cpK r.caps k).map u64V)[m]?=some (.int .u64 (CP:Nat))):=Lib.hid (by rw[List.getElem?_map,hCP];rfl)
          have HCPv:=Lib.hid hCP
          have z0:=hP1.c _ 0 (List.getElem?_concat_length ..) rfl
          have z1:=hP1.c _ 1 (List.getElem?_concat_length ..) rfl
          have z2:=hP1.c _ 3 (List.getElem?_concat_length ..) rfl
          have z3:=hP1.c _ 4 (List.getElem?_concat_length ..) rfl
          have zl:=hP1.lt _ (List.getElem?_concat_length ..)
          have hg6:∀(NV:List NH) (LK:List Lk) (X:List Ent),(arE S D.length NV LK++X)[6]?=some (Ent.blk p9 142 ((cpK r.caps k).map u64V)):=fun NV LK X=>by rw[HSE.out];rfl
          have z4:=hP1.c 6 m (hg6 _ _ _) HCPm.out
          have z5:=hP1.lt 6 (hg6 _ _ _)
          have HG6:=Lib.hid hg6
          have hpt:S.pt=pt:=by rw[HSE.out]
          have hlm:S.lm=lm:=by rw[HSE.out]
          rw[hpt,hlm] at HBT
          have HXX:=Lib.hid hxx
          have HSP:=Lib.hid (fun W=>span_any x.d x.e W (by omega))
          obtain⟨SP,hSP⟩:∃ SP,SP=spN x.d x.e:=⟨_,rfl⟩
          rw[←hSP] at HSP
          have HSPE:=Eqn.mk hSP
          have HS64:Hid (SP<18446744073709551616):=Lib.hid (by rw[hSP];exact sp_lt (by omega))
          have HC64:Hid (CP<18446744073709551616):=Lib.hid (cpK_lt (fun x hx=>(HPJ.out.cps x hx).2) k CP (List.mem_of_getElem? hCP))
          have e7:bits .and .u64 (SP:Int) (CP:Int)=((SP &&& CP:Nat):Int):=bits_and_u64_nat _ _ HS64.out HC64.out
          obtain⟨xa,xb,xc,xd,xe⟩:=x
          dsimp only at *
          subst hm
          have j6:(m:Int)<512:=by omega
          clear hcell hx hxm hxx hll hP hP1 hM hM1 hI hNV hpt hlm hg6 hCP hSP hga hg0
          go_upto_region 31 with fail
          rw[←hV1,←hp18]
          clear hV1 hp18 y0 y1 y2 y3 y4
          go_wp2_with fail
          refine Lx.regionA (C:=fun Z=>Z.cell? ⟨p18,0,none⟩=some (.int .i64 m)∧Z.cell? ⟨p18,1,none⟩=some (.int .i64 xb)∧Z.cell? ⟨p18,3,none⟩=some (.int .i64 xd)∧Z.cell? ⟨p18,4,none⟩=some (.int .i64 xe)∧Z.cell? ⟨p9,m,none⟩=some (.int .u64 (CP:Nat))) (hs:=[2,4,10,12,15,17,1008]) (.op 0 (.op 1 (.op 2 (.op 3 (.op 4 (.op 5 (.op 6 (.op 7 (.alt (.op 8 (.op 9 (.op 10 (.op 11 (.op 12 (.op 13 (.op 14 (.op 15 (.op 16 (.op 17 (.op 18 (.op 19 (.op 20 (.op 21 (.op 22 .done))))))))))))))) (.op 9 (.op 10 (.op 11 (.op 12 (.op 13 (.op 8 (.op 14 (.op 15 (.op 16 (.op 17 (.op 18 (.op 19 (.op 20 (.op 21 (.op 22 .done)))))))))))))))))))))))) (by kernel_rfl) (by kernel_rfl) ⟨z0,z1,z2,z3,z4⟩ ?_
          dsimp only[Lx.numbT,List.getElem?_cons_zero,List.getElem?_cons_succ]
          repeat' (first|((first|refine Lx.qn (fun K hK=>?_) | (first|(refine Lx.qp (v:=?_) ?_ (fun K hK=>?_);rotate_left 1;intro w' hCw;try dsimp only at hCw) | (refine Lx.qr (v:=?_) ?_ (fun K hK=>?_);rotate_left 1));go_simp;first|done | with_reducible rfl);go_simp;refine hK _ ?_;clear hK K) | (refine Lx.qe (fun K hK=>?_);go_simp;(first|(go_at_call 88;refine HBT.out.mono ?_;rintro e W2 ⟨NV2,LK2,q,l,rfl,hq,hst,hNV2,hI2,hP2,hM2⟩;obtain⟨li,lj,lg,lA,lc,lps,lsh⟩:=l;have hgb:=app_get (X:=[Ent.blk p18 69 [.int .i64 m,.int .i64 xb,.int .i64 xc,.int .i64 xd,.int .i64 xe]]) (arE_blk (S:=S) (n:=D.length) (NV:=NV2) hq);have hgx:=List.getElem?_concat_length (l:=arE S D.length NV2 LK2) (a:=Ent.blk p18 69 [.int .i64 m,.int .i64 xb,.int .i64 xc,.int .i64 xd,.int .i64 xe]);have hne:=arE_ne (S:=S) (NV:=NV2) (n:=D.length) hq;unfold lkB at hgb;dsimp only at hgb hst;have HOR:=Lib.hid (bits_or_u64_nat lsh (SP &&& CP) (hI2.sh _ (List.mem_of_getElem? hq)).1 (Nat.lt_of_le_of_lt Nat.and_le_left HS64.out));have HI2:=Lib.hid hI2;have HQ:=Lib.hid hq;have HP2:=Lib.hid hP2;have HM2:=Lib.hid hM2;have HGB:=Lib.hid hgb;have HGX:=Lib.hid hgx;have HST2:=Lib.hid hst;have HNE:=Lib.hid hne;have HNV2:=Eqn.mk hNV2;have m0:=hP2.c _ 1 hgb rfl;have m1:=hP2.lt _ hgb;have r0:=hP2.c _ 0 hgx rfl;have r1:=hP2.c _ 1 hgx rfl;have r2:=hP2.c _ 3 hgx rfl;have r3:=hP2.c _ 4 hgx rfl;have r4:=hP2.c 6 m (HG6.out _ _ _) HCPm.out;clear hI2 hq hP2 hM2 hgb hgx hst hNV2 hne HBT) | (go_at_call 87;refine(HSP.out _).mono ?_;rintro e W3 ⟨rfl,hb7⟩;have hP3:=(HP2.out.keep hb7).base;have s0:=hP3.c _ 0 HGX.out rfl;have s1:=hP3.c _ 1 HGX.out rfl;have s2:=hP3.c _ 3 HGX.out rfl;have s3:=hP3.c _ 4 HGX.out rfl;have s4:=hP3.c 6 m (HG6.out _ _ _) HCPm.out;have u0:=hP3.c _ 1 HGB.out rfl;have u1:=hP3.lt _ HGB.out;have u2:=hP3.f _ HGB.out;have HCS:=Lib.hid (fun v=>And.intro (hP3.setOther HGB.out HGX.out HNE.out.1 1 v (o:=0) rfl) (And.intro (hP3.setOther HGB.out HGX.out HNE.out.1 1 v (o:=1) rfl) (And.intro (hP3.setOther HGB.out HGX.out HNE.out.1 1 v (o:=3) rfl) (And.intro (hP3.setOther HGB.out HGX.out HNE.out.1 1 v (o:=4) rfl) (hP3.setOther HGB.out (HG6.out _ _ _) HNE.out.2 1 v (o:=m) HCPm.out)))));have HP3:=Lib.hid hP3;have HM3:=Lib.hid (HM2.out.below hb7 HM2.out.lt);clear hb7 hP3) | (go_at_call 87;refine(HSP.out _).mono ?_;rintro e W3 ⟨rfl,hb7⟩;have hP3:=(HP2.out.drew.keep hb7).base;have s0:=hP3.c _ 0 HGX.out rfl;have s1:=hP3.c _ 1 HGX.out rfl;have s2:=hP3.c _ 3 HGX.out rfl;have s3:=hP3.c _ 4 HGX.out rfl;have s4:=hP3.c 6 m (HG6.out _ _ _) HCPm.out;have u0:=hP3.c _ 1 HGB.out rfl;have u1:=hP3.lt _ HGB.out;have u2:=hP3.f _ HGB.out;have HCS:=Lib.hid (fun v=>And.intro (hP3.setOther HGB.out HGX.out HNE.out.1 1 v (o:=0) rfl) (And.intro (hP3.setOther HGB.out HGX.out HNE.out.1 1 v (o:=1) rfl) (And.intro (hP3.setOther HGB.out HGX.out HNE.out.1 1 v (o:=3) rfl) (And.intro (hP3.setOther HGB.out HGX.out HNE.out.1 1 v (o:=4) rfl) (hP3.setOther HGB.out (HG6.out _ _ _) HNE.out.2 1 v (o:=m) HCPm.out)))));have HP3:=Lib.hid hP3;have HM3:=Lib.hid (HM2.out.below hb7 HM2.out.lt);clear hb7 hP3) | skip | skip);refine hK _ _ (by first|exact⟨z0,z1,z2,z3,z4⟩ | exact⟨s0,s1,s2,s3,s4⟩ | exact⟨r0,r1,r2,r3,r4⟩ | exact HCS.out _) ?_;clear hK K))
          refine Lx.lexO_alt ?_ ?_
          ·skip
           repeat' (first|((first|refine Lx.qn (fun K hK=>?_) | (first|(refine Lx.qp (v:=?_) ?_ (fun K hK=>?_);rotate_left 1;intro w' hCw;try dsimp only at hCw) | (refine Lx.qr (v:=?_) ?_ (fun K hK=>?_);rotate_left 1));go_simp;first|done | with_reducible rfl);go_simp;refine hK _ ?_;clear hK K) | (refine Lx.qe (fun K hK=>?_);go_simp;(first|(go_at_call 88;refine HBT.out.mono ?_;rintro e W2 ⟨NV2,LK2,q,l,rfl,hq,hst,hNV2,hI2,hP2,hM2⟩;obtain⟨li,lj,lg,lA,lc,lps,lsh⟩:=l;have hgb:=app_get (X:=[Ent.blk p18 69 [.int .i64 m,.int .i64 xb,.int .i64 xc,.int .i64 xd,.int .i64 xe]]) (arE_blk (S:=S) (n:=D.length) (NV:=NV2) hq);have hgx:=List.getElem?_concat_length (l:=arE S D.length NV2 LK2) (a:=Ent.blk p18 69 [.int .i64 m,.int .i64 xb,.int .i64 xc,.int .i64 xd,.int .i64 xe]);have hne:=arE_ne (S:=S) (NV:=NV2) (n:=D.length) hq;unfold lkB at hgb;dsimp only at hgb hst;have HOR:=Lib.hid (bits_or_u64_nat lsh (SP &&& CP) (hI2.sh _ (List.mem_of_getElem? hq)).1 (Nat.lt_of_le_of_lt Nat.and_le_left HS64.out));have HI2:=Lib.hid hI2;have HQ:=Lib.hid hq;have HP2:=Lib.hid hP2;have HM2:=Lib.hid hM2;have HGB:=Lib.hid hgb;have HGX:=Lib.hid hgx;have HST2:=Lib.hid hst;have HNE:=Lib.hid hne;have HNV2:=Eqn.mk hNV2;have m0:=hP2.c _ 1 hgb rfl;have m1:=hP2.lt _ hgb;have r0:=hP2.c _ 0 hgx rfl;have r1:=hP2.c _ 1 hgx rfl;have r2:=hP2.c _ 3 hgx rfl;have r3:=hP2.c _ 4 hgx rfl;have r4:=hP2.c 6 m (HG6.out _ _ _) HCPm.out;clear hI2 hq hP2 hM2 hgb hgx hst hNV2 hne HBT) | (go_at_call 87;refine(HSP.out _).mono ?_;rintro e W3 ⟨rfl,hb7⟩;have hP3:=(HP2.out.keep hb7).base;have s0:=hP3.c _ 0 HGX.out rfl;have s1:=hP3.c _ 1 HGX.out rfl;have s2:=hP3.c _ 3 HGX.out rfl;have s3:=hP3.c _ 4 HGX.out rfl;have s4:=hP3.c 6 m (HG6.out _ _ _) HCPm.out;have u0:=hP3.c _ 1 HGB.out rfl;have u1:=hP3.lt _ HGB.out;have u2:=hP3.f _ HGB.out;have HCS:=Lib.hid (fun v=>And.intro (hP3.setOther HGB.out HGX.out HNE.out.1 1 v (o:=0) rfl) (And.intro (hP3.setOther HGB.out HGX.out HNE.out.1 1 v (o:=1) rfl) (And.intro (hP3.setOther HGB.out HGX.out HNE.out.1 1 v (o:=3) rfl) (And.intro (hP3.setOther HGB.out HGX.out HNE.out.1 1 v (o:=4) rfl) (hP3.setOther HGB.out (HG6.out _ _ _) HNE.out.2 1 v (o:=m) HCPm.out)))));have HP3:=Lib.hid hP3;have HM3:=Lib.hid (HM2.out.below hb7 HM2.out.lt);clear hb7 hP3) | (go_at_call 87;refine(HSP.out _).mono ?_;rintro e W3 ⟨rfl,hb7⟩;have hP3:=(HP2.out.drew.keep hb7).base;have s0:=hP3.c _ 0 HGX.out rfl;have s1:=hP3.c _ 1 HGX.out rfl;have s2:=hP3.c _ 3 HGX.out rfl;have s3:=hP3.c _ 4 HGX.out rfl;have s4:=hP3.c 6 m (HG6.out _ _ _) HCPm.out;have u0:=hP3.c _ 1 HGB.out rfl;have u1:=hP3.lt _ HGB.out;have u2:=hP3.f _ HGB.out;have HCS:=Lib.hid (fun v=>And.intro (hP3.setOther HGB.out HGX.out HNE.out.1 1 v (o:=0) rfl) (And.intro (hP3.setOther HGB.out HGX.out HNE.out.1 1 v (o:=1) rfl) (And.intro (hP3.setOther HGB.out HGX.out HNE.out.1 1 v (o:=3) rfl) (And.intro (hP3.setOther HGB.out HGX.out HNE.out.1 1 v (o:=4) rfl) (hP3.setOther HGB.out (HG6.out _ _ _) HNE.out.2 1 v (o:=m) HCPm.out)))));have HP3:=Lib.hid hP3;have HM3:=Lib.hid (HM2.out.below hb7 HM2.out.lt);clear hb7 hP3) | skip | skip);refine hK _ _ (by first|exact⟨z0,z1,z2,z3,z4⟩ | exact⟨s0,s1,s2,s3,s4⟩ | exact⟨r0,r1,r2,r3,r4⟩ | exact HCS.out _) ?_;clear hK K))
           all_goals (refine Lx.lexO_done ?_)
           obtain⟨V4,hV4⟩:∃ V,V=W3.setCell ⟨lg,1,none⟩ (.int .u64 (bits .or .u64 (lsh:Int) ((SP &&& CP:Nat):Int))):=⟨_,rfl⟩
           have hP4:=HP3.out.set _ 1 (.int .u64 (bits .or .u64 (lsh:Int) ((SP &&& CP:Nat):Int))) HGB.out
           have hM4:=HP3.out.mapKeep HM3.out (List.mem_of_getElem? HGB.out) (grownBy_cell W3 lg 1 (.int .u64 (bits .or .u64 (lsh:Int) ((SP &&& CP:Nat):Int))))
           rw[←hV4] at hP4 hM4
           have HP4:Hid (Hp w w V4 (arE S D.length NV2 (LK2.set q ⟨li,lj,lg,lA,lc,lps,lsh ||| (SP &&& CP)⟩)) []):=Lib.hid (by
            have e:=arE_setB (S:=S) (n:=D.length) (NV:=NV2) HQ.out (l':=(⟨li,lj,lg,lA,lc,lps,lsh ||| (SP &&& CP)⟩:Lk)) rfl rfl rfl rfl
            have hne:=(List.getElem?_eq_some_iff.1 (arE_blk (S:=S) (n:=D.length) (NV:=NV2) HQ.out)).1
            rw[HOR.out,List.set_append_left _ _ hne] at hP4
            rw[←e]
            exact(hP4.sub (List.sublist_append_left _ _)).base)
           have HM4:Hid (MapF enc2 V4 mb (lkM (LK2.set q ⟨li,lj,lg,lA,lc,lps,lsh ||| (SP &&& CP)⟩))):=Lib.hid (by
            have e3:=lkM_set (LK:=LK2) (q:=q) (l:=⟨li,lj,lg,lA,lc,lps,lsh⟩) (l':=(⟨li,lj,lg,lA,lc,lps,lsh ||| (SP &&& CP)⟩:Lk)) HQ.out rfl rfl rfl
            rw[e3]
            have e:S.mb=mb:=by rw[HSE.out]
            rw[←e];exact hM4)
           have HI4:=Lib.hid (HI2.out.load HPR.out.nd HQ.out (x:=⟨m,xb,xc,xd,xe⟩) HST2.out (fun a b hab hb=>st_up HUP.out hab hb) (M:=SP &&& CP) (Nat.lt_of_le_of_lt Nat.and_le_left HS64.out) (fun c hc1 hc2=>by
            obtain⟨cn,rfl⟩:∃ cn:Nat,c=(cn:Int):=⟨c.toNat,by omega⟩
            rw[Int.toNat_natCast,Nat.testBit_and,cpK_tb HPJ.out.cps hm512 (by rw[HPA.out.2.2.2.1.1];exact Nat.le_refl _) HCPv.out cn,HSPE.out,sp_tb (by have:=HXX.out.2.2;omega),Bool.and_assoc]))
           clear hP4 hM4 u0 u1 u2 s0 s1 s2 s3 s4 r0 r1 r2 r3 r4 m0 m1 HP3 HM3 HP2 HM2 HCS
           go_wp2_with fail
           rw[←hV4]
           clear hV4
           go_roundw
           case rel=>exact⟨kq+1,NV2,_,hkql,by go_num,HNV2.out,by rw[HTP.out];exact HI4.out,HM4.out,HP4.out⟩
           case measure=>simp[intOf];omega
          ·skip
           repeat' (first|((first|refine Lx.qn (fun K hK=>?_) | (first|(refine Lx.qp (v:=?_) ?_ (fun K hK=>?_);rotate_left 1;intro w' hCw;try dsimp only at hCw) | (refine Lx.qr (v:=?_) ?_ (fun K hK=>?_);rotate_left 1));go_simp;first|done | with_reducible rfl);go_simp;refine hK _ ?_;clear hK K) | (refine Lx.qe (fun K hK=>?_);go_simp;(first|(go_at_call 88;refine HBT.out.mono ?_;rintro e W2 ⟨NV2,LK2,q,l,rfl,hq,hst,hNV2,hI2,hP2,hM2⟩;obtain⟨li,lj,lg,lA,lc,lps,lsh⟩:=l;have hgb:=app_get (X:=[Ent.blk p18 69 [.int .i64 m,.int .i64 xb,.int .i64 xc,.int .i64 xd,.int .i64 xe]]) (arE_blk (S:=S) (n:=D.length) (NV:=NV2) hq);have hgx:=List.getElem?_concat_length (l:=arE S D.length NV2 LK2) (a:=Ent.blk p18 69 [.int .i64 m,.int .i64 xb,.int .i64 xc,.int .i64 xd,.int .i64 xe]);have hne:=arE_ne (S:=S) (NV:=NV2) (n:=D.length) hq;unfold lkB at hgb;dsimp only at hgb hst;have HOR:=Lib.hid (bits_or_u64_nat lsh (SP &&& CP) (hI2.sh _ (List.mem_of_getElem? hq)).1 (Nat.lt_of_le_of_lt Nat.and_le_left HS64.out));have HI2:=Lib.hid hI2;have HQ:=Lib.hid hq;have HP2:=Lib.hid hP2;have HM2:=Lib.hid hM2;have HGB:=Lib.hid hgb;have HGX:=Lib.hid hgx;have HST2:=Lib.hid hst;have HNE:=Lib.hid hne;have HNV2:=Eqn.mk hNV2;have m0:=hP2.c _ 1 hgb rfl;have m1:=hP2.lt _ hgb;have r0:=hP2.c _ 0 hgx rfl;have r1:=hP2.c _ 1 hgx rfl;have r2:=hP2.c _ 3 hgx rfl;have r3:=hP2.c _ 4 hgx rfl;have r4:=hP2.c 6 m (HG6.out _ _ _) HCPm.out;clear hI2 hq hP2 hM2 hgb hgx hst hNV2 hne HBT) | (go_at_call 87;refine(HSP.out _).mono ?_;rintro e W3 ⟨rfl,hb7⟩;have hP3:=(HP2.out.keep hb7).base;have s0:=hP3.c _ 0 HGX.out rfl;have s1:=hP3.c _ 1 HGX.out rfl;have s2:=hP3.c _ 3 HGX.out rfl;have s3:=hP3.c _ 4 HGX.out rfl;have s4:=hP3.c 6 m (HG6.out _ _ _) HCPm.out;have u0:=hP3.c _ 1 HGB.out rfl;have u1:=hP3.lt _ HGB.out;have u2:=hP3.f _ HGB.out;have HCS:=Lib.hid (fun v=>And.intro (hP3.setOther HGB.out HGX.out HNE.out.1 1 v (o:=0) rfl) (And.intro (hP3.setOther HGB.out HGX.out HNE.out.1 1 v (o:=1) rfl) (And.intro (hP3.setOther HGB.out HGX.out HNE.out.1 1 v (o:=3) rfl) (And.intro (hP3.setOther HGB.out HGX.out HNE.out.1 1 v (o:=4) rfl) (hP3.setOther HGB.out (HG6.out _ _ _) HNE.out.2 1 v (o:=m) HCPm.out)))));have HP3:=Lib.hid hP3;have HM3:=Lib.hid (HM2.out.below hb7 HM2.out.lt);clear hb7 hP3) | (go_at_call 87;refine(HSP.out _).mono ?_;rintro e W3 ⟨rfl,hb7⟩;have hP3:=(HP2.out.drew.keep hb7).base;have s0:=hP3.c _ 0 HGX.out rfl;have s1:=hP3.c _ 1 HGX.out rfl;have s2:=hP3.c _ 3 HGX.out rfl;have s3:=hP3.c _ 4 HGX.out rfl;have s4:=hP3.c 6 m (HG6.out _ _ _) HCPm.out;have u0:=hP3.c _ 1 HGB.out rfl;have u1:=hP3.lt _ HGB.out;have u2:=hP3.f _ HGB.out;have HCS:=Lib.hid (fun v=>And.intro (hP3.setOther HGB.out HGX.out HNE.out.1 1 v (o:=0) rfl) (And.intro (hP3.setOther HGB.out HGX.out HNE.out.1 1 v (o:=1) rfl) (And.intro (hP3.setOther HGB.out HGX.out HNE.out.1 1 v (o:=3) rfl) (And.intro (hP3.setOther HGB.out HGX.out HNE.out.1 1 v (o:=4) rfl) (hP3.setOther HGB.out (HG6.out _ _ _) HNE.out.2 1 v (o:=m) HCPm.out)))));have HP3:=Lib.hid hP3;have HM3:=Lib.hid (HM2.out.below hb7 HM2.out.lt);clear hb7 hP3) | skip | skip);refine hK _ _ (by first|exact⟨z0,z1,z2,z3,z4⟩ | exact⟨s0,s1,s2,s3,s4⟩ | exact⟨r0,r1,r2,r3,r4⟩ | exact HCS.out _) ?_;clear hK K))
           all_goals (refine Lx.lexO_done ?_)
           obtain⟨V4,hV4⟩:∃ V,V=W3.setCell ⟨lg,1,none⟩ (.int .u64 (bits .or .u64 (lsh:Int) ((SP &&& CP:Nat):Int))):=⟨_,rfl⟩
           have hP4:=HP3.out.set _ 1 (.int .u64 (bits .or .u64 (lsh:Int) ((SP &&& CP:Nat):Int))) HGB.out
           have hM4:=HP3.out.mapKeep HM3.out (List.mem_of_getElem? HGB.out) (grownBy_cell W3 lg 1 (.int .u64 (bits .or .u64 (lsh:Int) ((SP &&& CP:Nat):Int))))
           rw[←hV4] at hP4 hM4
           have HP4:Hid (Hp w w V4 (arE S D.length NV2 (LK2.set q ⟨li,lj,lg,lA,lc,lps,lsh ||| (SP &&& CP)⟩)) []):=Lib.hid (by
            have e:=arE_setB (S:=S) (n:=D.length) (NV:=NV2) HQ.out (l':=(⟨li,lj,lg,lA,lc,lps,lsh ||| (SP &&& CP)⟩:Lk)) rfl rfl rfl rfl
            have hne:=(List.getElem?_eq_some_iff.1 (arE_blk (S:=S) (n:=D.length) (NV:=NV2) HQ.out)).1
            rw[HOR.out,List.set_append_left _ _ hne] at hP4
            rw[←e]
            exact(hP4.sub (List.sublist_append_left _ _)).base)
           have HM4:Hid (MapF enc2 V4 mb (lkM (LK2.set q ⟨li,lj,lg,lA,lc,lps,lsh ||| (SP &&& CP)⟩))):=Lib.hid (by
            have e3:=lkM_set (LK:=LK2) (q:=q) (l:=⟨li,lj,lg,lA,lc,lps,lsh⟩) (l':=(⟨li,lj,lg,lA,lc,lps,lsh ||| (SP &&& CP)⟩:Lk)) HQ.out rfl rfl rfl
            rw[e3]
            have e:S.mb=mb:=by rw[HSE.out]
            rw[←e];exact hM4)
           have HI4:=Lib.hid (HI2.out.load HPR.out.nd HQ.out (x:=⟨m,xb,xc,xd,xe⟩) HST2.out (fun a b hab hb=>st_up HUP.out hab hb) (M:=SP &&& CP) (Nat.lt_of_le_of_lt Nat.and_le_left HS64.out) (fun c hc1 hc2=>by
            obtain⟨cn,rfl⟩:∃ cn:Nat,c=(cn:Int):=⟨c.toNat,by omega⟩
            rw[Int.toNat_natCast,Nat.testBit_and,cpK_tb HPJ.out.cps hm512 (by rw[HPA.out.2.2.2.1.1];exact Nat.le_refl _) HCPv.out cn,HSPE.out,sp_tb (by have:=HXX.out.2.2;omega),Bool.and_assoc]))
           clear hP4 hM4 u0 u1 u2 s0 s1 s2 s3 s4 r0 r1 r2 r3 r4 m0 m1 HP3 HM3 HP2 HM2 HCS
           go_wp2_with fail
           rw[←hV4]
           clear hV4
           go_roundw
           case rel=>exact⟨kq+1,NV2,_,hkql,by go_num,HNV2.out,by rw[HTP.out];exact HI4.out,HM4.out,HP4.out⟩
           case measure=>simp[intOf];omega
         ·obtain rfl:kq=n1:=by omega
          have j5:¬((kq:Nat):Int)<(kq:Int):=by omega
          have HFIN:Hid (TabR wr tb D LK∧LkAll D r LK∧Below w.heap.size w wr):=Lib.hid (by
           have hI9:LkI D r.caps r.pairs r.loads LK:=by
            have hll:r.loads.length=kq:=HPA.out.2.2.1.1
            rw[List.take_of_length_le (by omega)] at hI
            exact hI
           have e:S.tb=tb:=by rw[HSE.out]
           have e1:(D.map Prod.fst).map intV=(stK D D.length).map intV:=by unfold stK;rw[List.take_of_length_le (by rw[List.length_map];exact Nat.le_refl _),Nat.sub_self,List.replicate_zero,List.append_nil]
           have e2:(D.map fun d=>stS d.2).map u64V=(dmK D D.length).map u64V:=by unfold dmK;rw[List.take_of_length_le (by rw[List.length_map];exact Nat.le_refl _),Nat.sub_self,List.replicate_zero,List.append_nil]
           have ht:=tab_read hP hI9 hNV (by rw[HSE.out]) (by rw[e1,HSE.out]) (by rw[e2,HSE.out]) HPR.out.nd HPJ.out.st
           rw[e] at ht
           exact⟨ht,lk_all hI9 HPR.out HUP.out HPJ.out.pl,hP.below⟩)
          have a0:=hP.c 1 0 (by rw[HSE.out];rfl) rfl
          have a1:=hP.lt 1 (by rw[HSE.out];rfl)
          clear hP hM hI hNV
          go_wp2_with fail
          go_ret
          exact⟨tb,LK,rfl,by rw[←HD.out];exact HFIN.out.1,by rw[←HD.out];exact HFIN.out.2.1,HFIN.out.2.2⟩
end Go.Proofs.YtjakdikhdndlgaaGreatDoor
