/- Lemmas of the proof, part 19. Conditions: none. -/
import Derived.Test.YtjakdikhdndlgaaGreatDoorBas16
set_option maxRecDepth 100000
set_option maxHeartbeats 8000000
namespace Go.Proofs.YtjakdikhdndlgaaGreatDoor
open Go.RowKit
structure BtI (a b:Int) (TB:List Value) (i j n s2:Nat):Prop where
 lo:∃ x:Nat,(if b<a then b else a)=(x:Int)∧x<512∧TB[3+x]?=some (.int .i64 ((i:Int)+1))
 hi:∃ y:Nat,(if a<b then b else a)=(y:Int)∧y<512∧TB[3+y]?=some (.int .i64 ((j:Int)+1))
 nr:TB[2]?=some (.slice (some ⟨s2,0,none⟩) n n)
 il:i<n
 jl:j<n
 nl:n≤512
theorem between_old {w W:World} {L:List Ent} (h:Hp w w W L []) {tb pt lm mb s2 n i j g:Nat} {TB:List Value} {a b:Int} (h0:L[0]?=some (.blk tb 91 TB)) (h1:L[1]?=some (.blk pt 85 [.pointer (some ⟨tb,0,none⟩)]))
  (h3:L[3]?=some (.blk lm 144 [.map (some mb)])) (hB:BtI a b TB i j n s2) {f:Int×Int→Option Value} (hm:MapF enc2 W mb f) (hf:f ((i:Int),(j:Int))=some (.pointer (some ⟨g,0,none⟩))):
  Calls Tryz.prog 88 #[.int .i64 a,.int .i64 b,.pointer (some ⟨pt,0,none⟩),.pointer (some ⟨lm,0,none⟩)] W (RetPost (.pointer (some ⟨g,0,none⟩)) W.heap.size W):=by
 obtain⟨⟨x,hx,hxl,hxc⟩,⟨y,hy,hyl,hyc⟩,hn,hil,hjl,hnl⟩:=hB
 have c0:=h.c 0 (3+x) h0 hxc
 have c1:=h.c 0 (3+y) h0 hyc
 have l0:=h.lt 0 h0
 have c2:=h.c 1 0 h1 rfl
 have l1:=h.lt 1 h1
 have c3:=h.c 3 0 h3 rfl
 have l3:=h.lt 3 h3
 have hrun:=run_lookF (P:=Tryz.prog) (et:=103) two_key Tryz.underlying144 (w:=W.drew) (hm.congr rfl) (z:=.pointer none) (by kernel_rfl) ((i:Int),(j:Int))
 rw[hf] at hrun
 simp only[enc2,Option.getD_some] at hrun
 have e1:IntKind.i64.wrap ((i:Int)+1 - 1)=(i:Int):=by rw[IntWalk.i64_in _ (by omega)];omega
 have e2:IntKind.i64.wrap ((j:Int)+1 - 1)=(j:Int):=by rw[IntWalk.i64_in _ (by omega)];omega
 have e3:(i:Int)+1 - 1=(i:Int):=by omega
 have e4:(j:Int)+1 - 1=(j:Int):=by omega
 have j1:(x:Int)<512:=by omega
 have j2:(y:Int)<512:=by omega
 clear h hm hf hxc hyc hn
 go_enter Tryz.func88,Tryz.ntmps88
 go_wp2_with fail
 refine Lx.region (C:=fun _=>True) (hs:=[]) (by kernel_rfl) (by kernel_rfl) trivial ?_
 repeat' (first|((first|refine Lx.ln (fun K hK=>?_) | (first|(refine Lx.lp (v:=?_) ?_ (fun K hK=>?_);rotate_left 1;intro w' hCw;try dsimp only at hCw) | (refine Lx.lr (v:=?_) ?_ (fun K hK=>?_);rotate_left 1));go_simp;first|done | with_reducible rfl);go_simp;refine hK _ ?_;clear hK K) | (refine Lx.le (fun K hK=>?_);go_simp;(first|fail | skip);refine hK _ _ (trivial) ?_;clear hK K) | (refine Lx.lex_cases rfl rfl rfl (fun hgd K hK=>?_) (fun hgd K hK=>?_)<;>(try simp only[decide_eq_true_eq,decide_eq_false_iff_not] at hgd)<;>(first|(exfalso;omega) | (go_simp;refine hK _ ?_;clear hK K))))
 all_goals (refine Lx.lex_nil ?_)
 go_wp2_with fail
 go_ret
 exact⟨rfl,(Below.refl _ _).drew⟩
def btL (L:List Ent) (pi pj s2 g _n i j:Nat) (NS:List Value) (Ai Aj:Option Addr) (ni nj ci cj:Nat) (xi xj:List Value):List Ent:=
 ((((L++[Ent.blk g 147 [.slice none 0 0,.int .u64 0]]).set pi (Ent.row (.slice Ai (ni+1) ci) 105 3 (ni+1) (xi++[Value.int .i64 j,Value.bool true,Value.pointer (some ⟨g,0,none⟩)]))).set 2 (Ent.blk s2 102 (NS.set i (Value.slice Ai (ni+1) ci)))).set pj
  (Ent.row (.slice Aj (nj+1) cj) 105 3 (nj+1) (xj++[Value.int .i64 i,Value.bool false,Value.pointer (some ⟨g,0,none⟩)]))).set 2 (Ent.blk s2 102 ((NS.set i (Value.slice Ai (ni+1) ci)).set j (Value.slice Aj (nj+1) cj)))
theorem nb_info:(Tryz.prog.info? 105).map (fun i=>(i.zero,i.size,i.bytes))=some (some (.agg #[.int .i64 0,.bool false,.pointer none]),3,24):=by kernel_rfl
theorem between_new {w W:World} {L:List Ent} (h:Hp w w W L []) {tb pt lm mb s2 n i j pi pj ni nj:Nat} {TB NS xi xj:List Value} {vi vj:Value} {a b:Int} (h0:L[0]?=some (.blk tb 91 TB)) (h1:L[1]?=some (.blk pt 85 [.pointer (some ⟨tb,0,none⟩)]))
  (h2:L[2]?=some (.blk s2 102 NS)) (h3:L[3]?=some (.blk lm 144 [.map (some mb)])) (hB:BtI a b TB i j n s2) {f:Int×Int→Option Value} (hm:MapF enc2 W mb f) (hlo:w.heap.size≤mb) (hf:f ((i:Int),(j:Int))=none)
  (hij:i≠j) (hpi:4≤pi) (hpj:4≤pj) (hp:pi≠pj) (hi:L[pi]?=some (.row vi 105 3 ni xi)) (hj:L[pj]?=some (.row vj 105 3 nj xj)) (hni:ni≤100000) (hnj:nj≤100000) (hvi:NS[i]?=some vi) (hvj:NS[j]?=some vj):
  Calls Tryz.prog 88 #[.int .i64 a,.int .i64 b,.pointer (some ⟨pt,0,none⟩),.pointer (some ⟨lm,0,none⟩)] W fun e W'=>∃ g Ai Aj ci cj,e=.returned (.pointer (some ⟨g,0,none⟩))∧Hp w w W' (btL L pi pj s2 g n i j NS Ai Aj ni nj ci cj xi xj) []∧MapF enc2 W' mb (fun k=>if k=((i:Int),(j:Int)) then some (.pointer (some ⟨g,0,none⟩)) else f k):=by
 obtain⟨l0,hl,hl0,hl1,hl2⟩:=info_parts nb_info
 obtain⟨⟨x,hx,hxl,hxc⟩,⟨y,hy,hyl,hyc⟩,hn,hil,hjl,hnl⟩:=hB
 have c0:=h.c 0 (3+x) h0 hxc
 have c1:=h.c 0 (3+y) h0 hyc
 have g0:=h.lt 0 h0
 have c2:=h.c 1 0 h1 rfl
 have g1:=h.lt 1 h1
 have c3:=h.c 3 0 h3 rfl
 have g3:=h.lt 3 h3
 have hrun:=run_lookF (P:=Tryz.prog) (et:=103) two_key Tryz.underlying144 (w:=W.drew) (hm.congr rfl) (z:=.pointer none) (by kernel_rfl) ((i:Int),(j:Int))
 rw[hf] at hrun
 simp only[enc2,Option.getD_none] at hrun
 have e1:IntKind.i64.wrap ((i:Int)+1 - 1)=(i:Int):=by rw[IntWalk.i64_in _ (by omega)];omega
 have e2:IntKind.i64.wrap ((j:Int)+1 - 1)=(j:Int):=by rw[IntWalk.i64_in _ (by omega)];omega
 have e3:(i:Int)+1 - 1=(i:Int):=by omega
 have e4:(j:Int)+1 - 1=(j:Int):=by omega
 have e5:IntKind.i64.wrap (i:Int)=(i:Int):=IntWalk.i64_in _ (by omega)
 have e6:IntKind.i64.wrap (j:Int)=(j:Int):=IntWalk.i64_in _ (by omega)
 have j1:(x:Int)<512:=by omega
 have j2:(y:Int)<512:=by omega
 have HB:=Lib.hid (And.intro hxc (And.intro hyc hn))
 have hgN:L.length≤L.length:=Nat.le_refl _
 have hlen4:4≤L.length:=by have:=(List.getElem?_eq_some_iff.1 h3).1;omega
 obtain⟨L1,hL1⟩:∃ L1,L1=L++[Ent.blk W.heap.size 147 [.slice none 0 0,.int .u64 0]]:=⟨_,rfl⟩
 have lift:∀ k e,L[k]?=some e→L1[k]?=some e:=fun k e hk=>by rw[hL1,List.getElem?_append_left (List.getElem?_eq_some_iff.1 hk).1];exact hk
 have hA:=(h.alloc [.slice none 0 0,.int .u64 0] 147).drew.base
 rw[←hL1] at hA
 have hmA:MapF enc2 (W.alloc (.cells [.slice none 0 0,.int .u64 0].toArray 147)).drew mb f:=(MapF.alloc hm _).congr rfl
 obtain⟨W2,hrun2,hm2,hg2⟩:=run_putF (P:=Tryz.prog) (et:=103) two_key Tryz.underlying144 hmA ((i:Int),(j:Int)) (.pointer (some ⟨W.heap.size,0,none⟩))
 have hP2:=(hA.mapPut hmA hlo hg2).base
 simp only[enc2] at hrun2
 have HP2:=Lib.hid hP2
 have HM2:=Lib.hid hm2
 have m1:=hP2.c 1 0 (lift 1 _ h1) rfl
 have m2:=hP2.c 0 2 (lift 0 _ h0) hn
 have m3:=hP2.c 2 i (lift 2 _ h2) hvi
 have m4:=hP2.lt 1 (lift 1 _ h1)
 have m5:=hP2.lt 0 (lift 0 _ h0)
 have m6:=hP2.lt 2 (lift 2 _ h2)
 have HL:=Lib.hid (And.intro (lift 0 _ h0) (And.intro (lift 1 _ h1) (And.intro (lift 2 _ h2) (And.intro (lift pi _ hi) (lift pj _ hj)))))
 have HVJ:=Lib.hid hvj
 have HVI:=Lib.hid hvi
 have HLE:=Eqn.mk hL1
 have j3:(i:Int)<(n:Int):=by omega
 have j4:(j:Int)<(n:Int):=by omega
 obtain⟨g,hg⟩:∃ g,g=W.heap.size:=⟨_,rfl⟩
 have HGE:=Eqn.mk hg
 clear hg
 clear hxc hyc hn hf hL1 lift hA hmA hm2 hg2 hP2 hm h hi hj hvi hvj
 go_enter Tryz.func88,Tryz.ntmps88
 go_wp2_with fail
 refine Lx.region (C:=fun _=>True) (hs:=[]) (by kernel_rfl) (by kernel_rfl) trivial ?_
 repeat' (first|((first|refine Lx.ln (fun K hK=>?_) | (first|(refine Lx.lp (v:=?_) ?_ (fun K hK=>?_);rotate_left 1;intro w' hCw;try dsimp only at hCw) | (refine Lx.lr (v:=?_) ?_ (fun K hK=>?_);rotate_left 1));go_simp;first|done | with_reducible rfl);go_simp;refine hK _ ?_;clear hK K) | (refine Lx.le (fun K hK=>?_);go_simp;(first|fail | skip);refine hK _ _ (trivial) ?_;clear hK K) | (refine Lx.lex_cases rfl rfl rfl (fun hgd K hK=>?_) (fun hgd K hK=>?_)<;>(try simp only[decide_eq_true_eq,decide_eq_false_iff_not] at hgd)<;>(first|(exfalso;omega) | (go_simp;refine hK _ ?_;clear hK K))))
 all_goals (refine Lx.lex_nil ?_)
 go_wp2_with fail
 refine Lx.regionT (C:=fun X=>X.cell? ⟨pt,0,none⟩=some (.pointer (some ⟨tb,0,none⟩))∧X.cell? ⟨tb,2,none⟩=some (.slice (some ⟨s2,0,none⟩) n n)∧X.cell? ⟨s2,i,none⟩=some vi) (C':=fun _=>True) (hs:=[0,3,5,8,11]) 17 (List.take 17 _) (List.drop 17 _) (List.take_append_drop 17 _).symm rfl (by kernel_rfl) (by kernel_rfl) (by kernel_rfl) ⟨m1,m2,m3⟩ ?_
 simp only[List.take_succ_cons,List.take_zero,List.drop_succ_cons,List.drop_zero]
 have HCA:=Lib.hid (fun o=>And.intro ((HP2.out.drew.alloc0 o).c 1 0 HL.out.2.1 rfl) (And.intro ((HP2.out.drew.alloc0 o).c 0 2 HL.out.1 HB.out.2.2) ((HP2.out.drew.alloc0 o).c 2 i HL.out.2.2.1 HVI.out)))
 repeat' (first|((first|refine Lx.ln (fun K hK=>?_) | (first|(refine Lx.lp (v:=?_) ?_ (fun K hK=>?_);rotate_left 1;intro w' hCw;try dsimp only at hCw) | (refine Lx.lr (v:=?_) ?_ (fun K hK=>?_);rotate_left 1));go_simp;first|done | with_reducible rfl);go_simp;refine hK _ ?_;clear hK K) | (refine Lx.le (fun K hK=>?_);go_simp;(first|skip);refine hK _ _ (by first|exact HCA.out _ | exact⟨m1,m2,m3⟩) ?_;clear hK K))
 refine Lx.lex_append rfl rfl _ _ 102 rfl w.heap.size 105 l0 (.agg #[.int .i64 0,.bool false,.pointer none]) 3 24 Tryz.underlying102 hl hl0 hl1 hl2 rfl (by decide) _ _ _ rfl ((HP2.out.drew.row pi HL.out.2.2.2.1).alloc _) ⟨W2.heap.size,0,none⟩ 1 1 [.int .i64 j,.bool true,.pointer (some ⟨W.heap.size,0,none⟩)] rfl rfl (cells_newR W2.drew [.int .i64 j,.bool true,.pointer (some ⟨W.heap.size,0,none⟩)] 105) (by simp[Value.oneCell']) (by unfold maxLen;omega) (by omega) (by have:=HP2.out.below.size;simp;omega) ?_
 intro v' W3 hown' hgrow hor
 have hP3:=((HP2.out.drew.alloc0 (.cells #[.int .i64 j,.bool true,.pointer (some ⟨W.heap.size,0,none⟩)] 105)).grow pi HL.out.2.2.2.1 hgrow hown' hor).base
 have HMW3:=Lib.hid ((HP2.out.drew.alloc0 (.cells #[.int .i64 j,.bool true,.pointer (some ⟨W.heap.size,0,none⟩)] 105)).mapKeep ((HM2.out.congr (rfl:W2.drew.heap[mb]?=W2.heap[mb]?)).alloc _) (List.mem_of_getElem? HL.out.2.2.2.1) hgrow)
 obtain⟨Ai,ci,rfl⟩:=hP3.form pi (List.getElem?_set_self (List.getElem?_eq_some_iff.1 HL.out.2.2.2.1).1)
 obtain⟨L2,hL2⟩:∃ L2,L2=L1.set pi (Ent.row (.slice Ai (ni+1) ci) 105 3 (ni+1) (xi++[Value.int .i64 j,Value.bool true,Value.pointer (some ⟨W.heap.size,0,none⟩)])):=⟨_,rfl⟩
 have lift:∀ k e,k≠pi→L1[k]?=some e→L2[k]?=some e:=fun k e hk hke=>by rw[hL2,List.getElem?_set_ne (fun e=>hk e.symm)];exact hke
 have hP3:Hp w w W3 L2 []:=by rw[hL2];exact hP3
 have HP3:=Lib.hid hP3
 have q1:=hP3.c 1 0 (lift 1 _ (by omega) HL.out.2.1) rfl
 have q2:=hP3.c 0 2 (lift 0 _ (by omega) HL.out.1) HB.out.2.2
 have q3:=hP3.c 2 i (lift 2 _ (by omega) HL.out.2.2.1) HVI.out
 have q4:=hP3.lt 2 (lift 2 _ (by omega) HL.out.2.2.1)
 have q5:=hP3.f 2 (lift 2 _ (by omega) HL.out.2.2.1)
 have HLIFT:=Lib.hid lift
 have HL2:=Eqn.mk hL2
 refine⟨⟨q1,q2,q3⟩,?_⟩
 clear hown' hgrow hor hP3 lift hL2 m1 m2 m3 m4 m5 m6
 refine Lx.lex_nil ⟨trivial,?_⟩
 go_simp
 repeat' (first|((first|refine Lx.ln (fun K hK=>?_) | (first|(refine Lx.lp (v:=?_) ?_ (fun K hK=>?_);rotate_left 1;intro w' hCw;try dsimp only at hCw) | (refine Lx.lr (v:=?_) ?_ (fun K hK=>?_);rotate_left 1));go_simp;first|done | with_reducible rfl);go_simp;refine hK _ ?_;clear hK K) | (refine Lx.le (fun K hK=>?_);go_simp;(first|skip);refine hK _ _ (trivial) ?_;clear hK K))
 all_goals (refine Lx.lex_nil ?_)
 clear q1 q2 q3 q4 q5
 obtain⟨V4,hV4⟩:∃ V,V=W3.setCell ⟨s2,i,none⟩ (.slice Ai (ni+1) ci):=⟨_,rfl⟩
 have hP4:=HP3.out.set 2 i (.slice Ai (ni+1) ci) (HLIFT.out 2 _ (by omega) HL.out.2.2.1)
 have hM4:=HP3.out.mapKeep HMW3.out (List.mem_of_getElem? (HLIFT.out 2 _ (by omega) HL.out.2.2.1)) (grownBy_cell W3 s2 i (.slice Ai (ni+1) ci))
 rw[←hV4] at hP4 hM4
 obtain⟨L3,hL3⟩:∃ L3,L3=L2.set 2 (Ent.blk s2 102 (NS.set i (Value.slice Ai (ni+1) ci))):=⟨_,rfl⟩
 have lift3:∀ k e,k≠2→k≠pi→L1[k]?=some e→L3[k]?=some e:=fun k e hk hk2 hke=>by rw[hL3,List.getElem?_set_ne (fun e=>hk e.symm)];exact HLIFT.out k e hk2 hke
 have h23:L3[2]?=some (Ent.blk s2 102 (NS.set i (Value.slice Ai (ni+1) ci))):=by rw[hL3];exact List.getElem?_set_self (List.getElem?_eq_some_iff.1 (HLIFT.out 2 _ (by omega) HL.out.2.2.1)).1
 rw[←hL3] at hP4
 have HP4:=Lib.hid hP4.base
 have HMV4:=Lib.hid hM4
 have HL3E:=Eqn.mk hL3
 have HLB:=Lib.hid (And.intro (lift3 0 _ (by omega) (by omega) HL.out.1) (And.intro (lift3 1 _ (by omega) (by omega) HL.out.2.1) (And.intro h23 (And.intro trivial (lift3 pj _ (by omega) (fun e=>hp e.symm) HL.out.2.2.2.2)))))
 have HVK:Hid ((NS.set i (Value.slice Ai (ni+1) ci))[j]?=some vj):=Lib.hid (by rw[List.getElem?_set_ne hij];exact HVJ.out)
 have m1:=HP4.out.c 1 0 HLB.out.2.1 rfl
 have m2:=HP4.out.c 0 2 HLB.out.1 HB.out.2.2
 have m3:=HP4.out.c 2 j HLB.out.2.2.1 HVK.out
 have m4:=HP4.out.lt 1 HLB.out.2.1
 have m5:=HP4.out.lt 0 HLB.out.1
 have m6:=HP4.out.lt 2 HLB.out.2.2.1
 go_wp2_with fail
 rw[←hV4]
 clear hP4 hM4 hV4 hL3 lift3 h23 HP3 HLIFT HMW3
 refine Lx.regionT (C:=fun X=>X.cell? ⟨pt,0,none⟩=some (.pointer (some ⟨tb,0,none⟩))∧X.cell? ⟨tb,2,none⟩=some (.slice (some ⟨s2,0,none⟩) n n)∧X.cell? ⟨s2,j,none⟩=some vj) (C':=fun _=>True) (hs:=[0,3,5,8,11]) 17 (List.take 17 _) (List.drop 17 _) (List.take_append_drop 17 _).symm rfl (by kernel_rfl) (by kernel_rfl) (by kernel_rfl) ⟨m1,m2,m3⟩ ?_
 simp only[List.take_succ_cons,List.take_zero,List.drop_succ_cons,List.drop_zero]
 have HCA:=Lib.hid (fun o=>And.intro ((HP4.out.drew.alloc0 o).c 1 0 HLB.out.2.1 rfl) (And.intro ((HP4.out.drew.alloc0 o).c 0 2 HLB.out.1 HB.out.2.2) ((HP4.out.drew.alloc0 o).c 2 j HLB.out.2.2.1 HVK.out)))
 repeat' (first|((first|refine Lx.ln (fun K hK=>?_) | (first|(refine Lx.lp (v:=?_) ?_ (fun K hK=>?_);rotate_left 1;intro w' hCw;try dsimp only at hCw) | (refine Lx.lr (v:=?_) ?_ (fun K hK=>?_);rotate_left 1));go_simp;first|done | with_reducible rfl);go_simp;refine hK _ ?_;clear hK K) | (refine Lx.le (fun K hK=>?_);go_simp;(first|skip);refine hK _ _ (by first|exact HCA.out _ | exact⟨m1,m2,m3⟩) ?_;clear hK K))
 refine Lx.lex_append rfl rfl _ _ 102 rfl w.heap.size 105 l0 (.agg #[.int .i64 0,.bool false,.pointer none]) 3 24 Tryz.underlying102 hl hl0 hl1 hl2 rfl (by decide) _ _ _ rfl ((HP4.out.drew.row pj HLB.out.2.2.2.2).alloc _) ⟨V4.heap.size,0,none⟩ 1 1 [.int .i64 i,.bool false,.pointer (some ⟨W.heap.size,0,none⟩)] rfl rfl (cells_newR V4.drew [.int .i64 i,.bool false,.pointer (some ⟨W.heap.size,0,none⟩)] 105) (by simp[Value.oneCell']) (by unfold maxLen;omega) (by omega) (by have:=HP4.out.below.size;simp;omega) ?_
 intro v' W5 hown' hgrow hor
 have hP3:=((HP4.out.drew.alloc0 (.cells #[.int .i64 i,.bool false,.pointer (some ⟨W.heap.size,0,none⟩)] 105)).grow pj HLB.out.2.2.2.2 hgrow hown' hor).base
 have HMW5:=Lib.hid ((HP4.out.drew.alloc0 (.cells #[.int .i64 i,.bool false,.pointer (some ⟨W.heap.size,0,none⟩)] 105)).mapKeep ((HMV4.out.congr (rfl:V4.drew.heap[mb]?=V4.heap[mb]?)).alloc _) (List.mem_of_getElem? HLB.out.2.2.2.2) hgrow)
 obtain⟨Aj,cj,rfl⟩:=hP3.form pj (List.getElem?_set_self (List.getElem?_eq_some_iff.1 HLB.out.2.2.2.2).1)
 obtain⟨L4,hL4⟩:∃ L4,L4=L3.set pj (Ent.row (.slice Aj (nj+1) cj) 105 3 (nj+1) (xj++[Value.int .i64 i,Value.bool false,Value.pointer (some ⟨W.heap.size,0,none⟩)])):=⟨_,rfl⟩
 have lift:∀ k e,k≠pj→L3[k]?=some e→L4[k]?=some e:=fun k e hk hke=>by rw[hL4,List.getElem?_set_ne (fun e=>hk e.symm)];exact hke
 have hP3:Hp w w W5 L4 []:=by rw[hL4];exact hP3
 have HP3:=Lib.hid hP3
 have q1:=hP3.c 1 0 (lift 1 _ (by omega) HLB.out.2.1) rfl
 have q2:=hP3.c 0 2 (lift 0 _ (by omega) HLB.out.1) HB.out.2.2
 have q3:=hP3.c 2 j (lift 2 _ (by omega) HLB.out.2.2.1) HVK.out
 have q4:=hP3.lt 2 (lift 2 _ (by omega) HLB.out.2.2.1)
 have q5:=hP3.f 2 (lift 2 _ (by omega) HLB.out.2.2.1)
 have HLIFT:=Lib.hid lift
 have HL4:=Eqn.mk hL4
 refine⟨⟨q1,q2,q3⟩,?_⟩
 clear hown' hgrow hor hP3 lift hL4 m1 m2 m3 m4 m5 m6
 refine Lx.lex_nil ⟨trivial,?_⟩
 go_simp
 repeat' (first|((first|refine Lx.ln (fun K hK=>?_) | (first|(refine Lx.lp (v:=?_) ?_ (fun K hK=>?_);rotate_left 1;intro w' hCw;try dsimp only at hCw) | (refine Lx.lr (v:=?_) ?_ (fun K hK=>?_);rotate_left 1));go_simp;first|done | with_reducible rfl);go_simp;refine hK _ ?_;clear hK K) | (refine Lx.le (fun K hK=>?_);go_simp;(first|skip);refine hK _ _ (trivial) ?_;clear hK K))
 all_goals (refine Lx.lex_nil ?_)
 clear q1 q2 q3 q4 q5
 obtain⟨V6,hV6⟩:∃ V,V=W5.setCell ⟨s2,j,none⟩ (.slice Aj (nj+1) cj):=⟨_,rfl⟩
 have h2L4:=HLIFT.out 2 _ (by omega) HLB.out.2.2.1
 have hP6:=HP3.out.set 2 j (.slice Aj (nj+1) cj) h2L4
 have hM6:=HP3.out.mapKeep HMW5.out (List.mem_of_getElem? h2L4) (grownBy_cell W5 s2 j (.slice Aj (nj+1) cj))
 rw[←hV6] at hP6 hM6
 have HP6:=Lib.hid hP6.base
 have HMV6:=Lib.hid hM6
 clear hP6 hM6 h2L4
 go_wp2_with fail
 rw[←hV6]
 clear hV6
 go_ret
 refine⟨W.heap.size,Ai,Aj,ci,cj,rfl,?_,?_⟩
 ·unfold btL
  rw[←HLE.out,←HL2.out,←HL3E.out,←HL4.out]
  exact HP6.out
 ·exact HMV6.out
def lkB (l:Lk):Ent:=.blk l.g 147 [.slice l.A l.ps.length l.c,.int .u64 l.sh]
def lkR (l:Lk):Ent:=.row (.slice l.A l.ps.length l.c) 67 5 l.ps.length (flat 5 R5.cell l.ps)
def nrE (NV:List NH) (LK:List Lk) (k:Nat):Ent:=.row (NV.getD k ⟨none,0,0⟩).val 105 3 (nbs LK k).length (flat 3 Nb.cell (nbs LK k))
structure ArS where
 tb:Nat
 pt:Nat
 q2:Nat
 lm:Nat
 mb:Nat
 q0:Nat
 q1:Nat
 p9:Nat
 pb:Nat
 TB:List Value
 st:List Value
 dm:List Value
 cp:List Value
 pc:List Value
def arF (S:ArS) (N2:List Value):List Ent:=[.blk S.tb 91 S.TB,.blk S.pt 85 [.pointer (some ⟨S.tb,0,none⟩)],.blk S.q2 102 N2,.blk S.lm 144 [.map (some S.mb)],.blk S.q0 3 S.st,.blk S.q1 76 S.dm,.blk S.p9 142 S.cp,.blk S.pb 29 S.pc]
def arE (S:ArS) (n:Nat) (NV:List NH) (LK:List Lk):List Ent:=arF S (NV.map NH.val)++((List.range n).map (nrE NV LK)++(LK.map lkB++LK.map lkR))
theorem arE_near {S:ArS} {n:Nat} {NV:List NH} {LK:List Lk} {k:Nat} (hk:k<n):(arE S n NV LK)[8+k]?=some (nrE NV LK k):=by
 unfold arE
 rw[List.getElem?_append_right (by simp[arF]),List.getElem?_append_left (by simp[arF];omega)]
 simp[arF,hk]
theorem arE_blk {S:ArS} {n:Nat} {NV:List NH} {LK:List Lk} {q:Nat} {l:Lk} (h:LK[q]?=some l):(arE S n NV LK)[8+n+q]?=some (lkB l):=by
 have hq:=(List.getElem?_eq_some_iff.1 h).1
 unfold arE
 rw[List.getElem?_append_right (by simp[arF];omega),List.getElem?_append_right (by simp[arF];omega),List.getElem?_append_left (by simp[arF];omega)]
 rw[show 8+n+q - (arF S (NV.map NH.val)).length - ((List.range n).map (nrE NV LK)).length=q by simp[arF];omega,List.getElem?_map,h];rfl
theorem arE_row {S:ArS} {n:Nat} {NV:List NH} {LK:List Lk} {q:Nat} {l:Lk} (h:LK[q]?=some l):(arE S n NV LK)[8+n+LK.length+q]?=some (lkR l):=by
 unfold arE
 rw[List.getElem?_append_right (by simp[arF];omega),List.getElem?_append_right (by simp[arF];omega),List.getElem?_append_right (by simp[arF];omega)]
 rw[show 8+n+LK.length+q - (arF S (NV.map NH.val)).length - ((List.range n).map (nrE NV LK)).length - (LK.map lkB).length=q by simp[arF];omega,List.getElem?_map,h];rfl
theorem nbs_snoc (LK:List Lk) (l:Lk) (k:Nat):nbs (LK++[l]) k=nbs LK k++(l.nb k).toList:=by
 unfold nbs
 rw[List.filterMap_append]
 congr 1
def newL (i j g:Nat):Lk:=⟨i,j,g,none,0,[],0⟩
theorem bt_perm {S:ArS} {n:Nat} {NV:List NH} {LK:List Lk} {i j g:Nat} {Ai Aj:Option Addr} {ci cj:Nat} (hi:i<n) (hj:j<n) (hij:i≠j) (hNV:NV.length=n):
  (btL (arE S n NV LK) (8+i) (8+j) S.q2 g n i j (NV.map NH.val) Ai Aj (nbs LK i).length (nbs LK j).length ci cj (flat 3 Nb.cell (nbs LK i)) (flat 3 Nb.cell (nbs LK j))++[Ent.row (.slice none 0 0) 67 5 0 []]).Perm
   (arE S n ((NV.set i ⟨Ai,(nbs LK i).length+1,ci⟩).set j ⟨Aj,(nbs LK j).length+1,cj⟩) (LK++[newL i j g])):=by
 obtain⟨N,hN⟩:∃ N,N=(List.range n).map (nrE NV LK):=⟨_,rfl⟩
 have hNl:N.length=n:=by rw[hN];simp
 obtain⟨R,hR⟩:∃ R,R=LK.map lkB++LK.map lkR:=⟨_,rfl⟩
 obtain⟨ei,hei⟩:∃ e,e=Ent.row (.slice Ai ((nbs LK i).length+1) ci) 105 3 ((nbs LK i).length+1) (flat 3 Nb.cell (nbs LK i)++[Value.int .i64 j,Value.bool true,Value.pointer (some ⟨g,0,none⟩)]):=⟨_,rfl⟩
 obtain⟨ej,hej⟩:∃ e,e=Ent.row (.slice Aj ((nbs LK j).length+1) cj) 105 3 ((nbs LK j).length+1) (flat 3 Nb.cell (nbs LK j)++[Value.int .i64 i,Value.bool false,Value.pointer (some ⟨g,0,none⟩)]):=⟨_,rfl⟩
 obtain⟨NS,hNS⟩:∃ NS,NS=((NV.map NH.val).set i (Value.slice Ai ((nbs LK i).length+1) ci)).set j (Value.slice Aj ((nbs LK j).length+1) cj):=⟨_,rfl⟩
 have e1:btL (arE S n NV LK) (8+i) (8+j) S.q2 g n i j (NV.map NH.val) Ai Aj (nbs LK i).length (nbs LK j).length ci cj (flat 3 Nb.cell (nbs LK i)) (flat 3 Nb.cell (nbs LK j)) =
   arF S NS++(((N.set i ei).set j ej)++(R++[Ent.blk g 147 [.slice none 0 0,.int .u64 0]])):=by
  unfold btL arE
  rw[←hei,←hej,←hNS,←hN,←hR]
  have s2:∀(N2:List Value) (T:List Ent) (e:Ent),(arF S N2++T).set 2 e=(arF S N2).set 2 e++T:=fun N2 T e=>List.set_append_left _ _ (by simp[arF])
  have s8:∀(F:List Ent) (M T:List Ent) (k:Nat) (e:Ent),F.length=8→k<M.length→(F++(M++T)).set (8+k) e=F++(M.set k e++T):=fun F M T k e hF hk=>by
   rw[List.set_append_right _ _ (by omega),hF,Nat.add_sub_cancel_left,List.set_append_left _ _ hk]
  have f8:∀ N2,(arF S N2).length=8:=fun _=>rfl
  rw[List.append_assoc,List.append_assoc,s8 _ _ _ _ _ (f8 _) (by omega),s2,s8 _ _ _ _ _ (by rw[List.length_set];rfl) (by rw[List.length_set];omega),List.set_append_left _ _ (by rw[List.length_set];simp[arF]),List.set_set]
  rfl
 have e2:arF S NS=arF S (((NV.set i ⟨Ai,(nbs LK i).length+1,ci⟩).set j ⟨Aj,(nbs LK j).length+1,cj⟩).map NH.val):=by
  rw[hNS,List.map_set,List.map_set];rfl
 have e3:(N.set i ei).set j ej=(List.range n).map (nrE ((NV.set i ⟨Ai,(nbs LK i).length+1,ci⟩).set j ⟨Aj,(nbs LK j).length+1,cj⟩) (LK++[newL i j g])):=by
  apply List.ext_getElem?
  intro k
  by_cases hk:k<n
  ·rw[List.getElem?_map,List.getElem?_range hk,Option.map_some,List.getElem?_set,List.length_set,hNl]
   unfold nrE
   rw[nbs_snoc]
   by_cases hkj:j=k
   ·subst hkj
    rw[if_pos rfl,if_pos hj,hej]
    have h1:((NV.set i ⟨Ai,(nbs LK i).length+1,ci⟩).set j ⟨Aj,(nbs LK j).length+1,cj⟩).getD j ⟨none,0,0⟩=⟨Aj,(nbs LK j).length+1,cj⟩:=by
     rw[List.getD_eq_getElem?_getD,List.getElem?_set,if_pos rfl,if_pos (by rw[List.length_set];omega)];rfl
    have h2:(newL i j g).nb j=some ⟨i,false,g⟩:=by unfold Lk.nb newL;dsimp only;rw[if_neg hij,if_pos rfl]
    rw[h1,h2,Option.toList_some,List.length_append,flat_snoc];rfl
   ·rw[if_neg hkj,List.getElem?_set,hNl]
    by_cases hki:i=k
    ·subst hki
     rw[if_pos rfl,if_pos hi,hei]
     have h1:((NV.set i ⟨Ai,(nbs LK i).length+1,ci⟩).set j ⟨Aj,(nbs LK j).length+1,cj⟩).getD i ⟨none,0,0⟩=⟨Ai,(nbs LK i).length+1,ci⟩:=by
      rw[List.getD_eq_getElem?_getD,List.getElem?_set,if_neg hkj,List.getElem?_set,if_pos rfl,if_pos (by omega)];rfl
     have h2:(newL i j g).nb i=some ⟨j,true,g⟩:=by unfold Lk.nb newL;dsimp only;rw[if_pos rfl]
     rw[h1,h2,Option.toList_some,List.length_append,flat_snoc];rfl
    ·rw[if_neg hki,hN,List.getElem?_map,List.getElem?_range hk,Option.map_some]
     have h1:((NV.set i ⟨Ai,(nbs LK i).length+1,ci⟩).set j ⟨Aj,(nbs LK j).length+1,cj⟩).getD k ⟨none,0,0⟩=NV.getD k ⟨none,0,0⟩:=by
      rw[List.getD_eq_getElem?_getD,List.getElem?_set,if_neg hkj,List.getElem?_set,if_neg hki,List.getD_eq_getElem?_getD]
     have h2:(newL i j g).nb k=none:=by unfold Lk.nb newL;dsimp only;rw[if_neg hki,if_neg hkj]
     rw[h1,h2,Option.toList_none,List.append_nil];rfl
  ·rw[List.getElem?_eq_none (by rw[List.length_set,List.length_set,hNl];omega),List.getElem?_eq_none (by rw[List.length_map,List.length_range];omega)]
 rw[e1,e2,e3]
 unfold arE
 rw[hR,List.append_assoc,List.append_assoc,List.append_assoc,List.append_assoc,List.map_append,List.map_append]
 refine List.Perm.append_left _ (List.Perm.append_left _ ?_)
 rw[List.append_assoc]
 refine List.Perm.append_left _ ?_
 show (LK.map lkR++([lkB (newL i j g)]++[lkR (newL i j g)])).Perm ([lkB (newL i j g)]++(LK.map lkR++[lkR (newL i j g)]))
 rw[←List.append_assoc,←List.append_assoc]
 exact List.Perm.append_right _ List.perm_append_comm
def lkM (LK:List Lk) (q:Int×Int):Option Value:=(LK.find? fun l=>decide ((l.i:Int)=q.1∧(l.j:Int)=q.2)).map fun l=>.pointer (some ⟨l.g,0,none⟩)
structure LkI (D:Dms) (caps:List R4) (P Ls:List R5) (LK:List Lk):Prop where
 ij:∀ l∈LK,l.i<l.j∧l.j<D.length
 un:LK.Pairwise fun l m=>¬(l.i=m.i∧l.j=m.j)
 gs:(LK.map Lk.g).Nodup
 ps:∀ l∈LK,l.ps=P.filter fun x=>decide (x.a=stA D l.i∧x.b=stA D l.j)
 sh:∀ l∈LK,l.sh<18446744073709551616∧∀ c:Int,2≤c→c≤51→l.sh.testBit c.toNat=Ls.any (ldB caps (stA D l.i) c (stA D l.j))
 cp:∀ x∈P,∃ l∈LK,stA D l.i=x.a∧stA D l.j=x.b
 cl:∀ x∈Ls,∃ l∈LK,(stA D l.i=x.a∧stA D l.j=x.b)∨(stA D l.i=x.b∧stA D l.j=x.a)
theorem lkM_find {D:Dms} {caps:List R4} {P Ls:List R5} {LK:List Lk} (h:LkI D caps P Ls LK) {q:Nat} {l:Lk} (hq:LK[q]?=some l):lkM LK ((l.i:Int),(l.j:Int))=some (.pointer (some ⟨l.g,0,none⟩)):=by
 unfold lkM
 cases hf:LK.find? (fun m=>decide ((m.i:Int)=(l.i:Int)∧(m.j:Int)=(l.j:Int))) with
 | none=>
  have:=List.find?_eq_none.1 hf l (List.mem_of_getElem? hq)
  simp at this
 | some m=>
  have hm:=List.find?_some hf
  simp only[decide_eq_true_eq] at hm
  obtain⟨p,hp⟩:=List.getElem?_of_mem (List.mem_of_find?_eq_some hf)
  have:p=q:=by
   obtain⟨h1,e1⟩:=List.getElem?_eq_some_iff.1 hp
   obtain⟨h2,e2⟩:=List.getElem?_eq_some_iff.1 hq
   rcases Nat.lt_trichotomy p q with hlt | heq | hgt
   ·have:=List.pairwise_iff_getElem.1 h.un p q h1 h2 hlt
    rw[e1,e2] at this
    exact absurd ⟨by omega,by omega⟩ this
   ·exact heq
   ·have:=List.pairwise_iff_getElem.1 h.un q p h2 h1 hgt
    rw[e1,e2] at this
    exact absurd ⟨by omega,by omega⟩ this
  subst this
  rw[hq] at hp
  cases hp
  rfl
theorem lkM_none {LK:List Lk} {i j:Nat} (h:∀ l∈LK,¬(l.i=i∧l.j=j)):lkM LK ((i:Int),(j:Int))=none:=by
 unfold lkM
 rw[List.find?_eq_none.2 (fun l hl=>by
  have:=h l hl
  simp only[decide_eq_true_eq]
  intro ⟨a,b⟩
  exact this ⟨by omega,by omega⟩)]
 rfl
theorem lkM_snoc {LK:List Lk} {i j g:Nat} (h:∀ l∈LK,¬(l.i=i∧l.j=j)):lkM (LK++[newL i j g])=fun q=>if q=((i:Int),(j:Int)) then some (.pointer (some ⟨g,0,none⟩)) else lkM LK q:=by
 funext q
 unfold lkM
 rw[List.find?_append]
 by_cases hq:q=((i:Int),(j:Int))
 ·subst hq
  rw[if_pos rfl,List.find?_eq_none.2 (fun l hl=>by
   have:=h l hl
   simp only[decide_eq_true_eq]
   intro ⟨a,b⟩
   exact this ⟨by omega,by omega⟩)]
  simp[newL]
 ·rw[if_neg hq]
  have:[newL i j g].find? (fun l=>decide ((l.i:Int)=q.1∧(l.j:Int)=q.2))=none:=by
   rw[List.find?_eq_none]
   intro l hl
   rw[List.mem_singleton] at hl
   subst hl
   show ¬decide ((i:Int)=q.1∧(j:Int)=q.2)=true
   rw[decide_eq_true_eq]
   rintro⟨a,b⟩
   exact hq (Prod.ext a.symm b.symm)
  rw[this,Option.or_none]
def TBc (q0 q1 q2 n:Nat) (IX:List Int):List Value:=[.slice (some ⟨q0,0,none⟩) n n,.slice (some ⟨q1,0,none⟩) n n,.slice (some ⟨q2,0,none⟩) n n]++IX.map intV
theorem TBc_set (q0 q1 q2 n:Nat) (IX:List Int) (k:Nat) (x:Int):(TBc q0 q1 q2 n IX).set (3+k) (.int .i64 x)=TBc q0 q1 q2 n (IX.set k x):=by
 unfold TBc
 rw[List.set_append_right _ _ (by simp),List.map_set]
 simp[intV]
theorem TBc_at {q0 q1 q2 n:Nat} {IX:List Int} {k:Nat} {x:Int} (h:IX[k]?=some x):(TBc q0 q1 q2 n IX)[3+k]?=some (.int .i64 x):=by
 unfold TBc
 rw[List.getElem?_append_right (by simp)]
 simp[h,intV]
def ixK (D:Dms) (i:Nat):List Int:=(List.range i).foldl (fun X k=>X.set (stA D k).toNat ((k:Int)+1)) (List.replicate 512 0)
theorem ixK_succ (D:Dms) (i:Nat):ixK D (i+1)=(ixK D i).set (stA D i).toNat ((i:Int)+1):=by unfold ixK;rw[List.range_succ,List.foldl_append];rfl
theorem ixK_len (D:Dms):∀ i,(ixK D i).length=512
 | 0=>List.length_replicate ..
 | i+1=>by rw[ixK_succ,List.length_set,ixK_len D i]
theorem ixK_get {D:Dms} (hnd:(D.map Prod.fst).Nodup) (hr:∀ y∈D.map Prod.fst,0≤y∧y<512):∀ k,k≤D.length→∀ i,i<k→(ixK D k)[(stA D i).toNat]?=some ((i:Int)+1)
 | 0,_,i,hi=>absurd hi (Nat.not_lt_zero _)
 | k+1,hk,i,hi=>by
  have hst:∀ j,j<D.length→0≤stA D j∧stA D j<512:=fun j hj=>by
   have e:D[j]?=some D[j]:=List.getElem?_eq_getElem hj
   rw[stA_at e];exact hr _ (List.mem_map_of_mem (List.getElem_mem hj))
  have hi0:=hst i (by omega)
  have hk0:=hst k (by omega)
  rw[ixK_succ,List.getElem?_set,ixK_len]
  by_cases hik:i=k
  ·subst hik;rw[if_pos rfl,if_pos (by omega)]
  ·rw[if_neg (fun e=>hik (st_inj hnd (by omega) (by omega) (by omega))),ixK_get hnd hr k (by omega) i (by omega)]
theorem ixK_none {D:Dms} (hr:∀ y∈D.map Prod.fst,0≤y∧y<512) {s:Nat} (hs:s<512) (hn:(s:Int)∉D.map Prod.fst):∀ k,k≤D.length→(ixK D k)[s]?=some 0
 | 0,_=>by unfold ixK;rw[List.range_zero,List.foldl_nil,List.getElem?_replicate,if_pos hs]
 | k+1,hk=>by
  have e:D[k]?=some D[k]:=List.getElem?_eq_getElem (by omega)
  have hm:stA D k∈D.map Prod.fst:=by rw[stA_at e];exact List.mem_map_of_mem (List.getElem_mem _)
  have h0:=hr _ hm
  rw[ixK_succ,List.getElem?_set,if_neg (fun e2=>hn (by rw[show (s:Int)=stA D k by omega];exact hm)),ixK_none hr hs hn k (by omega)]
theorem ixK_idx {D:Dms} (hnd:(D.map Prod.fst).Nodup) (hr:∀ y∈D.map Prod.fst,0≤y∧y<512) {s:Nat} (hs:s<512):(ixK D D.length)[s]?=some ((idxF D s:Nat):Int):=by
 rw[ixF_at]
 cases h:ixF D (s:Int) with
 | none=>exact ixK_none hr hs (ixF_none.1 h) _ (Nat.le_refl _)
 | some i=>
  obtain⟨h1,h2⟩:=ixF_lt h
  have:=ixK_get hnd hr D.length (Nat.le_refl _) i h1
  rw[h2,Int.toNat_natCast] at this
  rw[this];simp
theorem st_ix {D:Dms} {x:Int} (h:x∈D.map Prod.fst):∃ i,i<D.length∧stA D i=x:=by
 cases hi:ixF D x with
 | none=>exact absurd h (ixF_none.1 hi)
 | some i=>exact⟨i,ixF_lt hi⟩
theorem st_up {D:Dms} (hD:(D.map Prod.fst).Pairwise (·<·)) {a b:Nat} (hab:a<b) (hb:b<D.length):stA D a<stA D b:=by
 have h1:(D.map Prod.fst)[a]?=some (stA D a):=by unfold stA;rw[List.getD_eq_getElem?_getD,List.getElem?_eq_getElem (by rw[List.length_map];omega)];rfl
 have h2:(D.map Prod.fst)[b]?=some (stA D b):=by unfold stA;rw[List.getD_eq_getElem?_getD,List.getElem?_eq_getElem (by rw[List.length_map];omega)];rfl
 obtain⟨g1,e1⟩:=List.getElem?_eq_some_iff.1 h1
 obtain⟨g2,e2⟩:=List.getElem?_eq_some_iff.1 h2
 have:=List.pairwise_iff_getElem.1 hD a b g1 g2 hab
 rw[e1,e2] at this;exact this
theorem LkI.more {D:Dms} {caps:List R4} {P Ls:List R5} {LK:List Lk} (h:LkI D caps P Ls LK) (hnd:(D.map Prod.fst).Nodup) {i j g:Nat} (hij:i<j) (hj:j<D.length) (hno:∀ l∈LK,¬(l.i=i∧l.j=j)) (hg:∀ l∈LK,l.g≠g) (hD:(D.map Prod.fst).Pairwise (·<·)):LkI D caps P Ls (LK++[newL i j g]):=by
 have hlt:∀ a b,a<D.length→b<D.length→stA D a=stA D b→a=b:=fun a b ha hb e=>st_inj hnd ha hb e
 have hmem:∀ l,l∈LK++[newL i j g]→l∈LK∨l=newL i j g:=fun l hl=>by
  rcases List.mem_append.1 hl with h | h
  ·exact .inl h
  ·exact .inr (List.mem_singleton.1 h)
 refine⟨fun l hl=>?_,?_,?_,fun l hl=>?_,fun l hl=>?_,fun x hx=>?_,fun x hx=>?_⟩
 ·rcases hmem l hl with hl | rfl
  ·exact h.ij l hl
  ·exact⟨hij,hj⟩
 ·rw[List.pairwise_append]
  refine⟨h.un,List.pairwise_singleton _ _,fun a ha b hb=>?_⟩
  rw[List.mem_singleton] at hb;subst hb
  exact hno a ha
 ·rw[List.map_append,List.nodup_append]
  refine⟨h.gs,by simp,fun a ha b hb=>?_⟩
  obtain⟨l,hl,rfl⟩:=List.mem_map.1 ha
  rw[List.map_singleton,List.mem_singleton] at hb;subst hb
  exact hg l hl
 ·rcases hmem l hl with hl | rfl
  ·exact h.ps l hl
  ·show ([]:List R5)=_
   rw[eq_comm,List.filter_eq_nil_iff]
   intro x hx hc
   have hc:x.a=stA D i∧x.b=stA D j:=of_decide_eq_true hc
   obtain⟨l,hl,e1,e2⟩:=h.cp x hx
   have hl2:=h.ij l hl
   exact hno l hl ⟨hlt _ _ (by omega) (by omega) (e1.trans hc.1),hlt _ _ (by omega) (by omega) (e2.trans hc.2)⟩
 ·rcases hmem l hl with hl | rfl
  ·exact h.sh l hl
  ·refine⟨(by show 0<18446744073709551616;decide),fun c _ _=>?_⟩
   rw[show (newL i j g).sh=0 from rfl,Nat.zero_testBit,eq_comm,List.any_eq_false]
   intro x hx hb
   unfold ldB at hb
   rw[Bool.and_eq_true,Bool.or_eq_true,Bool.and_eq_true,Bool.and_eq_true,decide_eq_true_eq,decide_eq_true_eq,decide_eq_true_eq,decide_eq_true_eq] at hb
   obtain⟨l,hl,hc⟩:=h.cl x hx
   have hl2:=h.ij l hl
   have hi2:(newL i j g).i=i:=rfl
   have hj2:(newL i j g).j=j:=rfl
   rw[hi2,hj2] at hb
   have hup:∀ a b,a<b→b<D.length→stA D a<stA D b:=fun a b hab hb=>by
    have h1:(D.map Prod.fst)[a]?=some (stA D a):=by unfold stA;rw[List.getD_eq_getElem?_getD,List.getElem?_eq_getElem (by rw[List.length_map];omega)];rfl
    have h2:(D.map Prod.fst)[b]?=some (stA D b):=by unfold stA;rw[List.getD_eq_getElem?_getD,List.getElem?_eq_getElem (by rw[List.length_map];omega)];rfl
    obtain⟨g1,e1⟩:=List.getElem?_eq_some_iff.1 h1
    obtain⟨g2,e2⟩:=List.getElem?_eq_some_iff.1 h2
    have:=List.pairwise_iff_getElem.1 hD a b g1 g2 hab
    rw[e1,e2] at this;exact this
   have u1:=hup l.i l.j hl2.1 hl2.2
   have u2:=hup i j hij hj
   have key:stA D l.i=stA D i∧stA D l.j=stA D j:=by
    rcases hc with ⟨c1,c2⟩ | ⟨c1,c2⟩<;>rcases hb.1 with ⟨b1,b2⟩ | ⟨b1,b2⟩<;>constructor<;>omega
   exact hno l hl ⟨hlt _ _ (by omega) (by omega) key.1,hlt _ _ (by omega) (by omega) key.2⟩
 ·obtain⟨l,hl,e⟩:=h.cp x hx
  exact⟨l,List.mem_append_left _ hl,e⟩
 ·obtain⟨l,hl,e⟩:=h.cl x hx
  exact⟨l,List.mem_append_left _ hl,e⟩
theorem app_get {α:Type} {L X:List α} {k:Nat} {x:α} (h:L[k]?=some x):(L++X)[k]?=some x:=by rw[List.getElem?_append_left (List.getElem?_eq_some_iff.1 h).1];exact h
theorem app_swap {α:Type} (L X R:List α):((L++X)++R).Perm ((L++R)++X):=by
 rw[List.append_assoc,List.append_assoc]
 exact List.Perm.append_left L List.perm_append_comm
theorem btL_app {L X:List Ent} {pi pj s2 g n i j:Nat} {NS:List Value} {Ai Aj:Option Addr} {ni nj ci cj:Nat} {xi xj:List Value} (h2:2<L.length) (hpi:pi<L.length) (hpj:pj<L.length):
  (btL (L++X) pi pj s2 g n i j NS Ai Aj ni nj ci cj xi xj).Perm (btL L pi pj s2 g n i j NS Ai Aj ni nj ci cj xi xj++X):=by
 unfold btL
 have a:∀(M T:List Ent) (k:Nat) (e:Ent),k<M.length→(M++T).set k e=M.set k e++T:=fun M T k e hk=>List.set_append_left _ _ hk
 rw[List.append_assoc L X,a _ _ _ _ hpi,a _ _ _ _ (by rw[List.length_set];exact h2),a _ _ _ _ (by rw[List.length_set,List.length_set];exact hpj),a _ _ _ _ (by rw[List.length_set,List.length_set,List.length_set];exact h2),
  a _ _ _ _ hpi,a _ _ _ _ (by rw[List.length_set];exact h2),a _ _ _ _ (by rw[List.length_set,List.length_set];exact hpj),a _ _ _ _ (by rw[List.length_set,List.length_set,List.length_set];exact h2),List.append_assoc _ _ X]
 exact List.Perm.append_left _ List.perm_append_comm
def BtPost (w:World) (X:List Ent) (S:ArS) (D:Dms) (caps:List R4) (P Ls:List R5) (a b:Int) (e:Ending) (W':World):Prop:=
 ∃(NV:List NH) (LK:List Lk) (q:Nat) (l:Lk),e=.returned (.pointer (some ⟨l.g,0,none⟩))∧LK[q]?=some l∧((stA D l.i=a∧stA D l.j=b)∨(stA D l.i=b∧stA D l.j=a))∧NV.length=D.length∧LkI D caps P Ls LK∧Hp w w W' (arE S D.length NV LK++X) []∧MapF enc2 W' S.mb (lkM LK)
theorem between_any {w W:World} {X:List Ent} {S:ArS} {D:Dms} {caps:List R4} {P Ls:List R5} {NV:List NH} {LK:List Lk} {a b:Int} (h:Hp w w W (arE S D.length NV LK++X) []) (hm:MapF enc2 W S.mb (lkM LK)) (hlo:w.heap.size≤S.mb) (hI:LkI D caps P Ls LK) (hNV:NV.length=D.length)
  (hT:S.TB=TBc S.q0 S.q1 S.q2 D.length (ixK D D.length)) (hnd:(D.map Prod.fst).Nodup) (hup:(D.map Prod.fst).Pairwise (·<·)) (hr:∀ y∈D.map Prod.fst,0≤y∧y<512) (hn:D.length≤512) (ha:a∈D.map Prod.fst) (hb:b∈D.map Prod.fst) (hab:a≠b) (hlen:∀ k,k<D.length→(nbs LK k).length≤100000):
  Calls Tryz.prog 88 #[.int .i64 a,.int .i64 b,.pointer (some ⟨S.pt,0,none⟩),.pointer (some ⟨S.lm,0,none⟩)] W (BtPost w X S D caps P Ls a b):=by
 obtain⟨lo,hi,hlohi,hlo2,hhi2,hlm,hhm,hcase⟩:∃ lo hi:Int,lo<hi∧(if b<a then b else a)=lo∧(if a<b then b else a)=hi∧lo∈D.map Prod.fst∧hi∈D.map Prod.fst∧((lo=a∧hi=b)∨(lo=b∧hi=a)):=by
  by_cases hc:a<b
  ·exact⟨a,b,hc,if_neg (by omega),if_pos hc,ha,hb,.inl ⟨rfl,rfl⟩⟩
  ·exact⟨b,a,by omega,if_pos (by omega),if_neg hc,hb,ha,.inr ⟨rfl,rfl⟩⟩
 obtain⟨i,hi1,hi2⟩:=st_ix hlm
 obtain⟨j,hj1,hj2⟩:=st_ix hhm
 have hstup:∀ p q,p<D.length→q<D.length→stA D p<stA D q→p<q:=fun p q hp hq hpq=>by
  rcases Nat.lt_or_ge p q with h1 | h1
  ·exact h1
  ·exfalso
   rcases Nat.lt_or_eq_of_le h1 with h2 | h2
   ·have e1:(D.map Prod.fst)[q]?=some (stA D q):=by unfold stA;rw[List.getD_eq_getElem?_getD,List.getElem?_eq_getElem (by rw[List.length_map];omega)];rfl
    have e2:(D.map Prod.fst)[p]?=some (stA D p):=by unfold stA;rw[List.getD_eq_getElem?_getD,List.getElem?_eq_getElem (by rw[List.length_map];omega)];rfl
    obtain⟨g1,e1⟩:=List.getElem?_eq_some_iff.1 e1
    obtain⟨g2,e2⟩:=List.getElem?_eq_some_iff.1 e2
    have:=List.pairwise_iff_getElem.1 hup q p g1 g2 h2
    rw[e1,e2] at this;omega
   ·subst h2;omega
 have hij:=hstup i j hi1 hj1 (by rw[hi2,hj2];exact hlohi)
 have r1:=hr lo hlm
 have r2:=hr hi hhm
 have t1:=ixK_get hnd hr D.length (Nat.le_refl _) i hi1
 have t2:=ixK_get hnd hr D.length (Nat.le_refl _) j hj1
 rw[hi2] at t1
 rw[hj2] at t2
 have hB:BtI a b S.TB i j D.length S.q2:=by
  refine⟨⟨lo.toNat,by rw[hlo2];omega,by omega,?_⟩,⟨hi.toNat,by rw[hhi2];omega,by omega,?_⟩,?_,hi1,hj1,hn⟩
  ·rw[hT];exact TBc_at t1
  ·rw[hT];exact TBc_at t2
  ·rw[hT];rfl
 have hst:∀ l:Lk,l.i=i→l.j=j→((stA D l.i=a∧stA D l.j=b)∨(stA D l.i=b∧stA D l.j=a)):=fun l e1 e2=>by
  rw[e1,e2,hi2,hj2]
  exact hcase
 by_cases hex:∃ l∈LK,l.i=i∧l.j=j
 ·obtain⟨l,hl,e1,e2⟩:=hex
  obtain⟨q,hq⟩:=List.getElem?_of_mem hl
  have hf:=lkM_find hI hq
  rw[e1,e2] at hf
  refine(between_old h (tb:=S.tb) (pt:=S.pt) (lm:=S.lm) (mb:=S.mb) (TB:=S.TB) rfl rfl rfl hB hm hf).mono ?_
  rintro e W' ⟨rfl,hb'⟩
  exact⟨NV,LK,q,l,rfl,hq,hst l e1 e2,hNV,hI,(h.keep hb').base,hm.below hb' hm.lt⟩
 ·have hno:∀ l∈LK,¬(l.i=i∧l.j=j):=fun l hl hc=>hex ⟨l,hl,hc⟩
  have hvi:(NV.map NH.val)[i]?=some (NV.getD i ⟨none,0,0⟩).val:=by
   rw[List.getElem?_map,List.getD_eq_getElem?_getD,List.getElem?_eq_getElem (by omega)];rfl
  have hvj:(NV.map NH.val)[j]?=some (NV.getD j ⟨none,0,0⟩).val:=by
   rw[List.getElem?_map,List.getD_eq_getElem?_getD,List.getElem?_eq_getElem (by omega)];rfl
  refine(between_new h (tb:=S.tb) (pt:=S.pt) (lm:=S.lm) (mb:=S.mb) (s2:=S.q2) (TB:=S.TB) (NS:=NV.map NH.val) (pi:=8+i) (pj:=8+j) rfl rfl rfl rfl hB hm hlo (lkM_none hno) (by omega) (by omega) (by omega) (by omega) (app_get (arE_near hi1)) (app_get (arE_near hj1)) (hlen i hi1) (hlen j hj1) hvi hvj).mono ?_
  rintro e W' ⟨g,Ai,Aj,ci,cj,rfl,hP',hM'⟩
  have hlA:(arE S D.length NV LK).length=8+(D.length+(LK.length+LK.length)):=by unfold arE;simp[arF];omega
  have hC:=((hP'.nil 67 5).perm ((List.Perm.append_right _ (btL_app (by omega) (by omega) (by omega))).trans ((app_swap _ X _).trans (List.Perm.append_right X (bt_perm hi1 hj1 (by omega) hNV))))).base
  have hgl:(LK++[newL i j g])[LK.length]?=some (newL i j g):=by rw[List.getElem?_append_right (Nat.le_refl _),Nat.sub_self];rfl
  refine⟨_,LK++[newL i j g],LK.length,newL i j g,rfl,hgl,hst _ rfl rfl,by rw[List.length_set,List.length_set];exact hNV,?_,hC,?_⟩
  ·refine hI.more hnd hij hj1 hno (fun l hl e=>?_) hup
   obtain⟨q,hq⟩:=List.getElem?_of_mem hl
   have hql:=(List.getElem?_eq_some_iff.1 hq).1
   have h1:=arE_blk (S:=S) (n:=D.length) (NV:=(NV.set i ⟨Ai,(nbs LK i).length+1,ci⟩).set j ⟨Aj,(nbs LK j).length+1,cj⟩) (show (LK++[newL i j g])[q]?=some l by rw[List.getElem?_append_left hql];exact hq)
   have h2:=arE_blk (S:=S) (n:=D.length) (NV:=(NV.set i ⟨Ai,(nbs LK i).length+1,ci⟩).set j ⟨Aj,(nbs LK j).length+1,cj⟩) hgl
   exact hC.ne _ _ (app_get h1) (app_get h2) (by omega) (g:=l.g) rfl (by show some g=some l.g;rw[e])
  ·rw[lkM_snoc hno];exact hM'
theorem nbs_set {LK:List Lk} {q:Nat} {l l':Lk} (hq:LK[q]?=some l) (hi:l'.i=l.i) (hj:l'.j=l.j) (hg:l'.g=l.g) (k:Nat):nbs (LK.set q l') k=nbs LK k:=by
 unfold nbs
 have e:(LK.set q l').map (fun l:Lk=>l.nb k)=LK.map (fun l:Lk=>l.nb k):=by
  rw[List.map_set]
  have:l'.nb k=l.nb k:=by unfold Lk.nb;rw[hi,hj,hg]
  rw[this]
  apply List.ext_getElem?
  intro p
  rw[List.getElem?_set]
  by_cases hp:q=p
  ·subst hp
   rw[if_pos rfl,if_pos (by rw[List.length_map];exact(List.getElem?_eq_some_iff.1 hq).1),List.getElem?_map,hq];rfl
  ·rw[if_neg hp]
 have f:∀ L:List Lk,L.filterMap (fun l=>l.nb k)=(L.map fun l:Lk=>l.nb k).filterMap id:=fun L=>by rw[List.filterMap_map];rfl
 rw[f,f,e]
theorem set_far {α:Type} {n m q:Nat} (F N B R:List α) (hF:F.length=8) (hN:N.length=n) (hB:B.length=m) {e:α}:(F++(N++(B++R))).set (8+n+m+q) e=F++(N++(B++R.set q e)):=by
 rw[List.set_append_right _ _ (by omega),List.set_append_right _ _ (by omega),List.set_append_right _ _ (by omega)]
 congr 4
 omega
theorem set_mid {α:Type} {n q:Nat} (F N B R:List α) (hF:F.length=8) (hN:N.length=n) (hB:q<B.length) {e:α}:(F++(N++(B++R))).set (8+n+q) e=F++(N++(B.set q e++R)):=by
 rw[List.set_append_right _ _ (by omega),List.set_append_right _ _ (by omega),List.set_append_left _ _ (by omega)]
 congr 4
 omega
theorem arE_setL {S:ArS} {n:Nat} {NV:List NH} {LK:List Lk} {q:Nat} {l l':Lk} (hq:LK[q]?=some l) (hi:l'.i=l.i) (hj:l'.j=l.j) (hg:l'.g=l.g):
  ((arE S n NV LK).set (8+n+LK.length+q) (lkR l')).set (8+n+q) (lkB l')=arE S n NV (LK.set q l'):=by
 have hql:=(List.getElem?_eq_some_iff.1 hq).1
 have e0:(List.range n).map (nrE NV (LK.set q l'))=(List.range n).map (nrE NV LK):=by
  apply List.map_congr_left
  intro k _
  unfold nrE
  rw[nbs_set hq hi hj hg]
 unfold arE
 rw[e0]
 have l1:(arF S (NV.map NH.val)).length=8:=rfl
 have l2:((List.range n).map (nrE NV LK)).length=n:=by rw[List.length_map,List.length_range]
 rw[set_far _ _ _ _ l1 l2 (by rw[List.length_map]),set_mid _ _ _ _ l1 l2 (by rw[List.length_map];exact hql),←List.map_set,←List.map_set]
theorem mem_setL {LK:List Lk} {q:Nat} {l' m:Lk} (h:m∈LK.set q l'):m=l'∨∃ p,p≠q∧LK[p]?=some m:=by
 obtain⟨p,hp⟩:=List.getElem?_of_mem h
 rw[List.getElem?_set] at hp
 by_cases hpq:q=p
 ·subst hpq
  rw[if_pos rfl] at hp
  split at hp
  ·cases hp;exact .inl rfl
  ·cases hp
 ·rw[if_neg hpq] at hp
  exact .inr ⟨p,fun e=>hpq e.symm,hp⟩
theorem LkI.skel {D:Dms} {caps:List R4} {P Ls P' Ls':List R5} {LK:List Lk} (h:LkI D caps P Ls LK) {q:Nat} {l l':Lk} (hq:LK[q]?=some l) (hi:l'.i=l.i) (hj:l'.j=l.j) (hg:l'.g=l.g)
  (h1:l'.ps=P'.filter fun x=>decide (x.a=stA D l.i∧x.b=stA D l.j)) (h2:l'.sh<18446744073709551616∧∀ c:Int,2≤c→c≤51→l'.sh.testBit c.toNat=Ls'.any (ldB caps (stA D l.i) c (stA D l.j)))
  (g1:∀ m∈LK,¬(m.i=l.i∧m.j=l.j)→m.ps=P'.filter fun x=>decide (x.a=stA D m.i∧x.b=stA D m.j)) (g2:∀ m∈LK,¬(m.i=l.i∧m.j=l.j)→∀ c:Int,2≤c→c≤51→m.sh.testBit c.toNat=Ls'.any (ldB caps (stA D m.i) c (stA D m.j)))
  (c1:∀ x∈P',∃ m∈LK,stA D m.i=x.a∧stA D m.j=x.b) (c2:∀ x∈Ls',∃ m∈LK,(stA D m.i=x.a∧stA D m.j=x.b)∨(stA D m.i=x.b∧stA D m.j=x.a)):LkI D caps P' Ls' (LK.set q l'):=by
 have hlm:=List.mem_of_getElem? hq
 have hql:=(List.getElem?_eq_some_iff.1 hq).1
 have hne:∀ p m,p≠q→LK[p]?=some m→¬(m.i=l.i∧m.j=l.j):=by
  intro p m hpq hp
  obtain⟨a1,e1⟩:=List.getElem?_eq_some_iff.1 hp
  obtain⟨a2,e2⟩:=List.getElem?_eq_some_iff.1 hq
  rcases Nat.lt_trichotomy p q with hlt | heq | hgt
  ·have:=List.pairwise_iff_getElem.1 h.un p q a1 a2 hlt
   rw[e1,e2] at this;exact this
  ·exact absurd heq hpq
  ·have:=List.pairwise_iff_getElem.1 h.un q p a2 a1 hgt
   rw[e1,e2] at this
   exact fun hc=>this ⟨hc.1.symm,hc.2.symm⟩
 have hof:∀ m∈LK,∃ m'∈LK.set q l',m'.i=m.i∧m'.j=m.j:=by
  intro m hm
  obtain⟨p,hp⟩:=List.getElem?_of_mem hm
  by_cases hpq:p=q
  ·subst hpq
   rw[hq] at hp;cases hp
   exact⟨l',List.mem_of_getElem? (List.getElem?_set_self hql),hi,hj⟩
  ·exact⟨m,List.mem_of_getElem? (show (LK.set q l')[p]?=some m by rw[List.getElem?_set_ne (fun e=>hpq e.symm)];exact hp),rfl,rfl⟩
 refine⟨fun m hm=>?_,?_,?_,fun m hm=>?_,fun m hm=>?_,fun x hx=>?_,fun x hx=>?_⟩
 ·rcases mem_setL hm with rfl | ⟨p,_,hp⟩
  ·rw[hi,hj];exact h.ij l hlm
  ·exact h.ij m (List.mem_of_getElem? hp)
 ·have e:(LK.set q l').map (fun m:Lk=>(m.i,m.j))=LK.map (fun m:Lk=>(m.i,m.j)):=by
   rw[List.map_set]
   apply List.ext_getElem?
   intro p
   rw[List.getElem?_set]
   by_cases hp:q=p
   ·subst hp
    rw[if_pos rfl,if_pos (by rw[List.length_map];exact hql),List.getElem?_map,hq,hi,hj];rfl
   ·rw[if_neg hp]
  have h3:(LK.map fun m:Lk=>(m.i,m.j)).Pairwise (fun a b=>¬(a.1=b.1∧a.2=b.2)):=List.pairwise_map.2 h.un
  rw[←e] at h3
  exact List.pairwise_map.1 h3
 ·have e:(LK.set q l').map Lk.g=LK.map Lk.g:=by
   rw[List.map_set]
   apply List.ext_getElem?
   intro p
   rw[List.getElem?_set]
   by_cases hp:q=p
   ·subst hp
    rw[if_pos rfl,if_pos (by rw[List.length_map];exact hql),List.getElem?_map,hq,hg];rfl
   ·rw[if_neg hp]
  rw[e];exact h.gs
 ·rcases mem_setL hm with rfl | ⟨p,hpq,hp⟩
  ·rw[hi,hj];exact h1
  ·exact g1 m (List.mem_of_getElem? hp) (hne p m hpq hp)
 ·rcases mem_setL hm with rfl | ⟨p,hpq,hp⟩
  ·rw[hi,hj];exact h2
  ·exact⟨(h.sh m (List.mem_of_getElem? hp)).1,g2 m (List.mem_of_getElem? hp) (hne p m hpq hp)⟩
 ·obtain⟨m,hm,e1,e2⟩:=c1 x hx
  obtain⟨m',hm',f1,f2⟩:=hof m hm
  exact⟨m',hm',by rw[f1];exact e1,by rw[f2];exact e2⟩
 ·obtain⟨m,hm,e⟩:=c2 x hx
  obtain⟨m',hm',f1,f2⟩:=hof m hm
  exact⟨m',hm',by rw[f1,f2];exact e⟩
theorem lkM_set {LK:List Lk} {q:Nat} {l l':Lk} (hq:LK[q]?=some l) (hi:l'.i=l.i) (hj:l'.j=l.j) (hg:l'.g=l.g):lkM (LK.set q l')=lkM LK:=by
 funext y
 unfold lkM
 have key:∀(LK:List Lk) (q:Nat),LK[q]?=some l→((LK.set q l').find? fun m=>decide ((m.i:Int)=y.1∧(m.j:Int)=y.2)).map (fun m=>Value.pointer (some ⟨m.g,0,none⟩))=(LK.find? fun m=>decide ((m.i:Int)=y.1∧(m.j:Int)=y.2)).map (fun m=>Value.pointer (some ⟨m.g,0,none⟩)):=by
  intro LK
  induction LK with
  | nil=>intro q h;cases h
  | cons m r ih=>
   intro q h
   cases q with
   | zero=>
    simp only[List.getElem?_cons_zero,Option.some.injEq] at h
    subst h
    rw[List.set_cons_zero,List.find?_cons,List.find?_cons,hi,hj]
    split
    ·simp[hg]
    ·rfl
   | succ q=>
    rw[List.getElem?_cons_succ] at h
    rw[List.set_cons_succ,List.find?_cons,List.find?_cons]
    split
    ·rfl
    ·exact ih q h
 exact key LK q hq
theorem LkI.pair {D:Dms} {caps:List R4} {P Ls:List R5} {LK:List Lk} (h:LkI D caps P Ls LK) (hnd:(D.map Prod.fst).Nodup) {q:Nat} {l:Lk} (hq:LK[q]?=some l) {x:R5} (hx:stA D l.i=x.a∧stA D l.j=x.b) (A:Option Addr) (c:Nat):LkI D caps (P++[x]) Ls (LK.set q ⟨l.i,l.j,l.g,A,c,l.ps++[x],l.sh⟩):=by
 have hlm:=List.mem_of_getElem? hq
 refine h.skel hq rfl rfl rfl ?_ (h.sh l hlm) (fun m hm hne=>?_) (fun m hm _=>(h.sh m hm).2) (fun y hy=>?_) h.cl
 ·rw[List.filter_append,←h.ps l hlm]
  congr 1
  rw[List.filter_cons,if_pos (by rw[decide_eq_true_eq];exact⟨hx.1.symm,hx.2.symm⟩)];rfl
 ·rw[List.filter_append,←h.ps m hm,List.filter_cons,if_neg]
  ·simp
  ·rw[decide_eq_true_eq]
   rintro⟨e1,e2⟩
   have i1:=h.ij l hlm
   have i2:=h.ij m hm
   exact hne ⟨st_inj hnd (by omega) (by omega) (e1.symm.trans hx.1.symm),st_inj hnd (by omega) (by omega) (e2.symm.trans hx.2.symm)⟩
 ·rcases List.mem_append.1 hy with hy | hy
  ·exact h.cp y hy
  ·rw[List.mem_singleton] at hy;subst hy;exact⟨l,hlm,hx⟩
theorem LkI.load {D:Dms} {caps:List R4} {P Ls:List R5} {LK:List Lk} (h:LkI D caps P Ls LK) (hnd:(D.map Prod.fst).Nodup) {q:Nat} {l:Lk} (hq:LK[q]?=some l) {x:R5} (hx:(stA D l.i=x.a∧stA D l.j=x.b)∨(stA D l.i=x.b∧stA D l.j=x.a)) (hup:∀ a b,a<b→b<D.length→stA D a<stA D b)
  {M:Nat} (hM:M<18446744073709551616) (hb:∀ c:Int,2≤c→c≤51→M.testBit c.toNat=(decide (x.d≤c)&&(decide (c≤x.e)&&capF caps x.a c))):LkI D caps P (Ls++[x]) (LK.set q ⟨l.i,l.j,l.g,l.A,l.c,l.ps,l.sh ||| M⟩):=by
 have hlm:=List.mem_of_getElem? hq
 have i1:=h.ij l hlm
 have u1:=hup _ _ i1.1 i1.2
 refine h.skel hq rfl rfl rfl (h.ps l hlm) ⟨or_lt64 (h.sh l hlm).1 hM,fun c hc1 hc2=>?_⟩ (fun m hm _=>h.ps m hm) (fun m hm hne c hc1 hc2=>?_) h.cp (fun y hy=>?_)
 ·show (l.sh ||| M).testBit c.toNat=_
  rw[Nat.testBit_or,(h.sh l hlm).2 c hc1 hc2,hb c hc1 hc2,List.any_append]
  congr 1
  simp only[List.any_cons,List.any_nil,Bool.or_false]
  unfold ldB
  have:((decide (x.a=stA D l.i)&&decide (x.b=stA D l.j))||(decide (x.a=stA D l.j)&&decide (x.b=stA D l.i)))=true:=by
   rw[Bool.or_eq_true,Bool.and_eq_true,Bool.and_eq_true,decide_eq_true_eq,decide_eq_true_eq,decide_eq_true_eq,decide_eq_true_eq]
   rcases hx with ⟨a,b⟩ | ⟨a,b⟩
   ·exact .inl ⟨a.symm,b.symm⟩
   ·exact .inr ⟨b.symm,a.symm⟩
  rw[this,Bool.true_and]
 ·rw[List.any_append,(h.sh m hm).2 c hc1 hc2]
  have i2:=h.ij m hm
  have u2:=hup _ _ i2.1 i2.2
  have:[x].any (ldB caps (stA D m.i) c (stA D m.j))=false:=by
   simp only[List.any_cons,List.any_nil,Bool.or_false]
   unfold ldB
   have:((decide (x.a=stA D m.i)&&decide (x.b=stA D m.j))||(decide (x.a=stA D m.j)&&decide (x.b=stA D m.i)))=false:=by
    rw[←Bool.not_eq_true,Bool.or_eq_true,Bool.and_eq_true,Bool.and_eq_true,decide_eq_true_eq,decide_eq_true_eq,decide_eq_true_eq,decide_eq_true_eq]
    intro hc
    have key:stA D m.i=stA D l.i∧stA D m.j=stA D l.j:=by
     rcases hx with ⟨a,b⟩ | ⟨a,b⟩<;>rcases hc with ⟨a',b'⟩ | ⟨a',b'⟩<;>constructor<;>omega
    exact hne ⟨st_inj hnd (by omega) (by omega) key.1,st_inj hnd (by omega) (by omega) key.2⟩
   rw[this];rfl
  rw[this,Bool.or_false]
 ·rcases List.mem_append.1 hy with hy | hy
  ·exact h.cl y hy
  ·rw[List.mem_singleton] at hy;subst hy;exact⟨l,hlm,hx⟩
theorem LkI.start (D:Dms) (caps:List R4):LkI D caps [] [] []:=⟨fun _ h=>(by cases h),List.Pairwise.nil,List.Pairwise.nil,fun _ h=>(by cases h),fun _ h=>(by cases h),fun _ h=>(by cases h),fun _ h=>(by cases h)⟩
theorem Hp.nils {w u W:World} {L:List Ent} {ds:List Nat} (h:Hp w u W L ds) (t size:Nat):∀ n,Hp w u W (L++List.replicate n (.row (.slice none 0 0) t size 0 [])) ds
 | 0=>by rw[List.replicate_zero,List.append_nil];exact h
 | n+1=>by
  have:=(Hp.nils h t size n).nil t size
  rw[List.append_assoc,←List.replicate_succ'] at this
  exact this
theorem arE_start (S:ArS) (n:Nat):arE S n (List.replicate n ⟨none,0,0⟩) []=arF S (List.replicate n (.slice none 0 0))++List.replicate n (Ent.row (.slice none 0 0) 105 3 0 []):=by
 unfold arE
 rw[List.map_replicate,List.map_nil,List.map_nil,List.append_nil,List.append_nil]
 congr 1
 apply List.ext_getElem?
 intro k
 by_cases hk:k<n
 ·rw[List.getElem?_map,List.getElem?_range hk,List.getElem?_replicate,if_pos hk,Option.map_some]
  unfold nrE
  rw[List.getD_eq_getElem?_getD,List.getElem?_replicate,if_pos hk];rfl
 ·rw[List.getElem?_eq_none (by rw[List.length_map,List.length_range];omega),List.getElem?_eq_none (by rw[List.length_replicate];omega)]
theorem nbs_nodup {D:Dms} {caps:List R4} {P Ls:List R5} {LK:List Lk} (h:LkI D caps P Ls LK) (k:Nat):((nbs LK k).map Nb.o).Nodup:=by
 have key:∀ L:List Lk,(∀ l∈L,l.i<l.j)→L.Pairwise (fun l m=>¬(l.i=m.i∧l.j=m.j))→((nbs L k).map Nb.o).Nodup∧∀ o∈(nbs L k).map Nb.o,∃ l∈L,(l.i=k∧l.j=o)∨(l.j=k∧l.i=o):=by
  intro L
  induction L with
  | nil=>intro _ _;exact⟨List.nodup_nil,fun _ h=>(by cases h)⟩
  | cons l r ih=>
   intro h1 h2
   rw[List.pairwise_cons] at h2
   obtain⟨i1,i2⟩:=ih (fun m hm=>h1 m (by simp[hm])) h2.2
   have hl:=h1 l (by simp)
   unfold nbs at i1 i2 ⊢
   rw[List.filterMap_cons]
   unfold Lk.nb at i1 i2 ⊢
   by_cases c1:l.i=k
   ·rw[if_pos c1]
    dsimp only
    rw[List.map_cons,List.nodup_cons]
    refine⟨⟨fun hm=>?_,i1⟩,fun o ho=>?_⟩
    ·obtain⟨m,hm1,hc⟩:=i2 _ hm
     have hm2:=h1 m (by simp[hm1])
     rcases hc with ⟨a,b⟩ | ⟨a,b⟩
     ·have b:m.j=l.j:=b
      exact h2.1 m hm1 ⟨by omega,b.symm⟩
     ·have b:m.i=l.j:=b
      omega
    ·rcases List.mem_cons.1 ho with rfl | ho
     ·exact⟨l,by simp,.inl ⟨c1,rfl⟩⟩
     ·obtain⟨m,hm1,hc⟩:=i2 o ho
      exact⟨m,by simp[hm1],hc⟩
   ·rw[if_neg c1]
    by_cases c2:l.j=k
    ·rw[if_pos c2]
     dsimp only
     rw[List.map_cons,List.nodup_cons]
     refine⟨⟨fun hm=>?_,i1⟩,fun o ho=>?_⟩
     ·obtain⟨m,hm1,hc⟩:=i2 _ hm
      have hm2:=h1 m (by simp[hm1])
      rcases hc with ⟨a,b⟩ | ⟨a,b⟩
      ·have b:m.j=l.i:=b
       omega
      ·have b:m.i=l.i:=b
       exact h2.1 m hm1 ⟨b.symm,by omega⟩
     ·rcases List.mem_cons.1 ho with rfl | ho
      ·exact⟨l,by simp,.inr ⟨c2,rfl⟩⟩
      ·obtain⟨m,hm1,hc⟩:=i2 o ho
       exact⟨m,by simp[hm1],hc⟩
    ·rw[if_neg c2]
     dsimp only
     exact⟨i1,fun o ho=>by
      obtain⟨m,hm1,hc⟩:=i2 o ho
      exact⟨m,by simp[hm1],hc⟩⟩
 exact(key LK (fun l hl=>(h.ij l hl).1) h.un).1
theorem nbs_at {D:Dms} {caps:List R4} {P Ls:List R5} {LK:List Lk} (h:LkI D caps P Ls LK) {k:Nat} {x:Nb} (hx:x∈nbs LK k):∃ l∈LK,x.g=l.g∧((l.i=k∧l.j=x.o∧x.f=true)∨(l.j=k∧l.i=x.o∧x.f=false)):=by
 unfold nbs at hx
 obtain⟨l,hl,hn⟩:=List.mem_filterMap.1 hx
 have hlt:=h.ij l hl
 unfold Lk.nb at hn
 by_cases c1:l.i=k
 ·rw[if_pos c1] at hn;cases hn;exact⟨l,hl,rfl,.inl ⟨c1,rfl,rfl⟩⟩
 ·rw[if_neg c1] at hn
  by_cases c2:l.j=k
  ·rw[if_pos c2] at hn;cases hn;exact⟨l,hl,rfl,.inr ⟨c2,rfl,rfl⟩⟩
  ·rw[if_neg c2] at hn;cases hn
theorem nbs_len {D:Dms} {caps:List R4} {P Ls:List R5} {LK:List Lk} (h:LkI D caps P Ls LK) (k:Nat) (hk:k<D.length):(nbs LK k).length≤D.length:=by
 have:=nat_len (nbs_nodup h k) (n:=D.length) (fun o ho=>by
  obtain⟨x,hx,rfl⟩:=List.mem_map.1 ho
  obtain⟨l,hl,_,hc⟩:=nbs_at h hx
  have:=h.ij l hl
  rcases hc with ⟨_,b,_⟩ | ⟨_,b,_⟩<;>omega)
 rwa [List.length_map] at this
end Go.Proofs.YtjakdikhdndlgaaGreatDoor
