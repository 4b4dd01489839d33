/- REDUCE BLOCKS: for every problem and every two stations,the law ReduceBlocks returns true,and the input reads as it did. Conditions: none beyond the card's own. Printed by genlaw19a.py. -/
import Derived.Test.YtjakdikhdndlgaaGreatDoorBas28
set_option maxRecDepth 100000
set_option maxHeartbeats 20000000
namespace Go.Proofs.YtjakdikhdndlgaaGreatDoor
open Go.RowKit Go.ChangeShapes Go.WideShapes Go.ChangeAt Go.Deep
section
variable {H : Type} {enc : TypeId × Value → H} {P : Program} {w : World} {base b0 : Nat} {spare : Nat → Bool} {held : Bool} {r : Reach}
theorem arg_int {t:TypeId} {v:Value} {d:DataW H} {p:List MemPlace} (ht:P.underlying t=some (.int .i64)) (hv:Value.okWide P w r b0 t v) (h:DataW.Trod enc P w base spare held t v d p):
  ∃ a,v=.int .i64 a∧I64 a:=by
 obtain⟨a,rfl,_,_,wa⟩:=open_int ht hv h
 exact⟨a,rfl,i64_of_wf wa⟩
end
end Go.Proofs.YtjakdikhdndlgaaGreatDoor
namespace Go.Proofs.YtjakdikhdndlgaaGreatDoor
open Go.RowKit Go.Shelf
theorem ixF_some {D:Dms} {s:Int} (h:s∈D.map Prod.fst):∃ i,ixF D s=some i∧i<D.length∧stA D i=s:=by
 cases e:ixF D s with
 | none=>exact absurd h (ixF_none.1 e)
 | some i=>exact⟨i,rfl,ixF_lt e⟩
theorem blkR_no {ds:List Dom} {r:Rul} {s t:Int} (hv:validP ds r=true) (h:¬(s∈ds.map Dom.st∧t∈ds.map Dom.st)):blkR ds r s t=(0,9):=by
 unfold blkR
 rw[if_pos hv]
 rw[←say_st] at h
 by_cases hs:s∈(ds.map Dom.say).map Prod.fst
 ·obtain⟨i,h1,_⟩:=ixF_some hs
  rw[h1,ixF_none.2 (fun ht=>h ⟨hs,ht⟩)];rfl
 ·rw[ixF_none.2 hs];rfl
theorem blkR_yes {ds:List Dom} {r:Rul} {s t:Int} (hv:validP ds r=true) (hs:s∈ds.map Dom.st) (ht:t∈ds.map Dom.st):blkR ds r s t=(blN (ds.map Dom.say) r s t,0):=by
 unfold blkR
 rw[if_pos hv]
 rw[←say_st] at hs ht
 obtain⟨i,h1,_,h2⟩:=ixF_some hs
 obtain⟨j,h3,_,h4⟩:=ixF_some ht
 rw[h1,h3]
 show (bN _ r i j,(0:Int))=_
 unfold bN
 rw[h2,h4]
end Go.Proofs.YtjakdikhdndlgaaGreatDoor
namespace Go.Proofs.YtjakdikhdndlgaaGreatDoor
open Go.RowKit Go.Shelf Go.ChangeShapes Go.WideShapes Go.ChangeAt Go.Deep Go.Joins
theorem reduceBlocks_walk (w:World) (hT:Tab w) (ps:PrbS) (ds:List Dom) (r:Rul) (R0:PrbAt w w.heap.size ps ds r∧ps.nd≤9223372036854775807) (s:Int) (_:I64 s) (t:Int) (_:I64 t):
  Calls Tryz.prog 5 #[ps.val,.int .i64 s,.int .i64 t] w fun e W'=>e=.returned (.bool true)∧Below w.heap.size w W':=by
 have HSM:=Lib.hid (fun (W:World) (hb:Below w.heap.size w W)=>lsmall_any ps W ds r R0.2 ⟨R0.1.1.keep hb,R0.1.2.keep hb⟩)
 have hnl:ds.length=ps.nd:=R0.1.1.1.1
 have hdl:∀ d∈ds,d.len=d.chs.length:=fun d hd=>(R0.1.1.2 d hd).1.symm
 have HSP:Hid (smF ds r 10 40=true→ps.nd≤10∧(∀ d∈ds,d.len≤60)∧r.pairs.length≤40∧r.loads.length≤40∧r.caps.length≤40):=Lib.hid (fun h=>by
  obtain⟨h1,h2,h3,h4,h5⟩:=smF_spec (by decide) h
  exact⟨by omega,h2,by omega,by omega,by omega⟩)
 have HVA:=Lib.hid (fun (W:World) (hb:Below w.heap.size w W)=>rvalid_any ps W ds r R0.2 ⟨R0.1.1.keep hb,R0.1.2.keep hb⟩)
 rw[←valid_eq hdl] at HVA
 have HKN:=Lib.hid (fun (W:World) (hb:Below w.heap.size w W)=>known_any W (hT.keep hb))
 have HPB:=Lib.hid (fun (W:World) (hb:Below w.heap.size w W)=>(⟨R0.1.1.keep hb,R0.1.2.keep hb⟩:PrbAt W W.heap.size ps ds r))
 have HDL:=Lib.hid hdl
 have HTW:=Lib.hid hT
 have HND:=Lib.hid R0.2
 obtain⟨W0,hW0⟩:∃ W0,W0=w.alloc (.cells #[.slice ps.ad ps.nd ps.cd,.slice ps.rs.a0 ps.rs.n0 ps.rs.c0,.slice ps.rs.a1 ps.rs.n1 ps.rs.c1,.slice ps.rs.a2 ps.rs.n2 ps.rs.c2] 29):=⟨_,rfl⟩
 have HX0:Hid (Blk W0 w.heap.size 29 [.slice ps.ad ps.nd ps.cd,.slice ps.rs.a0 ps.rs.n0 ps.rs.c0,.slice ps.rs.a1 ps.rs.n1 ps.rs.c1,.slice ps.rs.a2 ps.rs.n2 ps.rs.c2]):=Lib.hid (by rw[hW0];exact blk_new w _ _)
 have hB0:Below w.heap.size w W0:=by rw[hW0];exact(Below.refl _ w).alloc (Nat.le_refl _) _
 have HQ:=Lib.hid (fun (W:World) (hb:Below W0.heap.size W0 W)=>(by
  have hx:=HX0.out.keep hb
  exact⟨hx.cell (i:=0) rfl,hx.cell (i:=1) rfl,hx.cell (i:=2) rfl,hx.cell (i:=3) rfl,hx.lt⟩:W.cell? ⟨w.heap.size,0,none⟩=some (.slice ps.ad ps.nd ps.cd)∧W.cell? ⟨w.heap.size,1,none⟩=some (.slice ps.rs.a0 ps.rs.n0 ps.rs.c0)∧W.cell? ⟨w.heap.size,2,none⟩=some (.slice ps.rs.a1 ps.rs.n1 ps.rs.c1)∧W.cell? ⟨w.heap.size,3,none⟩=some (.slice ps.rs.a2 ps.rs.n2 ps.rs.c2)∧w.heap.size<W.heap.size))
 have HB0:=Lib.hid hB0
 have HS0:=Lib.hid (HSM.out W0 hB0)
 obtain⟨q0,q1,q2,q3,q4⟩:=HQ.out W0 (Below.refl _ _)
 unfold PrbS.val at *
 clear R0 hnl hdl hT hB0 HSM
 generalize hsm:smF ds r 10 40=sm at *
 clear hsm
 go_enter Tryz.func5,Tryz.ntmps5
 go_upto_region 1 with fail
 rw[←hW0]
 clear hW0
 go_wp2_with fail
 refine HS0.out.mono ?_
 rintro e W1 ⟨rfl,hb1⟩
 have HF1:=Lib.hid hb1
 have HB1:=Lib.hid (HB0.out.trans (hb1.mono HB0.out.size))
 clear hb1 q0 q1 q2 q3 q4 HS0
 cases sm with
 | false=>
  go_wp2_with fail
  refine(HKN.out _ HB1.out).mono ?_
  rintro e W2 ⟨rfl,hb2⟩
  have HB:=Lib.hid (HB1.out.trans (hb2.mono HB1.out.size))
  clear hb2
  go_wp2_with fail
  go_ret
  exact⟨rfl,HB.out⟩
 | true=>
  obtain⟨hn10,hd60,hp40,hl40,hc40⟩:=HSP.out rfl
  have hBK:=rblocks_any s t ps W1 (HTW.out.keep HB1.out) ds r HND.out (fun d hd=>by have:=hd60 d hd;omega) (HPB.out W1 HB1.out)
  unfold PrbS.val at hBK
  have hch:∀ d∈ds,d.chs.length≤1000:=fun d hd=>by have:=hd60 d hd;have:=HDL.out d hd;omega
  have HRF:=Lib.hid (fun (hs:s∈ds.map Dom.st) (ht:t∈ds.map Dom.st) (W:World) (hb:Below w.heap.size w W)=>refblocks_any ps s t W ds r (by omega) (by omega) (by omega) (by omega) hch hs ht (HPB.out W hb))
  have HFS:=Lib.hid (fun (x:Int) (W:World) (hb:Below w.heap.size w W)=>rfind_any ps x W ds HND.out (HPB.out W hb).1)
  unfold PrbS.val at HRF HFS
  obtain⟨q0,q1,q2,q3,q4⟩:=HQ.out W1 HF1.out
  have HVV:Hid (validP ds r=false→blkR ds r s t=(0,2)):=Lib.hid (fun h=>by unfold blkR;rw[h];rfl)
  have HNO:Hid (validP ds r=true→¬(s∈ds.map Dom.st∧t∈ds.map Dom.st)→blkR ds r s t=(0,9)):=Lib.hid (fun h h2=>blkR_no h h2)
  have HYE:Hid (validP ds r=true→s∈ds.map Dom.st→t∈ds.map Dom.st→blkR ds r s t=(blN (ds.map Dom.say) r s t,0)):=Lib.hid (fun h h2 h3=>blkR_yes h h2 h3)
  have HFN:=Lib.hid (fun x=>findD_neg x ds 0)
  obtain⟨nb,eb,hbr⟩:∃ nb eb,blkR ds r s t=(nb,eb):=⟨_,_,rfl⟩
  rw[hbr] at hBK HVV HNO HYE
  have HBK:=Lib.hid hBK
  generalize blN (ds.map Dom.say) r s t=bn at *
  generalize validP ds r=vv at *
  have HHH:=Lib.hid (And.intro hn10 (And.intro hp40 (And.intro hl40 hc40)))
  clear hbr hBK hn10 hd60 hp40 hl40 hc40 hch HSP
  go_wp2_with fail
  refine HBK.out.mono ?_
  rintro e W2 ⟨rfl,hb2⟩
  have HF2:=Lib.hid (HF1.out.trans (hb2.mono HF1.out.size))
  have HB2:=Lib.hid (HB1.out.trans (hb2.mono HB1.out.size))
  clear hb2 q0 q1 q2 q3 q4 HBK
  obtain⟨q0,q1,q2,q3,q4⟩:=HQ.out W2 HF2.out
  go_wp2_with fail
  refine(HVA.out W2 HB2.out).mono ?_
  rintro e W3 ⟨rfl,hb3⟩
  have HF3:=Lib.hid (HF2.out.trans (hb3.mono HF2.out.size))
  have HB3:=Lib.hid (HB2.out.trans (hb3.mono HB2.out.size))
  clear hb3 q0 q1 q2 q3 q4
  cases vv with
  | false=>
   obtain⟨rfl,rfl⟩:=Prod.mk.inj (HVV.out rfl)
   go_wp2_with fail
   refine(HKN.out _ HB3.out).mono ?_
   rintro e W9 ⟨rfl,hb9⟩
   have HB9:=Lib.hid (Below.trans HB3.out (hb9.mono (Below.size HB3.out)))
   clear hb9
   go_wp2_with fail
   go_ret
   exact⟨rfl,HB9.out⟩
  | true=>
   obtain⟨q0,q1,q2,q3,q4⟩:=HQ.out W3 HF3.out
   have HFS1:=Lib.hid (HFS.out s W3 HB3.out)
   have hfs:=HFN.out s
   by_cases hs:s∈ds.map Dom.st
   ·rw[decide_eq_true hs,Bool.not_true,decide_eq_false_iff_not] at hfs
    have HFT:=HFN.out t
    have HFT1:=Lib.hid (fun (W:World) (hb:Below w.heap.size w W)=>HFS.out t W hb)
    generalize findD s 0 ds=fs at *
    generalize findD t 0 ds=ft at *
    have hft:=HFT
    clear HFT
    by_cases ht:t∈ds.map Dom.st
    ·rw[decide_eq_true ht,Bool.not_true,decide_eq_false_iff_not] at hft
     obtain⟨rfl,rfl⟩:=Prod.mk.inj (HYE.out rfl hs ht)
     have HRF1:=Lib.hid (HRF.out hs ht)
     clear hs ht
     go_wp2_with fail
     refine HFS1.out.mono ?_
     rintro e W4 ⟨rfl,hb4⟩
     have HF4:=Lib.hid (HF3.out.trans (hb4.mono HF3.out.size))
     have HB4:=Lib.hid (HB3.out.trans (hb4.mono HB3.out.size))
     clear hb4 q0 q1 q2 q3 q4
     obtain⟨q0,q1,q2,q3,q4⟩:=HQ.out W4 HF4.out
     go_wp2_with fail
     refine(HFT1.out W4 HB4.out).mono ?_
     rintro e W5 ⟨rfl,hb5⟩
     have HF5:=Lib.hid (HF4.out.trans (hb5.mono HF4.out.size))
     have HB5:=Lib.hid (HB4.out.trans (hb5.mono HB4.out.size))
     clear hb5 q0 q1 q2 q3 q4
     obtain⟨q0,q1,q2,q3,q4⟩:=HQ.out W5 HF5.out
     go_wp2_with fail
     refine(HRF1.out W5 HB5.out).mono ?_
     rintro e W6 ⟨rfl,hb6⟩
     have HB6:=Lib.hid (HB5.out.trans (hb6.mono HB5.out.size))
     clear hb6 q0 q1 q2 q3 q4
     go_wp2_with fail
     refine(HKN.out _ HB6.out).mono ?_
     rintro e W9 ⟨rfl,hb9⟩
     have HB9:=Lib.hid (Below.trans HB6.out (hb9.mono (Below.size HB6.out)))
     clear hb9
     go_wp2_with fail
     go_ret
     exact⟨rfl,HB9.out⟩
    ·rw[decide_eq_false ht,Bool.not_false,decide_eq_true_eq] at hft
     obtain⟨rfl,rfl⟩:=Prod.mk.inj (HNO.out rfl (fun h=>ht h.2))
     clear hs ht
     go_wp2_with fail
     refine HFS1.out.mono ?_
     rintro e W4 ⟨rfl,hb4⟩
     have HF4:=Lib.hid (HF3.out.trans (hb4.mono HF3.out.size))
     have HB4:=Lib.hid (HB3.out.trans (hb4.mono HB3.out.size))
     clear hb4 q0 q1 q2 q3 q4
     obtain⟨q0,q1,q2,q3,q4⟩:=HQ.out W4 HF4.out
     go_wp2_with fail
     refine(HFT1.out W4 HB4.out).mono ?_
     rintro e W5 ⟨rfl,hb5⟩
     have HB5:=Lib.hid (HB4.out.trans (hb5.mono HB4.out.size))
     clear hb5 q0 q1 q2 q3 q4
     go_wp2_with fail
     refine(HKN.out _ HB5.out).mono ?_
     rintro e W9 ⟨rfl,hb9⟩
     have HB9:=Lib.hid (Below.trans HB5.out (hb9.mono (Below.size HB5.out)))
     clear hb9
     go_wp2_with fail
     go_ret
     exact⟨rfl,HB9.out⟩
   ·rw[decide_eq_false hs,Bool.not_false,decide_eq_true_eq] at hfs
    obtain⟨rfl,rfl⟩:=Prod.mk.inj (HNO.out rfl (fun h=>hs h.1))
    generalize findD s 0 ds=fs at *
    clear hs
    go_wp2_with fail
    refine HFS1.out.mono ?_
    rintro e W4 ⟨rfl,hb4⟩
    have HB4:=Lib.hid (HB3.out.trans (hb4.mono HB3.out.size))
    clear hb4 q0 q1 q2 q3 q4
    go_wp2_with fail
    refine(HKN.out _ HB4.out).mono ?_
    rintro e W9 ⟨rfl,hb9⟩
    have HB9:=Lib.hid (Below.trans HB4.out (hb9.mono (Below.size HB4.out)))
    clear hb9
    go_wp2_with fail
    go_ret
    exact⟨rfl,HB9.out⟩
theorem reduceBlocks_lifted (os:Os) (started:os.Started) (H:Type) (enc:TypeId×Value→H):
  ReturnsInHanded {} Tryz.checked os 5 .any (fun w args=>(Rows.reduceBlocksSpec.pre enc Tryz.prog Tryz.f5 [] false w args∧laidMetH Tryz.prog laid07 w)∧sizedMet enc Tryz.prog Tryz.f5 (OpenSpec.ofChange Rows.reduceBlocksSpec) false w args) (Rows.reduceBlocksSpec.post enc Tryz.prog Tryz.f5 false true false false):=by
 refine handed_laid (C:=Tryz.checked) (laid:=laid07) own started (by kernel_rfl) Tryz.func5
  (ChangeSpec.witness_shaped (enc:=enc) (C:=Tryz.checked) (os:=os) (X:=fun w _=>laidMetH Tryz.prog laid07 w) false (World.laidAll Tryz.prog os laid07) #[.agg #[.slice none 0 0,.slice none 0 0,.slice none 0 0,.slice none 0 0],.int .i64 0,.int .i64 0] 8 (World.laidAll_os _ _ _) (World.shaped_of_ZipB (by kernel_rfl) (by kernel_rfl)) (by kernel_rfl) (by kernel_rfl) (by kernel_rfl) (laidHold os _)) ?_
 intro W base args ds gs before hval0 hW hL hsh
 have hTab:=tab_of hL hsh
 have hval:∀(j:Nat) t v,Tryz.f5.params[j]?=some t→args[j]?=some v→Value.okWide Tryz.prog W .any base t v:=hval0
 have hW':=hW
 obtain⟨p,q,hA0,hV,rfl,hfz,hnd⟩:=hW
 have hA:DataW.TrodAll enc Tryz.prog W 0 (fun _=>true) true Tryz.f5.params.toList args.toList ds p:=hA0
 rw[Tryz.params5] at hA hval
 obtain⟨v0,vs0,d0,ds0,p0,q0,hargs,rfl,rfl,h0,r0⟩:=trodAll_cons hA
 obtain⟨v1,vs1,d1,ds1,p1,q1,rfl,rfl,rfl,h1,r1⟩:=trodAll_cons r0
 obtain⟨v2,vs2,d2,ds2,p2,q2,rfl,rfl,rfl,h2,r2⟩:=trodAll_cons r1
 obtain⟨rfl,rfl,rfl⟩:=trodAll_nil r2
 obtain rfl:args=#[v0,v1,v2]:=by cases args;simp_all
 obtain⟨rfl,rfl⟩:=trodVars_none hV
 have k0:=h0
 have lt0:∀ x∈p0,x.block<W.heap.size:=by obtain⟨m,hm⟩:=k0;exact DataW.trod_lt m _ _ _ hm
 have k1:=h1
 have lt1:∀ x∈p1,x.block<W.heap.size:=by obtain⟨m,hm⟩:=k1;exact DataW.trod_lt m _ _ _ hm
 have k2:=h2
 have lt2:∀ x∈p2,x.block<W.heap.size:=by obtain⟨m,hm⟩:=k2;exact DataW.trod_lt m _ _ _ hm
 obtain⟨s0,ds0,x0,rfl,R0⟩:=arg_prb (hval 0 29 _ rfl rfl) h0
 obtain⟨x1,rfl,b1⟩:=arg_int Tryz.underlying3 (hval 1 3 _ rfl rfl) h1
 obtain⟨x2,rfl,b2⟩:=arg_int Tryz.underlying3 (hval 2 3 _ rfl rfl) h2
 clear hA0 hval0
 refine(reduceBlocks_walk W hTab s0 ds0 x0 R0 x1 b1 x2 b2).mono fun e W' ⟨he,bel⟩=>?_
 subst he
 exact⟨_,rfl,_,_,_,[],_,[],hW',trodAll_mk1 (shut_bool Tryz.underlying4 _),(trodAll_cons_mk (Below.trod laidOut (by kernel_rfl) (of_decide_eq_true (by kernel_rfl)) k0 bel lt0) (trodAll_cons_mk (Below.trod laidOut (by kernel_rfl) (of_decide_eq_true (by kernel_rfl)) k1 bel lt1) (trodAll_cons_mk (Below.trod laidOut (by kernel_rfl) (of_decide_eq_true (by kernel_rfl)) k2 bel lt2) trodAll_mk0))),rfl,bel.frame _,fun h=>by cases h⟩
theorem reduceBlocks_over:Rows.reduceBlocksRow.holds Tryz.pinned (OpenSpec.ofChange Rows.reduceBlocksSpec):=
 OpenClaim.holds_of_wide 5 Tryz.f5 rfl rfl rfl rfl rfl rfl rfl ⟨rfl,rfl,rfl,rfl,rfl⟩ rfl rfl rfl rfl rfl (by kernel_rfl) Tryz.func5 (by kernel_rfl)
  (of_decide_eq_true (by kernel_rfl)) (by unfold Func.isWrapper;first|(rw[if_pos (by decide +kernel)];kernel_rfl) | (rw[if_neg (by decide +kernel)];exact⟨rfl,rfl⟩))
  (fun os started H enc _=>reduceBlocks_lifted os started H enc)
theorem reduceBlocksCard_holds:Rows.ReduceBlocksCardSaid:=
 Claim7.holds_tied_plain_at .later [] [.data] true (true, "60866ed61efe1440238383c15dd6059d6e8c591d87e8f8b121f25048c3dbf775") false
  reduceBlocks_over (fun _ h=>by cases h) (by kernel_rfl) (fun _ h=>by cases h) reduceBlocks_row_tie rfl ⟨rfl,rfl⟩ (by kernel_rfl) rfl
  (fun f fn hf hfn=>by
   obtain rfl : f = 5 := Option.some.inj ((show Tryz.prog.funcNamed "bandplan/bandplanlaw19.ReduceBlocks" = some 5 by kernel_rfl).symm.trans hf) |>.symm
   obtain rfl:fn=Tryz.f5:=(Option.some.inj (Tryz.func5.symm.trans hfn)).symm
   exact⟨by kernel_rfl,fun j t ht=>by
    rw[Tryz.params5] at ht
    rcases j with _ | j
    ·obtain rfl:t=29:=by simpa using ht.symm
     exact(show Tryz.prog.wantsStandIn 29=false by kernel_rfl)
    rcases j with _ | j
    ·obtain rfl:t=3:=by simpa using ht.symm
     exact(show Tryz.prog.wantsStandIn 3=false by kernel_rfl)
    rcases j with _ | j
    ·obtain rfl:t=3:=by simpa using ht.symm
     exact(show Tryz.prog.wantsStandIn 3=false by kernel_rfl)
    ·simp at ht⟩)
  (by kernel_rfl)
#print axioms reduceBlocksCard_holds
end Go.Proofs.YtjakdikhdndlgaaGreatDoor
