/- What the last two laws of layer 19 say of calls on valid problems. -/
import Derived.Test.YtjakdikhdndlgaaGreatDoorRows
import Derived.Test.YtjakdikhdndlgaaGreatDoorTie
import Derived.Test.YtjakdikhdndlgaaGreatDoorCards
import Derived.Lay
import Derived.MakeChecks
import Derived.LaidOnce
import Derived.SevenTiedAt
import Derived.HandedShaped
import Derived.Stop.LaidErr
import Derived.Test.YtjakdikhdndlgaaGreatDoorRed25
import Derived.Test.YtjakdikhdndlgaaGreatDoorRed27
set_option maxRecDepth 100000
set_option maxHeartbeats 8000000
namespace Go.Proofs.YtjakdikhdndlgaaGreatDoor
open Go.RowKit Go.Shelf
def samE:List Dom:=[⟨1,none,0,0,[14,15]⟩,⟨2,none,0,0,[14,15]⟩,⟨3,none,0,0,[14,15,16]⟩,⟨4,none,0,0,[14]⟩]
def samR:Rul:=⟨[⟨1,2,0,14,51⟩,⟨1,3,0,14,51⟩,⟨2,3,0,14,51⟩,⟨3,4,1,14,51⟩],[],[]⟩
def SamPost (w:World) (e:Ending) (w':World):Prop:=∃(s:PrbS) (ds:List Dom),e=.returned s.val∧s.nd=4∧ds.map Dom.say=samE.map Dom.say∧(∀ d∈ds,d.len≤3)∧PrbAt w' w'.heap.size s ds samR∧Below w.heap.size w w'
theorem sample_any (w:World):Calls Tryz.prog 35 #[] w (SamPost w):=by
 obtain⟨p,hp⟩:∃ p,p=w.heap.size:=⟨_,rfl⟩
 obtain⟨V0,hV0⟩:∃ V0,V0=w.alloc (.cells #[.slice none 0 0,.slice none 0 0,.slice none 0 0,.slice none 0 0] 29):=⟨_,rfl⟩
 have hP0:Hp w w V0 [.blk p 29 [.slice none 0 0,.slice none 0 0,.slice none 0 0,.slice none 0 0]] []:=by
  have h:=(Hp.start w).alloc [.slice none 0 0,.slice none 0 0,.slice none 0 0,.slice none 0 0] 29
  rw[hV0,hp];exact h
 have HP0:=Lib.hid hP0
 have z0:=hP0.c 0 0 rfl rfl
 have z1:=hP0.c 0 1 rfl rfl
 have z2:=hP0.c 0 2 rfl rfl
 have z3:=hP0.c 0 3 rfl rfl
 have zf:=hP0.f 0 rfl
 have zl:=hP0.lt 0 rfl
 clear hP0
 go_enter Tryz.func35,Tryz.ntmps35
 go_upto_region 1 with fail
 rw[←hV0,←hp]
 clear hV0 hp
 obtain⟨b1,hb1⟩:∃ b,b=V0.heap.size:=⟨_,rfl⟩
 have hPf:=((((((HP0.out.alloc [.int .i64 14,.int .i64 15] 3).alloc [.int .i64 14,.int .i64 15] 3).alloc [.int .i64 14,.int .i64 15,.int .i64 16] 3).alloc [.int .i64 14] 3).alloc [.int .i64 1,.slice (some ⟨V0.heap.size,0,none⟩) 2 2,.int .i64 2,.slice (some ⟨V0.heap.size+1,0,none⟩) 2 2,.int .i64 3,.slice (some ⟨V0.heap.size+1+1,0,none⟩) 3 3,.int .i64 4,.slice (some ⟨V0.heap.size+1+1+1,0,none⟩) 1 1] 64).alloc [.int .i64 1,.int .i64 2,.int .i64 0,.int .i64 14,.int .i64 51,.int .i64 1,.int .i64 3,.int .i64 0,.int .i64 14,.int .i64 51,.int .i64 2,.int .i64 3,.int .i64 0,.int .i64 14,.int .i64 51,.int .i64 3,.int .i64 4,.int .i64 1,.int .i64 14,.int .i64 51] 67)
 simp only[World.size_alloc] at hPf
 obtain⟨Vf,hVf⟩:∃ V,V=((((((V0.alloc (.cells #[.int .i64 14,.int .i64 15] 3)).alloc (.cells #[.int .i64 14,.int .i64 15] 3)).alloc (.cells #[.int .i64 14,.int .i64 15,.int .i64 16] 3)).alloc (.cells #[.int .i64 14] 3)).alloc (.cells #[.int .i64 1,.slice (some ⟨V0.heap.size,0,none⟩) 2 2,.int .i64 2,.slice (some ⟨V0.heap.size+1,0,none⟩) 2 2,.int .i64 3,.slice (some ⟨V0.heap.size+1+1,0,none⟩) 3 3,.int .i64 4,.slice (some ⟨V0.heap.size+1+1+1,0,none⟩) 1 1] 64)).alloc (.cells #[.int .i64 1,.int .i64 2,.int .i64 0,.int .i64 14,.int .i64 51,.int .i64 1,.int .i64 3,.int .i64 0,.int .i64 14,.int .i64 51,.int .i64 2,.int .i64 3,.int .i64 0,.int .i64 14,.int .i64 51,.int .i64 3,.int .i64 4,.int .i64 1,.int .i64 14,.int .i64 51] 67)):=⟨_,rfl⟩
 have hPf:Hp w w Vf [.blk p 29 [.slice none 0 0,.slice none 0 0,.slice none 0 0,.slice none 0 0],.blk (V0.heap.size) 3 [.int .i64 14,.int .i64 15],.blk (V0.heap.size+1) 3 [.int .i64 14,.int .i64 15],.blk (V0.heap.size+1+1) 3 [.int .i64 14,.int .i64 15,.int .i64 16],.blk (V0.heap.size+1+1+1) 3 [.int .i64 14],.blk (V0.heap.size+1+1+1+1) 64 [.int .i64 1,.slice (some ⟨V0.heap.size,0,none⟩) 2 2,.int .i64 2,.slice (some ⟨V0.heap.size+1,0,none⟩) 2 2,.int .i64 3,.slice (some ⟨V0.heap.size+1+1,0,none⟩) 3 3,.int .i64 4,.slice (some ⟨V0.heap.size+1+1+1,0,none⟩) 1 1],.blk (V0.heap.size+1+1+1+1+1) 67 [.int .i64 1,.int .i64 2,.int .i64 0,.int .i64 14,.int .i64 51,.int .i64 1,.int .i64 3,.int .i64 0,.int .i64 14,.int .i64 51,.int .i64 2,.int .i64 3,.int .i64 0,.int .i64 14,.int .i64 51,.int .i64 3,.int .i64 4,.int .i64 1,.int .i64 14,.int .i64 51]] []:=by rw[hVf];exact hPf
 have HPF:=Lib.hid hPf
 have q0:=hPf.c 0 0 rfl rfl
 have q1:=hPf.c 0 1 rfl rfl
 have q2:=hPf.c 0 2 rfl rfl
 have q3:=hPf.c 0 3 rfl rfl
 have qf:=hPf.f 0 rfl
 have ql:=hPf.lt 0 rfl
 rw[hVf] at q0 q1 q2 q3 qf ql
 clear z0 z1 z2 z3 zf zl hPf
 go_wp2_with fail
 rw[←hVf]
 have hP5:=(((HPF.out.set 0 0 (.slice (some ⟨V0.heap.size+1+1+1+1,0,none⟩) 4 4) rfl).set 0 1 (.slice (some ⟨V0.heap.size+1+1+1+1+1,0,none⟩) 4 4) rfl).set 0 2 (.slice none 0 0) rfl).set 0 3 (.slice none 0 0) rfl
 refine bodyPost_ret (v:=.agg #[.slice (some ⟨V0.heap.size+1+1+1+1,0,none⟩) 4 4,.slice (some ⟨V0.heap.size+1+1+1+1+1,0,none⟩) 4 4,.slice none 0 0,.slice none 0 0]) (by simp[results,Tryz.results35,go_sem,hP5.c 0 0 rfl rfl,hP5.c 0 1 rfl rfl,hP5.c 0 2 rfl rfl,hP5.c 0 3 rfl rfl]) rfl ?_
 refine⟨⟨some ⟨V0.heap.size+1+1+1+1,0,none⟩,4,4,⟨some ⟨V0.heap.size+1+1+1+1+1,0,none⟩,4,4,none,0,0,none,0,0⟩⟩,[⟨1,some ⟨V0.heap.size,0,none⟩,2,2,[14,15]⟩,⟨2,some ⟨V0.heap.size+1,0,none⟩,2,2,[14,15]⟩,⟨3,some ⟨V0.heap.size+1+1,0,none⟩,3,3,[14,15,16]⟩,⟨4,some ⟨V0.heap.size+1+1+1,0,none⟩,1,1,[14]⟩],rfl,rfl,rfl,fun d hd=>?_,⟨⟨rowS_blk ([⟨1,some ⟨V0.heap.size,0,none⟩,2,2,[14,15]⟩,⟨2,some ⟨V0.heap.size+1,0,none⟩,2,2,[14,15]⟩,⟨3,some ⟨V0.heap.size+1+1,0,none⟩,3,3,[14,15,16]⟩,⟨4,some ⟨V0.heap.size+1+1+1,0,none⟩,1,1,[14]⟩]:List Dom) (hP5.blk 5 rfl) rfl (hP5.lt 5 rfl),fun d hd=>?_⟩,rowS_blk samR.pairs (hP5.blk 6 rfl) rfl (hP5.lt 6 rfl),RowS.nil _ _ _ _ _,RowS.nil _ _ _ _ _,show (4:Nat)≤9223372036854775807 by decide,show (0:Nat)≤9223372036854775807 by decide,show (0:Nat)≤9223372036854775807 by decide⟩,hP5.below⟩
 ·simp only[List.mem_cons,List.not_mem_nil,or_false] at hd
  rcases hd with rfl | rfl | rfl | rfl<;>(dsimp only;omega)
 ·simp only[List.mem_cons,List.not_mem_nil,or_false] at hd
  rcases hd with rfl | rfl | rfl | rfl
  ·exact row1_of_blk (xs:=[14,15]) (hP5.blk 1 rfl) rfl
  ·exact row1_of_blk (xs:=[14,15]) (hP5.blk 2 rfl) rfl
  ·exact row1_of_blk (xs:=[14,15,16]) (hP5.blk 3 rfl) rfl
  ·exact row1_of_blk (xs:=[14]) (hP5.blk 4 rfl) rfl
theorem resD_say {ds es:List Dom} (h:ds.map Dom.say=es.map Dom.say) (S:Nat):(resD S ds).map Dom.say=(resD S es).map Dom.say:=by
 have key:∀ l:List Dom,(resD S l).map Dom.say=(l.map Dom.say).filter fun x=>hasS S x.1:=by
  intro l
  unfold resD
  rw[List.filter_map];rfl
 rw[key,key,h]
theorem blkR_say {ds es:List Dom} (h:ds.map Dom.say=es.map Dom.say) (r:Rul) (s t:Int):blkR ds r s t=blkR es r s t:=by unfold blkR;rw[valid_say h,h]
theorem peelR_say {ds es:List Dom} (h:ds.map Dom.say=es.map Dom.say) (r:Rul):peelR ds r=peelR es r:=by unfold peelR;rw[valid_say h,h]
theorem coreR_say {ds es:List Dom} (h:ds.map Dom.say=es.map Dom.say) (r:Rul):coreR ds r=coreR es r:=by unfold coreR;rw[valid_say h,h]
theorem cmpR_say {ds es:List Dom} (h:ds.map Dom.say=es.map Dom.say) (r:Rul):cmpR ds r=cmpR es r:=by unfold cmpR;rw[valid_say h,h]
theorem exR_say {ds es:List Dom} (h:ds.map Dom.say=es.map Dom.say) (r:Rul) (l:List (Int×Int)):exR ds r l=exR es r l:=by
 have e:fitC ds r l=fitC es r l:=by unfold fitC;rw[h,fine_say (resD_say h _)]
 unfold exR;rw[valid_say h,h,e]
theorem sam_b1:blkR samE samR 3 1=(1,0):=by decide +kernel
theorem sam_b2:blkR samE samR 3 4=(0,0):=by decide +kernel
theorem sam_b3:blkR samE samR 4 3=(0,0):=by decide +kernel
theorem sam_b4:blkR samE samR 4 1=(0,0):=by decide +kernel
theorem sam_p:peelR samE samR=([3,1,2,4],0):=by decide +kernel
theorem sam_c:coreR samE samR=([],0):=by decide +kernel
theorem sam_m:cmpR samE samR=([],0):=by decide +kernel
theorem sam_x:exR samE samR []=([(1,15),(2,14),(3,16),(4,14)],0):=by decide +kernel
theorem sblocks_any (s t:Int) (want:Nat) (w:World) (hT:Tab w) (hB:blkR samE samR s t=(want,0)):Calls Tryz.prog 34 #[.int .i64 s,.int .i64 t,.int .i64 (want:Int)] w (RetPost (.bool true) w.heap.size w):=by
 have HSA:=Lib.hid (sample_any w)
 have HT:=Lib.hid hT
 have HB:=Lib.hid hB
 clear hT hB
 go_enter Tryz.func34,Tryz.ntmps34
 go_wp2_with fail
 refine HSA.out.mono ?_
 rintro e w1 ⟨ps,ds,rfl,hnd,hsay,hdl,hpr,hb1⟩
 have hBK:=rblocks_any s t ps w1 (HT.out.keep hb1) ds samR (by omega) (fun d hd=>by have:=hdl d hd;omega) hpr
 rw[blkR_say hsay,HB.out] at hBK
 have HBK:=Lib.hid hBK
 have HB1:=Lib.hid hb1
 clear hnd hsay hdl hpr hb1 hBK
 go_wp2_with fail
 refine HBK.out.mono ?_
 rintro e w2 ⟨rfl,hb2⟩
 have HB2:=Lib.hid (HB1.out.trans (hb2.mono HB1.out.size))
 clear hb2
 go_wp2_with fail
 go_ret
 exact⟨rfl,HB2.out⟩
theorem known_any (w:World) (hT:Tab w):Calls Tryz.prog 11 #[] w (RetPost (.bool true) w.heap.size w):=by
 have HT:=Lib.hid hT
 have HB1:=Lib.hid (sblocks_any 3 1 1 w hT sam_b1)
 clear hT
 go_enter Tryz.func11,Tryz.ntmps11
 go_wp2_with fail
 refine HB1.out.mono ?_
 rintro e w1 ⟨rfl,hb1⟩
 have HW1:=Lib.hid hb1
 have HB2:=Lib.hid (sblocks_any 3 4 0 w1 (HT.out.keep hb1) sam_b2)
 clear hb1 HB1
 go_wp2_with fail
 refine HB2.out.mono ?_
 rintro e w2 ⟨rfl,hb2⟩
 have HW2:=Lib.hid (HW1.out.trans (hb2.mono HW1.out.size))
 have HB3:=Lib.hid (sblocks_any 4 3 0 w2 (HT.out.keep HW2.out) sam_b3)
 clear hb2 HB2 HW1
 go_wp2_with fail
 refine HB3.out.mono ?_
 rintro e w3 ⟨rfl,hb3⟩
 have HW3:=Lib.hid (HW2.out.trans (hb3.mono HW2.out.size))
 have HB4:=Lib.hid (sblocks_any 4 1 0 w3 (HT.out.keep HW3.out) sam_b4)
 clear hb3 HB3 HW2
 go_wp2_with fail
 refine HB4.out.mono ?_
 rintro e w4 ⟨rfl,hb4⟩
 have HW4:=Lib.hid (HW3.out.trans (hb4.mono HW3.out.size))
 have HSA:=Lib.hid (sample_any w4)
 clear hb4 HB4 HW3
 go_wp2_with fail
 refine HSA.out.mono ?_
 rintro e w5 ⟨ps,ds,rfl,hnd,hsay,hdl,hpr,hb5⟩
 have HW5:=Lib.hid (HW4.out.trans (hb5.mono HW4.out.size))
 have hPE:=rpeel_any ps w5 (HT.out.keep HW5.out) ds samR (by omega) (fun d hd=>by have:=hdl d hd;omega) hpr
 rw[peelR_say hsay,sam_p] at hPE
 have HPE:=Lib.hid (hPE.mono (fun e w' hh=>lp_form hh))
 clear hnd hsay hdl hpr hb5 hPE HSA HW4
 go_wp2_with fail
 refine HPE.out.mono ?_
 rintro e w6 ⟨A1,c1,rfl,hr1,_,hb6⟩
 have HW6:=Lib.hid (HW5.out.trans (hb6.mono HW5.out.size))
 have HR1:=Lib.hid hr1
 have HSA:=Lib.hid (sample_any w6)
 clear hr1 hb6 HPE HW5
 go_wp2_with fail
 refine HSA.out.mono ?_
 rintro e w7 ⟨ps2,ds2,rfl,hnd,hsay,hdl,hpr,hb7⟩
 have HW7:=Lib.hid (HW6.out.trans (hb7.mono HW6.out.size))
 have HR2:=Lib.hid (HR1.out.keep hb7)
 have hPE:=rcore_any ps2 w7 (HT.out.keep HW7.out) ds2 samR (by omega) (fun d hd=>by have:=hdl d hd;omega) hpr
 rw[coreR_say hsay,sam_c] at hPE
 have HPE:=Lib.hid (hPE.mono (fun e w' hh=>lp_form hh))
 clear hnd hsay hdl hpr hb7 hPE HSA HW6 HR1
 go_wp2_with fail
 refine HPE.out.mono ?_
 rintro e w8 ⟨A2,c2,rfl,_,_,hb8⟩
 have HW8:=Lib.hid (HW7.out.trans (hb8.mono HW7.out.size))
 have HR3:=Lib.hid (HR2.out.keep hb8)
 have HSA:=Lib.hid (sample_any w8)
 clear hb8 HPE HW7 HR2
 go_wp2_with fail
 refine HSA.out.mono ?_
 rintro e w9 ⟨ps3,ds3,rfl,hnd,hsay,hdl,hpr,hb9⟩
 have HW9:=Lib.hid (HW8.out.trans (hb9.mono HW8.out.size))
 have HR4:=Lib.hid (HR3.out.keep hb9)
 have hPE:=rcomps_any ps3 w9 (HT.out.keep HW9.out) ds3 samR (by omega) (fun d hd=>by have:=hdl d hd;omega) hpr
 rw[cmpR_say hsay,sam_m] at hPE
 have HPE:=Lib.hid hPE
 clear hnd hsay hdl hpr hb9 hPE HSA HW8 HR3
 go_wp2_with fail
 refine HPE.out.mono ?_
 rintro e w10 ⟨A3,c3,cs,rfl,hcs,hP10⟩
 obtain rfl:cs=[]:=List.map_eq_nil_iff.1 hcs
 have HW10:=Lib.hid (HW9.out.trans (hP10.below.mono HW9.out.size))
 have HR5:=Lib.hid (HR4.out.keep hP10.below)
 clear hcs hP10 HPE HW9 HR4
 obtain⟨b11,hb11⟩:∃ b,b=w10.heap.size:=⟨_,rfl⟩
 obtain⟨V11,hV11⟩:∃ V,V=w10.alloc (.cells #[.int .i64 3,.int .i64 1,.int .i64 2,.int .i64 4] 3):=⟨_,rfl⟩
 have hX11:Blk V11 b11 3 [.int .i64 3,.int .i64 1,.int .i64 2,.int .i64 4]:=by rw[hV11,hb11];exact blk_new w10 _ _
 have hB11:Below w10.heap.size w10 V11:=by rw[hV11];exact(Below.refl _ w10).alloc (Nat.le_refl _) _
 have HW11:=Lib.hid (HW10.out.trans (hB11.mono HW10.out.size))
 have HSI:=sameInts_any A1 (some ⟨b11,0,none⟩) 4 c1 4 4 V11 V11.heap.size [3,1,2,4] [3,1,2,4] (by decide) (HR5.out.keep hB11) (row1_of_blk hX11 rfl)
 rw[sameL_refl] at HSI
 have HSI:=Lib.hid HSI
 clear hX11 hB11 HW10 HR5
 go_wp2_with fail
 rw[←hV11,←hb11]
 clear hV11 hb11
 refine HSI.out.mono ?_
 rintro e w12 ⟨rfl,hb12⟩
 have HW12:=Lib.hid (HW11.out.trans (hb12.mono HW11.out.size))
 have HSA:=Lib.hid (sample_any w12)
 clear hb12 HSI HW11
 go_wp2_with fail
 refine HSA.out.mono ?_
 rintro e w13 ⟨ps4,ds4,rfl,hnd,hsay,hdl,hpr,hb13⟩
 have HW13:=Lib.hid (HW12.out.trans (hb13.mono HW12.out.size))
 have hPE:=rextend_any ps4 none 0 0 [] w13 (HT.out.keep HW13.out) ds4 samR (by omega) (fun d hd=>by have:=hdl d hd;omega) (by decide) hpr (RowS.nil _ _ _ _ _)
 rw[exR_say hsay,sam_x] at hPE
 have HPE:=Lib.hid hPE
 clear hnd hsay hdl hpr hb13 hPE HSA HW12
 go_wp2_with fail
 refine HPE.out.mono ?_
 rintro e w14 ⟨v5,rfl,hown,hb14⟩
 obtain⟨A5,c5,rfl,hr5⟩:=own_formS (by decide) hown
 have HW14:=Lib.hid (HW13.out.trans (hb14.mono HW13.out.size))
 obtain⟨b15,hb15⟩:∃ b,b=w14.heap.size:=⟨_,rfl⟩
 obtain⟨V15,hV15⟩:∃ V,V=w14.alloc (.cells #[.int .i64 1,.int .i64 15,.int .i64 2,.int .i64 14,.int .i64 3,.int .i64 16,.int .i64 4,.int .i64 14] 75):=⟨_,rfl⟩
 have hX15:Blk V15 b15 75 [.int .i64 1,.int .i64 15,.int .i64 2,.int .i64 14,.int .i64 3,.int .i64 16,.int .i64 4,.int .i64 14]:=by rw[hV15,hb15];exact blk_new w14 _ _
 have hB15:Below w14.heap.size w14 V15:=by rw[hV15];exact(Below.refl _ w14).alloc (Nat.le_refl _) _
 have HW15:=Lib.hid (HW14.out.trans (hB15.mono HW14.out.size))
 have HSL:=sameList_any A5 (some ⟨b15,0,none⟩) 4 c5 4 4 V15 V15.heap.size [(1,15),(2,14),(3,16),(4,14)] [(1,15),(2,14),(3,16),(4,14)] (by decide) (hr5.keep hB15) (rowS_blk [(1,15),(2,14),(3,16),(4,14)] hX15 rfl hX15.lt)
 rw[decide_eq_true rfl] at HSL
 have HSL:=Lib.hid HSL
 clear hown hr5 hb14 hX15 hB15 HPE HW13 HW14
 go_wp2_with fail
 rw[←hV15,←hb15]
 clear hV15 hb15
 refine HSL.out.mono ?_
 rintro e w16 ⟨rfl,hb16⟩
 have HW16:=Lib.hid (HW15.out.trans (hb16.mono HW15.out.size))
 clear hb16
 go_wp2_with fail
 go_ret
 exact⟨rfl,HW16.out⟩
end Go.Proofs.YtjakdikhdndlgaaGreatDoor
namespace Go.Proofs.YtjakdikhdndlgaaGreatDoor
open Go.RowKit
def smGoN:Nat→List Dom→Bool
 | 0,_=>true
 | _,[]=>true
 | f+1,d::r=>if 60<d.len then false else smGoN f r
theorem smGoN_nil (f:Nat):smGoN f []=true:=by cases f<;>rfl
theorem smGoN_all:∀(f:Nat) (l:List Dom),smGoN f l=true→l.length≤f→∀ d∈l,d.len≤60:=by
 intro f
 induction f with
 | zero=>intro l _ h2 d hd;cases l with | nil=>cases hd | cons x r=>simp at h2
 | succ f ih=>
  intro l h1 h2 d hd
  cases l with
  | nil=>cases hd
  | cons x r=>
   rw[smGoN] at h1
   by_cases hx:60<x.len
   ·rw[if_pos hx] at h1;cases h1
   ·rw[if_neg hx] at h1
    rcases List.mem_cons.1 hd with rfl | h
    ·omega
    ·exact ih r h1 (by simp at h2;omega) d h
def smF (ds:List Dom) (r:Rul) (d k:Int):Bool:=smGoN 600 ds&&(decide ((ds.length:Int)≤d)&&(decide ((r.pairs.length:Int)≤k)&&(decide ((r.loads.length:Int)≤k)&&decide ((r.caps.length:Int)≤k))))
theorem smF_spec {ds:List Dom} {r:Rul} {d k:Int} (hd:d≤600) (h:smF ds r d k=true):(ds.length:Int)≤d∧(∀ x∈ds,x.len≤60)∧(r.pairs.length:Int)≤k∧(r.loads.length:Int)≤k∧(r.caps.length:Int)≤k:=by
 simp only[smF,Bool.and_eq_true,decide_eq_true_eq] at h
 obtain⟨h1,h2,h3,h4,h5⟩:=h
 exact⟨h2,smGoN_all 600 ds h1 (by omega),h3,h4,h5⟩
theorem small_any (s:PrbS) (d k:Int) (w:World) (ds:List Dom) (r:Rul) (hn:s.nd≤9223372036854775807) (h:PrbAt w w.heap.size s ds r):
  Calls Tryz.prog 31 #[s.val,.int .i64 d,.int .i64 k] w (RetPost (.bool (smF ds r d k)) w.heap.size w):=by
 obtain⟨A,n,c,⟨A0,n0,c0,A1,n1,c1,A2,n2,c2⟩⟩:=s
 obtain⟨W0,hW0⟩:∃ W0,W0=w.alloc (.cells #[.slice A n c,.slice A0 n0 c0,.slice A1 n1 c1,.slice A2 n2 c2] 29):=⟨_,rfl⟩
 have HB0:Hid (Below w.heap.size w W0):=Lib.hid (by rw[hW0];exact(Below.refl _ w).alloc (Nat.le_refl _) _)
 have h0:DomsAt W0 W0.heap.size A n ds:=h.1.keep HB0.out
 have hX:Blk W0 w.heap.size 29 [.slice A n c,.slice A0 n0 c0,.slice A1 n1 c1,.slice A2 n2 c2]:=by rw[hW0];exact blk_new w _ _
 have Hl:=Lib.hid h0.1
 have Hlen:=Eqn.mk h0.1.1
 have q0:W0.cell? ⟨w.heap.size,0,none⟩=some (.slice A n c):=hX.cell rfl
 have q1:W0.cell? ⟨w.heap.size,1,none⟩=some (.slice A0 n0 c0):=hX.cell rfl
 have q2:W0.cell? ⟨w.heap.size,2,none⟩=some (.slice A1 n1 c1):=hX.cell rfl
 have q3:W0.cell? ⟨w.heap.size,3,none⟩=some (.slice A2 n2 c2):=hX.cell rfl
 have q4:=hX.lt
 have HF:Eqn (smF ds r d k) (smGoN (600 - 0) (ds.drop 0)&&(decide ((n:Int)≤d)&&(decide ((n0:Int)≤k)&&(decide ((n1:Int)≤k)&&decide ((n2:Int)≤k))))):=by
  rw[Eqn,smF,Hlen.out,h.2.1.1,h.2.2.1.1,h.2.2.2.1.1];rfl
 dsimp only at hn
 clear h h0 hX
 rw[show smF ds r d k=_ from HF.out]
 obtain⟨tail,htail⟩:∃ tail,tail=(decide ((n:Int)≤d)&&(decide ((n0:Int)≤k)&&(decide ((n1:Int)≤k)&&decide ((n2:Int)≤k)))):=⟨_,rfl⟩
 rw[←htail]
 obtain⟨ans,hans⟩:∃ ans,ans=(smGoN (600 - 0) (ds.drop 0)&&tail):=⟨_,rfl⟩
 rw[←hans]
 have HA:=Eqn.mk hans
 have HT:=Eqn.mk htail
 clear hans HF htail
 unfold PrbS.val
 dsimp only
 go_enter Tryz.func31,Tryz.ntmps31
 go_wp2_with fail
 rw[←hW0]
 clear hW0
 have HEND:Hid (Eqn ans tail→Eqn ans (decide ((n:Int)≤d)&&(decide ((n0:Int)≤k)&&(decide ((n1:Int)≤k)&&decide ((n2:Int)≤k))))):=Lib.hid (fun h=>h.out.trans HT.out)
 clear HT
 generalize htt:tail=tt at *
 clear htt
 go_loopw [7] (fun i wr=>∃ j:Nat,j≤n∧j≤600∧i=.int .i64 j∧Eqn ans (smGoN (600 - j) (ds.drop j)&&tt)∧W0=wr) (fun i _=>n - (intOf i).toNat)
 case atStart=>exact⟨0,Nat.zero_le _,Nat.zero_le _,rfl,HA,rfl⟩
 case round=>
  clear HA
  obtain⟨j,hj,hj6,rfl,HR,rfl⟩:=hrel
  by_cases hlt:j<n
  ·by_cases h6:j<600
   ·obtain⟨p,hp,hpd⟩:=drop_at (xs:=ds) (k:=j) (by rw[Hlen.out];exact hlt)
    obtain⟨b,off,hA,hbl,hc⟩:=Hl.out.2 (by omega)
    subst hA
    have c1:=hc j p hp 1 (by omega)
    simp only[Dom.cell] at c1
    have HR2:=HR.out
    rw[hpd,show 600 - j=(600 - (j+1))+1 by omega,smGoN] at HR2
    have HRR:=Eqn.mk HR2
    have j0:(j:Int)<(n:Int):=by omega
    have j1:(j:Int)<600:=by omega
    clear hc hp hpd HR HR2
    obtain⟨st,adr,len,cap,chs⟩:=p
    dsimp only at *
    by_cases h10:60<len
    ·have HE:Eqn ans false:=by rw[Eqn,HRR.out,if_pos h10];rfl
     have j2:(60:Int)<(len:Int):=by omega
     clear HRR h10
     go_wp2_with fail
     go_ret
     exact⟨ret_bool HE.out.symm,HB0.out⟩
    ·have HE:Eqn ans (smGoN (600 - (j+1)) (ds.drop (j+1))&&tt):=by rw[Eqn,HRR.out,if_neg h10]
     have j2:¬(60:Int)<(len:Int):=by omega
     clear HRR h10
     go_wp2_with fail
     go_roundw
     case rel=>exact⟨j+1,by omega,by omega,by go_num,HE,trivial⟩
     case measure=>simp[intOf];omega
   ·have HE:Eqn ans tt:=by rw[Eqn,HR.out,show 600 - j=0 by omega,smGoN];simp
    have j0:(j:Int)<(n:Int):=by omega
    have j1:¬(j:Int)<600:=by omega
    have HE2:=HEND.out HE
    clear HR HE HEND
    by_cases g0:(n:Int)≤d
    ·by_cases g1:(n0:Int)≤k
     ·by_cases g2:(n1:Int)≤k
      ·have HV:Eqn ans (decide ((n2:Int)≤k)):=by rw[Eqn,HE2.out];simp[g0,g1,g2]
       clear HE2
       go_wp2_with fail
       go_ret
       exact⟨ret_bool HV.out.symm,HB0.out⟩
      ·have HV:Eqn ans false:=by rw[Eqn,HE2.out];simp[g0,g1,g2]
       clear HE2
       go_wp2_with fail
       go_ret
       exact⟨ret_bool HV.out.symm,HB0.out⟩
     ·have HV:Eqn ans false:=by rw[Eqn,HE2.out];simp[g0,g1]
      clear HE2
      go_wp2_with fail
      go_ret
      exact⟨ret_bool HV.out.symm,HB0.out⟩
    ·have HV:Eqn ans false:=by rw[Eqn,HE2.out];simp[g0]
     clear HE2
     go_wp2_with fail
     go_ret
     exact⟨ret_bool HV.out.symm,HB0.out⟩
  ·obtain rfl:j=n:=by omega
   have HE:Eqn ans tt:=by rw[Eqn,HR.out,drop_end (by rw[Hlen.out];omega),smGoN_nil];simp
   have HE2:=HEND.out HE
   clear HR HE HEND
   by_cases g0:(j:Int)≤d
   ·by_cases g1:(n0:Int)≤k
    ·by_cases g2:(n1:Int)≤k
     ·have HV:Eqn ans (decide ((n2:Int)≤k)):=by rw[Eqn,HE2.out];simp[g0,g1,g2]
      clear HE2
      go_wp2_with fail
      go_ret
      exact⟨ret_bool HV.out.symm,HB0.out⟩
     ·have HV:Eqn ans false:=by rw[Eqn,HE2.out];simp[g0,g1,g2]
      clear HE2
      go_wp2_with fail
      go_ret
      exact⟨ret_bool HV.out.symm,HB0.out⟩
    ·have HV:Eqn ans false:=by rw[Eqn,HE2.out];simp[g0,g1]
     clear HE2
     go_wp2_with fail
     go_ret
     exact⟨ret_bool HV.out.symm,HB0.out⟩
   ·have HV:Eqn ans false:=by rw[Eqn,HE2.out];simp[g0]
    clear HE2
    go_wp2_with fail
    go_ret
    exact⟨ret_bool HV.out.symm,HB0.out⟩
end Go.Proofs.YtjakdikhdndlgaaGreatDoor
namespace Go.Proofs.YtjakdikhdndlgaaGreatDoor
open Go.RowKit Go.ChangeShapes Go.WideShapes Go.ChangeAt Go.Deep Go.Joins
theorem own:ownKnob Tryz.prog.godebug=none:=by kernel_rfl
theorem laidOut:laidOutB Tryz.prog=true:=by kernel_rfl
def laid07 : List (String × DataW Unit) := [("math/bits.deBruijn64tab", Rows.laid_math_bits_deBruijn64tab)]
theorem laidHold (os:Os) (args:Array Value):laidMetH Tryz.prog laid07 ((World.laidAll Tryz.prog os laid07).forCall (fun _ _=>0) ⟨#[],args,[]⟩).memory:=by
 rw[MakeChecks.laidMetH_plain _ _ _ (by kernel_rfl)]
 exact laidMet_laidAll _ (by kernel_rfl) (by kernel_rfl)
section
variable {H : Type} {enc : TypeId × Value → H}
theorem handed_laid {a:Assume} {C:Checked} {os:Os} {f:FuncId} {fn:Func} {s:ChangeSpec} {conds:List PathCond} {apart fresh handsOn again:Bool} {laid:List (String×DataW Unit)}
  (hown:ownKnob C.prog.godebug=none) (started:os.Started) (noInit:C.prog.inits.idxOf? f=none) (hfn:C.prog.funcs[f]?=some fn)
  (witness:∃(w:World) (tape:Tape) (i:Input),w.os=os∧(w.forCall tape i).Shaped C.prog∧i.vars=[]∧Input.okWide C.prog (w.forCall tape i) .any w.heap.size f i ∧
   ((s.pre enc C.prog fn conds apart (w.forCall tape i).memory i.args∧laidMetH C.prog laid (w.forCall tape i).memory)∧sizedMet enc C.prog fn (OpenSpec.ofChange s) apart (w.forCall tape i).memory i.args)∧a.holds C.prog (lone (Frame.enter C.prog f i.args .normal) [] (w.forCall tape i)))
  (contract:∀(W:World) (base:Nat) (args:Array Value) (ds gs:List (DataW H)) (before:List MemPlace),
   (∀(j:Nat) t v,fn.params[j]?=some t→args[j]?=some v→Value.okWide C.prog W .any base t v) →
   DataW.Whole enc C.prog fn.params.toList s.vars apart W args.toList ds gs before →
   laidMetH C.prog laid W→W.ShapedOpen C.prog →
   Calls C.prog f args W fun e W'=>∃ v,e=.returned v∧s.post enc C.prog fn apart fresh handsOn again W args v W'):
  ReturnsInHanded a C os f .any (fun w args=>(s.pre enc C.prog fn conds apart w args∧laidMetH C.prog laid w)∧sizedMet enc C.prog fn (OpenSpec.ofChange s) apart w args) (s.post enc C.prog fn apart fresh handsOn again):=by
 refine returnsInHanded_of_calls hown started noInit witness ?_
 intro w tape i _ hsh _ hok hpre _
 obtain⟨_,_,_,fn',hfn',_,_,_,_,hval⟩:=hok
 obtain rfl:fn'=fn:=Option.some.inj (hfn'.symm.trans hfn)
 obtain⟨⟨⟨ds,gs,before,hw,_⟩,hx⟩,_⟩:=hpre
 refine(contract (w.forCall tape i) w.heap.size i.args ds gs before hval (DataW.Whole.of_heap (w':=w.forCall tape i) (by rfl) hw) (hx.of_heap (by rfl)) hsh).mono fun e W' ⟨v,he,hp⟩=>?_
 subst he
 exact ChangeSpec.post_blind hp
end
theorem tab_of {W:World} (hL:laidMetH Tryz.prog laid07 W) (_:W.ShapedOpen Tryz.prog):Tab W:=by
 rw[MakeChecks.laidMetH_plain _ _ _ (by kernel_rfl)] at hL
 have h2 : laidMet Tryz.prog (("math/bits.deBruijn64tab", Lib.tabData .u8 (Lib.deBruijn64tab.map fun n : Nat => (n : Int))) :: []) W := hL
 have t2:=Lib.tabIs_of_head (g:=0) (t:=171) (e:=5) (n:=64) (by kernel_rfl) (by kernel_rfl) (by kernel_rfl) (by kernel_rfl) (by kernel_rfl) (by kernel_rfl) h2
 have c1:=t2.cell (g:=0) (by kernel_rfl) 0 (by decide)
 have hsz:0<W.heap.size:=(lt_of_cell c1).1
 refine⟨by omega,fun j hj=>?_⟩
 have c2:=t2.cell (g:=0) (by kernel_rfl) j (by exact hj)
 rw[c2]
 congr 2
 rw[List.getD_eq_getElem?_getD,List.getElem?_map,List.getD_eq_getElem?_getD]
 cases Lib.deBruijn64tab[j]?<;>rfl
end Go.Proofs.YtjakdikhdndlgaaGreatDoor
namespace Go.Proofs.YtjakdikhdndlgaaGreatDoor
open Go.RowKit Go.Shelf
theorem lsmall_any (s:PrbS) (w:World) (ds:List Dom) (r:Rul) (hn:s.nd≤9223372036854775807) (h:PrbAt w w.heap.size s ds r):
  Calls Tryz.prog 9 #[s.val] w (RetPost (.bool (smF ds r 10 40)) w.heap.size w):=by
 have HS:=Lib.hid (fun (W:World) (hb:Below w.heap.size w W)=>small_any s 10 40 W ds r hn ⟨h.1.keep hb,h.2.keep hb⟩)
 obtain⟨Ad,nd,cd,⟨A0,n0,c0,A1,n1,c1,A2,n2,c2⟩⟩:=s
 unfold PrbS.val at *
 dsimp only at HS ⊢
 clear h hn
 obtain⟨W0,hW0⟩:∃ W0,W0=w.alloc (.cells #[.slice Ad nd cd,.slice A0 n0 c0,.slice A1 n1 c1,.slice A2 n2 c2] 29):=⟨_,rfl⟩
 have hX0:Blk W0 w.heap.size 29 [.slice Ad nd cd,.slice A0 n0 c0,.slice A1 n1 c1,.slice A2 n2 c2]:=by rw[hW0];exact blk_new w _ _
 have hB0:Below w.heap.size w W0:=by rw[hW0];exact(Below.refl _ w).alloc (Nat.le_refl _) _
 have q0:=hX0.cell (i:=0) rfl
 have q1:=hX0.cell (i:=1) rfl
 have q2:=hX0.cell (i:=2) rfl
 have q3:=hX0.cell (i:=3) rfl
 have q4:=hX0.lt
 have HB0:=Lib.hid hB0
 clear hX0 hB0
 go_enter Tryz.func9,Tryz.ntmps9
 go_upto_region 1 with fail
 rw[←hW0]
 clear hW0
 go_wp2_with fail
 refine(HS.out _ HB0.out).mono ?_
 rintro e w1 ⟨rfl,hb1⟩
 have HB:=Lib.hid (HB0.out.trans (hb1.mono HB0.out.size))
 clear hb1
 go_wp2_with fail
 go_ret
 exact⟨rfl,HB.out⟩
end Go.Proofs.YtjakdikhdndlgaaGreatDoor
namespace Go.Proofs.YtjakdikhdndlgaaGreatDoor
open Go.RowKit
theorem valid_ne {ds:List Dom} {r:Rul} (h:validP ds r=true):(∀ x∈r.pairs,x.a≠x.b)∧∀ x∈r.loads,x.a≠x.b:=by
 obtain⟨h1,h2,_⟩:=prij h
 exact⟨fun x hx=>by have:=(h1.prs x hx).1;omega,fun x hx=>(h2.lds x hx).2.1⟩
theorem core_len {ds:List Dom} {r:Rul} (h:validP ds r=true):(peelF (ds.map Dom.say) r).2.length≤512:=by
 have h1:(peelF (ds.map Dom.say) r).2.length≤(ds.map Dom.st).length:=by
  rw[core_list,say_st]
  exact List.length_filter_le _ _
 rw[List.length_map] at h1
 exact Nat.le_trans h1 (vpr h).sts.2.1
end Go.Proofs.YtjakdikhdndlgaaGreatDoor
namespace Go.Proofs.YtjakdikhdndlgaaGreatDoor
open Go.RowKit Go.Shelf
def Slices (s:List Value):Prop:=∀(k:Nat) (v:Value),s[k]?=some v→∃ a l c,v=.slice a l c
theorem rcore_yes (s:PrbS) (W:World) (hT:Tab W) {es:List Dom} {q:Rul} {L:List Int} {m:Nat} (hn:s.nd≤9223372036854775807) (hd:∀ d∈es,d.len≤9223372036854775807) (hv:validP es q=true) (hL:(peelF (es.map Dom.say) q).2=L) (hm:L.length=m) (h:PrbAt W W.heap.size s es q):
  Calls Tryz.prog 12 #[s.val] W fun e w'=>∃ A c,e=.returned (.tuple #[.slice A m c,.int .i64 0])∧Row1 intV w' w'.heap.size A m L∧Below W.heap.size W w':=by
 refine(rcore_any s W hT es q hn hd h).mono (fun e w' hh=>?_)
 unfold coreR at hh
 rw[if_pos hv,hL] at hh
 obtain⟨A,c,h1,h2,_,h3⟩:=lp_form hh
 rw[hm] at h1 h2
 exact⟨A,c,h1,h2,h3⟩
theorem rpeel_yes (s:PrbS) (W:World) (hT:Tab W) {es:List Dom} {q:Rul} {L:List Int} {m:Nat} (hn:s.nd≤9223372036854775807) (hd:∀ d∈es,d.len≤9223372036854775807) (hv:validP es q=true) (hL:(peelF (es.map Dom.say) q).1=L) (hm:L.length=m) (h:PrbAt W W.heap.size s es q):
  Calls Tryz.prog 16 #[s.val] W fun e w'=>∃ A c,e=.returned (.tuple #[.slice A m c,.int .i64 0])∧Row1 intV w' w'.heap.size A m L∧Below W.heap.size W w':=by
 refine(rpeel_any s W hT es q hn hd h).mono (fun e w' hh=>?_)
 unfold peelR at hh
 rw[if_pos hv,hL] at hh
 obtain⟨A,c,h1,h2,_,h3⟩:=lp_form hh
 rw[hm] at h1 h2
 exact⟨A,c,h1,h2,h3⟩
theorem rest_yes (ps:PrbS) (B:Option Addr) (m d:Nat) (W:World) {ds:List Dom} {r:Rul} {L:List Int} (hv:validP ds r=true) (hn:ps.nd≤9223372036854775807) (hd:∀ d∈ds,d.len=d.chs.length) (h:PrbAt W W.heap.size ps ds r) (hB:Row1 intV W W.heap.size B m L) (hm:m≤1000) (ho:stOk L=true) (hz:mi (stS L) (stS (ds.map Dom.st))=0):
  Calls Tryz.prog 14 #[ps.val,.slice B m d] W fun e w'=>∃ s es,e=.returned (.tuple #[PrbS.val s,.int .i64 0])∧PrbAt w' w'.heap.size s es (resR (stS L) r)∧es.map Dom.say=(resD (stS L) ds).map Dom.say∧s.nd≤9223372036854775807∧(∀ d∈es,d.len≤9223372036854775807)∧Below W.heap.size W w':=by
 have h1:=rrestrict_any ps B m d W ds r L hn (by omega) h hB
 rw[rrest_ok hv hd ho,if_pos hz] at h1
 refine h1.mono ?_
 rintro e w' ⟨s,es,rfl,hP,hs,hb'⟩
 dsimp only at hP hs
 have hle:es.length≤512:=by
  have:=congrArg List.length hs
  simp only[List.length_map] at this
  rw[this]
  exact Nat.le_trans (List.length_filter_le _ _) (vpr hv).sts.2.1
 have hdl:∀ d∈es,d.len≤9223372036854775807:=fun d hd=>by
  have h2:d.chs.length=d.len:=(hP.1.2 d hd).1
  have h3:Dom.say d∈(resD (stS L) ds).map Dom.say:=by rw[←hs];exact List.mem_map.2 ⟨d,hd,rfl⟩
  obtain⟨d0,hd0,e0⟩:=List.mem_map.1 h3
  have h4:=(vpr hv).sts.2.2.1 d0 (List.mem_filter.1 hd0).1
  have h5:d0.chs=d.chs:=congrArg Prod.snd e0
  rw[h5] at h4;omega
 exact⟨s,es,rfl,hP,hs,by have:es.length=s.nd:=hP.1.1.1;omega,hdl,hb'⟩
end Go.Proofs.YtjakdikhdndlgaaGreatDoor
