/- Lemmas of the proof, part 10. Conditions: none. -/
import Derived.Test.YtjakdikhdndlgaaGreatDoorBas09
set_option maxRecDepth 100000
set_option maxHeartbeats 2000000
namespace Go.Proofs.YtjakdikhdndlgaaGreatDoor
open Go.RowKit Go.Shelf
attribute [local go_sem] Oper.semAt_some
def atK (L:List Nat) (k:Nat):Int:=match L[k]? with | some m=>(m:Int) | none=>-1
theorem next_first (S:Nat):nextF S 0=atK (mem S) 0:=by
 unfold nextF atK
 cases h:mem S with
 | nil=>rfl
 | cons x r=>simp
theorem next_after (S k m:Nat) (hm:(mem S)[k]?=some m):nextF S ((m:Int)+1)=atK (mem S) (k+1):=by
 have hs:=mem_sorted S
 unfold nextF atK
 generalize mem S=L at *
 have hk:k<L.length:=(List.getElem?_eq_some_iff.1 hm).1
 have key:L.find? (fun x:Nat=>decide ((m:Int)+1≤(x:Int)))=L[k+1]?:=by
  have hsplit:L=L.take (k+1)++L.drop (k+1):=(List.take_append_drop _ _).symm
  have h1:(L.take (k+1)).find? (fun x:Nat=>decide ((m:Int)+1≤(x:Int)))=none:=by
   rw[List.find?_eq_none]
   intro x hx
   obtain⟨j,hj⟩:=List.getElem?_of_mem hx
   rw[List.getElem?_take] at hj
   split at hj
   ·rename_i hjk
    have hle:x≤m:=by
     rcases Nat.lt_or_ge j k with h | h
     ·obtain⟨h2,e2⟩:=List.getElem?_eq_some_iff.1 hj
      obtain⟨h3,e3⟩:=List.getElem?_eq_some_iff.1 hm
      have:=List.pairwise_iff_getElem.1 hs j k h2 h3 h
      omega
     ·have:j=k:=by omega
      subst this
      rw[hm] at hj
      cases hj
      exact Nat.le_refl _
    simp;omega
   ·cases hj
  rw[hsplit,List.find?_append,h1,Option.none_or,←hsplit]
  cases hd:L.drop (k+1) with
  | nil=>
   have:L.length≤k+1:=by simpa using hd
   rw[List.getElem?_eq_none this]
   rfl
  | cons y r=>
   have hy:L[k+1]?=some y:=by
    have:(L.drop (k+1))[0]?=some y:=by rw[hd];rfl
    simpa using this
   rw[hy]
   have hlt:m<y:=by
    obtain⟨h2,e2⟩:=List.getElem?_eq_some_iff.1 hm
    obtain⟨h3,e3⟩:=List.getElem?_eq_some_iff.1 hy
    have:=List.pairwise_iff_getElem.1 hs k (k+1) h2 h3 (by omega)
    omega
   simp;omega
 (rw[key])<;>(cases L[k+1]?<;>rfl)
def left_of (v:Value):Nat:=if intOf v<0 then 0 else 513 - (intOf v).toNat
theorem left_none:left_of (.int .i64 (-1))=0:=rfl
theorem left_some (m:Nat):left_of (.int .i64 m)=513 - m:=by
 have h:intOf (.int .i64 (m:Int))=(m:Int):=rfl
 unfold left_of
 rw[h,if_neg (by omega)]
 rfl
theorem all1_in (n:Nat) (hn:1≤n) (l Bn n₀ S:Nat) (hS:Fit S) (h4:tabN≤n₀) (J Jx:List Nat→World→Prop)
  (hY:∀ pre x W,x<512→x∈mem S→J pre W→pre.length<(mem S).length→YieldAt Fence.wide (n - 1) Tryz.prog l #[.int .i64 (x:Nat)] W fun e W'=>
   (e=.returned (.bool true)∧J (pre++[x]) W'∧Keep1 n₀ Bn W W')∨(e=.returned (.bool false)∧Jx (pre++[x]) W'))
  (hJ:∀ pre W W',J pre W→Below W.heap.size W W'→J pre W')
  (W:World) (hB:Blk W Bn 79 (tabL 8 (sC S))) (hT:Tab W) (h0:J [] W):
  CallsIn Fence.wide n Tryz.prog 104 #[.func (.yield l) #[] #[],.pointer (some ⟨Bn,0,none⟩)] W fun e W'=>(∃ v,e=.returned v) ∧
   ((∃ ys,ys=mem S∧J ys W')∨(∃ pre,pre <+: mem S∧Jx pre W')):=by
 refine callsIn_of_wp Tryz.func104 rfl trivial ?_ rfl
 simp only[Tryz.ntmps104,List.size_toArray,List.length_cons,List.length_nil,Nat.reduceAdd,Nat.reduceSub,Array.replicate_succ,Array.replicate_zero,List.push_toArray,List.append_toArray,List.nil_append,List.cons_append]
 obtain⟨c0,c1,c2,c3,c4,c5,c6,c7⟩:=hB.eight
 have HM:=Lib.hid (min_any S W hS hT)
 have HN:=Lib.hid (fun i W' hT'=>next_any S i W' hS hT')
 rw[next_first] at HM
 have HA:=Lib.hid (next_after S)
 have HL:=Lib.hid (fun m (h:m∈mem S)=>mem_lt h)
 have HS:=Lib.hid (mem_sorted S)
 have HB:=Lib.hid hB
 have HT:=Lib.hid hT
 have H0:=Lib.hid h0
 have HJ:=Lib.hid hJ
 have HY:=Lib.hid hY
 clear hY hJ hB hT h0 hS
 generalize mem S=L at *
 unfold sV at *
 gi_wp2_with fail
 refine⟨trivial,(callsIn_wide.2 HM.out).mono ?_⟩
 rintro e W1 ⟨rfl,hb1⟩
 have HB1:=Lib.hid (HB.out.keep hb1)
 have HT1:=Lib.hid (HT.out.keep hb1)
 have H1:=Lib.hid (HJ.out [] W W1 H0.out hb1)
 clear HM HB HT H0 hb1 c0 c1 c2 c3 c4 c5 c6 c7
 gi_wp2_with fail
 gi_loopw [3] (fun i wr=>∃ k:Nat,k≤L.length∧i=.int .i64 (atK L k)∧Blk wr Bn 79 (tabL 8 (sC S))∧Tab wr∧J (L.take k) wr) (fun i _=>left_of i)
 case atStart=>exact⟨0,Nat.zero_le _,rfl,HB1.out,HT1.out,H1.out⟩
 case round=>
  clear HB1 HT1 H1
  obtain⟨k,hk,rfl,hB,hT,hJs⟩:=hrel
  by_cases hlt:k<L.length
  ·obtain⟨m,hm,_⟩:=drop_at hlt
   have hm5:m<512:=HL.out m (List.mem_of_getElem? hm)
   have hak:atK L k=(m:Int):=by unfold atK;rw[hm]
   have htk:L.take (k+1)=L.take k++[m]:=by rw[List.take_add_one,hm];rfl
   have hA:=HA.out k m hm
   have hlen:(L.take k).length=k:=by simp;omega
   have hak2:atK L (k+1)=-1∨∃ m2:Nat,atK L (k+1)=(m2:Int)∧m<m2∧m2<512:=by
    unfold atK
    cases h2:L[k+1]? with
    | none=>exact .inl rfl
    | some m2=>
     refine .inr ⟨m2,rfl,?_,HL.out m2 (List.mem_of_getElem? h2)⟩
     obtain⟨g1,e1⟩:=List.getElem?_eq_some_iff.1 hm
     obtain⟨g2,e2⟩:=List.getElem?_eq_some_iff.1 h2
     have:=List.pairwise_iff_getElem.1 HS.out k (k+1) g1 g2 (by omega)
     omega
   obtain⟨fn,tmps,assign,body,hy,hR⟩:=HY.out (L.take k) m wr hm5 (List.mem_of_getElem? hm) hJs (by rw[hlen];exact hlt)
   rw[hak]
   have HB:=Lib.hid hB
   have HT:=Lib.hid hT
   have HH:=Lib.hid hA
   have HK:=Lib.hid htk
   have H2:=Lib.hid hak2
   clear hA htk hak2 hB hT hJs hak hm hlen
   have hm0:(0:Int)≤(m:Int):=by omega
   gi_wp2_with fail
   refine hR.mono ?_
   rintro e W3 (⟨rfl,hJ3,hk3⟩ | ⟨rfl,hJx3⟩)
   ·have hB3:Blk W3 Bn 79 (tabL 8 (sC S)):=hk3.2.trans HB.out
    have hT3:Tab W3:=tab_keepB HT.out h4 hk3.1
    obtain⟨c0,c1,c2,c3,c4,c5,c6,c7⟩:=hB3.eight
    have HC:=Lib.hid (HN.out ((m:Int)+1) W3 hT3)
    rw[HH.out] at HC
    have HB3:=Lib.hid hB3
    have HT3:=Lib.hid hT3
    have HJ3:=Lib.hid hJ3
    clear hB3 hT3 hJ3 hk3 hR hy
    gi_wp2_with fail
    refine⟨trivial,(callsIn_wide.2 HC.out).mono ?_⟩
    rintro e W4 ⟨rfl,hb4⟩
    have HB4:=HB3.out.keep hb4
    have HT4:=HT3.out.keep hb4
    have HJ4:=HJ.out _ _ _ HJ3.out hb4
    rw[←HK.out] at HJ4
    clear c0 c1 c2 c3 c4 c5 c6 c7 hb4
    gi_wp2_with fail
    go_roundw
    case rel=>exact⟨k+1,hlt,rfl,HB4,HT4,HJ4⟩
    case measure=>
     rcases H2.out with h | ⟨m2,h,h5,h6⟩
     ·rw[h,left_none,left_some];omega
     ·rw[h,left_some,left_some];omega
   ·gi_wp2_with fail
    refine bodyPost_ret (results_none rfl _ _ _) rfl ?_
    exact⟨⟨_,rfl⟩,.inr ⟨L.take k++[m],by rw[←HK.out];exact List.take_prefix _ _,hJx3⟩⟩
  ·obtain rfl:k=L.length:=by omega
   have hak:atK L L.length=-1:=by unfold atK;rw[List.getElem?_eq_none (Nat.le_refl _)]
   rw[hak]
   rw[List.take_length] at hJs
   have HJs:=Lib.hid hJs
   clear hB hT hak hJs
   gi_wp2_with fail
   go_end0
   exact⟨⟨_,rfl⟩,.inl ⟨L,rfl,HJs.out⟩⟩
theorem all_any (S:Nat) (w:World):Calls Tryz.prog 59 #[sV S] w fun e w'=>e=.returned (.func (.func 104) #[] #[.pointer (some ⟨w.heap.size,0,none⟩)])∧w'=w.alloc (.cells (sL S).toArray 79):=by
 unfold sV sL
 go_enter Tryz.func59,Tryz.ntmps59
 go_wp2
 go_ret
 exact⟨rfl,rfl⟩
theorem all_stops (n:Nat) (hn:1≤n) (Bn n₀ S:Nat) (hS:Fit S) (h4:tabN≤n₀) (w:World) (hB:Blk w Bn 79 (tabL 8 (sC S))) (hT:Tab w):
  SeqStopsK Fence.wide n Tryz.prog 104 #[.pointer (some ⟨Bn,0,none⟩)] (fun x:Nat=>#[Value.int .i64 x]) (Keep1 n₀ Bn) (fun ys=>ys=mem S) (fun pre=>pre <+: mem S) (mem S).length w:=fun l J Jx W hW hJ _ hY h0=>
 all1_in n hn l Bn n₀ S hS h4 J Jx (fun pre x W _ _=>hY pre x W) (fun pre A B ha hb=>hJ pre A B none ha ⟨hb.os,hb.tape,hb.output,hb.size,fun k hk _=>hb.block k hk⟩ (fun r e=>by cases e)) W (hB.keep hW) (hT.keep hW) h0
theorem all_stopsF (N n:Nat) (hn:1≤n) (Bn n₀ S:Nat) (hS:Fit S) (hN:∀ x∈mem S,x<N) (h4:tabN≤n₀) (w:World) (hB:Blk w Bn 79 (tabL 8 (sC S))) (hT:Tab w):
  SeqStopsK Fence.wide n Tryz.prog 104 #[.pointer (some ⟨Bn,0,none⟩)] (fun x:Fin N=>#[Value.int .i64 (x.1:Int)]) (Keep1 n₀ Bn) (fun ys=>ys.map Fin.val=mem S) (fun pre=>pre.map Fin.val <+: mem S) (mem S).length w:=fun l J Jx W hW hJ _ hY h0=>by
 refine(all1_in n hn l Bn n₀ S hS h4 (fun l W=>∃ l':List (Fin N),l'.map Fin.val=l∧J l' W) (fun l W=>∃ l':List (Fin N),l'.map Fin.val=l∧Jx l' W) ?_ ?_ W (hB.keep hW) (hT.keep hW) ⟨[],rfl,h0⟩).mono ?_
 ·rintro pre x W1 _ hx ⟨l',rfl,hj⟩ hlen
  refine(hY l' ⟨x,hN x hx⟩ W1 hj (by simpa using hlen)).mono ?_
  rintro e W' (⟨h1,h2,h3⟩ | ⟨h1,h2⟩)
  ·exact .inl ⟨h1,⟨l'++[⟨x,hN x hx⟩],by simp,h2⟩,h3⟩
  ·exact .inr ⟨h1,⟨l'++[⟨x,hN x hx⟩],by simp,h2⟩⟩
 ·rintro pre A B ⟨l',e,ha⟩ hb
  exact⟨l',e,hJ l' A B none ha ⟨hb.os,hb.tape,hb.output,hb.size,fun k hk _=>hb.block k hk⟩ (fun r e=>by cases e)⟩
 ·rintro e W' ⟨h1,(⟨ys,h2,l',h3,h4⟩ | ⟨pre,h2,l',h3,h4⟩)⟩
  ·exact⟨h1,.inl ⟨l',h3.trans h2,h4⟩⟩
  ·exact⟨h1,.inr ⟨l',by show List.map Fin.val l' <+: mem S;rw[h3];exact h2,h4⟩⟩
end Go.Proofs.YtjakdikhdndlgaaGreatDoor
namespace Go.Proofs.YtjakdikhdndlgaaGreatDoor
open Go.RowKit Go.Shelf
attribute [local go_sem] Oper.semAt_some
theorem Blk.not_row {W:World} {g t e:Nat} {s:List Value} (h:Blk W g t s) (hte:t≠e) {base size k:Nat} {v:Value} {xs:List Value} (hr:W.ownsRow base e size v k xs):some g≠v.ownBlock:=by
 rcases hr.2 with ⟨rfl,_⟩ | ⟨g',cap,cur,rfl,_,hgb,_⟩
 ·simp[Value.ownBlock]
 ·intro e'
  obtain rfl:g=g':=by simpa[Value.ownBlock] using e'
  have:=(show W.heap[g]?=_ from h).symm.trans hgb
  simp at this
  exact hte this.2
theorem Blk.kept {W W':World} {row:Option Nat} {g t:Nat} {s:List Value} (h:Blk W g t s) (hg:W.grownBy W' row) (hne:some g≠row):Blk W' g t s:=(hg.block g h.lt hne).trans h
theorem blk_own {β:Type} (g t:Nat) (s:List Value):Own (fun (_:β) W=>Blk W g t s):=by
 intro _ A B row h hg hr
 refine h.kept hg ?_
 rintro rfl
 obtain⟨o,ho,hc⟩:=hr g rfl
 have:=(show A.heap[g]?=_ from h).symm.trans ho
 cases this
 simp[Obj.isCells] at hc
theorem below_of_grown {w w':World} (h:w.grownBy w' none):Below w.heap.size w w':=(Below.refl _ w).grown h (Nat.le_refl _) (fun k e=>by cases e)
theorem Blk.eightA {w:World} {g t:Nat} {S:Nat} (h:Blk w g t (tabL 8 (sC S))):
  (∀ o,(w.alloc o).cell? ⟨g,0,none⟩=some (.int .u64 (wd S 0)))∧(∀ o,(w.alloc o).cell? ⟨g,1,none⟩=some (.int .u64 (wd S 1)))∧(∀ o,(w.alloc o).cell? ⟨g,2,none⟩=some (.int .u64 (wd S 2)))∧(∀ o,(w.alloc o).cell? ⟨g,3,none⟩=some (.int .u64 (wd S 3))) ∧
  (∀ o,(w.alloc o).cell? ⟨g,4,none⟩=some (.int .u64 (wd S 4)))∧(∀ o,(w.alloc o).cell? ⟨g,5,none⟩=some (.int .u64 (wd S 5)))∧(∀ o,(w.alloc o).cell? ⟨g,6,none⟩=some (.int .u64 (wd S 6)))∧(∀ o,(w.alloc o).cell? ⟨g,7,none⟩=some (.int .u64 (wd S 7))):=
 ⟨fun o=>(h.alloc o).cell (tabL_at (by decide)),fun o=>(h.alloc o).cell (tabL_at (by decide)),fun o=>(h.alloc o).cell (tabL_at (by decide)),fun o=>(h.alloc o).cell (tabL_at (by decide)),fun o=>(h.alloc o).cell (tabL_at (by decide)),fun o=>(h.alloc o).cell (tabL_at (by decide)),fun o=>(h.alloc o).cell (tabL_at (by decide)),fun o=>(h.alloc o).cell (tabL_at (by decide))⟩
theorem appendedK {W w1:World} {n₀ B Bn tS:Nat} {t e:TypeId} {size:Nat} {v v':Value} {k m:Nat} {xs ys s:List Value} {tmp:Obj}
  (hv:Boxed W B t v) (hS:Blk W Bn tS s) (hte:t≠e) (hse:tS≠e) (hne:B≠Bn) (hrow:W.ownsRow n₀ e size v k xs) (hn₀:n₀≤W.heap.size) (hB:n₀≤B)
  (hown':w1.ownsRow n₀ e size v' m ys) (hgrow:(W.alloc tmp).grownBy w1 v.ownBlock):
  Boxed w1 B t v∧Boxed (w1.setCell ⟨B,0,none⟩ v') B t v'∧(w1.setCell ⟨B,0,none⟩ v').ownsRow n₀ e size v' m ys∧KeepsOthers W (w1.setCell ⟨B,0,none⟩ v')∧Keep1 n₀ Bn W (w1.setCell ⟨B,0,none⟩ v')∧Blk (w1.setCell ⟨B,0,none⟩ v') Bn tS s:=by
 obtain⟨h1,h2,h3,h4,h5⟩:=hv.appended hte hrow hn₀ hB hown' hgrow
 have hb:Blk (w1.setCell ⟨B,0,none⟩ v') Bn tS s:=((hS.alloc tmp).kept hgrow (hS.not_row hse hrow)).other _ _ hne
 exact⟨h1,h2,h3,h4,⟨h5,(show _=_ from hb).trans (show _=_ from hS).symm⟩,hb⟩
def memI (S:Nat):List Int:=(mem S).map fun m:Nat=>(m:Int)
theorem memI_vals (l:List Nat):(l.map fun m:Nat=>(m:Int)).map intV=l.map fun m:Nat=>Value.int .i64 (m:Int):=by simp[List.map_map,Function.comp_def,intV]
theorem list_any (S:Nat) (w:World) (hS:Fit S) (hT:Tab w):Calls Tryz.prog 39 #[sV S] w (NewInts (memI S) w):=by
 obtain⟨i0,hi,hz0,hz1,hz2⟩:=info_parts int_info
 have hml:=mem_len S
 refine(callsIn_wide (n:=3)).1 ?_
 refine callsIn_of_wp_marks Tryz.func39 rfl trivial ?_ rfl
 have HC:=Lib.hid (fun w'=>len_any S w')
 have HA:=Lib.hid (fun w'=>all_any S w')
 unfold sV at HC HA ⊢
 simp only[Tryz.ntmps39,List.size_toArray,List.length_cons,List.length_nil,Nat.reduceAdd,Nat.reduceSub,Array.replicate_succ,Array.replicate_zero,List.push_toArray,List.append_toArray,List.nil_append,List.cons_append]
 gi_wp2_with fail
 have hS0:Blk (w.alloc (.cells (sL S).toArray 79)) w.heap.size 79 (tabL 8 (sC S)):=by rw[←sL_tab];exact blk_new w _ _
 have hb0:Below w.heap.size w (w.alloc (.cells (sL S).toArray 79)):=(Below.refl _ w).alloc (Nat.le_refl _) _
 unfold sL at hS0 hb0
 refine⟨trivial,(callsIn_wide.2 (HC.out _)).mono ?_⟩
 rintro e W1 ⟨rfl,hb1⟩
 have hS1:=hS0.keep hb1
 have hbb:=hb0.trans (hb1.mono (by simp))
 clear hS0 hb0 hb1
 have HS1:=Lib.hid hS1
 have HB1:=Lib.hid hbb
 have hsz:=hbb.size
 clear hS1 hbb
 gi_wp2_with (gi_at_make;refine wpListIn_make_own _ rfl _ _ 32 rfl w.heap.size 3 i0 (.int .i64 0) 1 Tryz.underlying32 hi hz0 hz1 .i64 .i64 ((mem S).length:Int) (mem S).length rfl rfl rfl (by rw[hz2];omega) (by unfold maxLen;omega) hsz ?_;intro W2 hown hgr;have HS2:=Lib.hid (HS1.out.keep (below_of_grown hgr));have HB2:=Lib.hid (HB1.out.trans ((below_of_grown hgr).mono hsz));have HO:=Lib.hid hown;obtain⟨c0,c1,c2,c3,c4,c5,c6,c7⟩:=HS2.out.eightA;clear hown hgr HS1 HB1)
 refine⟨trivial,(callsIn_wide.2 (HA.out _)).mono ?_⟩
 rintro e W3 ⟨rfl,hW3⟩
 gi_wp2_with fail
 rw[←hW3]
 have bO:Boxed W3 W2.heap.size 32 (.slice (some ⟨W1.heap.size,0,none⟩) 0 (mem S).length):=by rw[hW3];exact(Boxed.new W2 _ _).alloc _
 have hSB:Blk W3 (W2.heap.size+1) 79 (tabL 8 (sC S)):=by rw[hW3,←sL_tab];have:=blk_new (W2.alloc (.cells #[Value.slice (some ⟨W1.heap.size,0,none⟩) 0 (mem S).length] 32)) (sL S) 79;rwa [World.size_alloc] at this
 have hO3:W3.ownsRow w.heap.size 3 1 (.slice (some ⟨W1.heap.size,0,none⟩) 0 (mem S).length) 0 []:=by rw[hW3];exact(HO.out.alloc _).alloc _
 have hB3:Below w.heap.size w W3:=by rw[hW3];have:=HB2.out.size;exact(HB2.out.alloc this _).alloc (by simp;omega) _
 have hsz2:=HB2.out.size
 have h3s:W3.heap.size=W2.heap.size+2:=by rw[hW3];simp
 have hT3:=hT.keep hB3
 have h4:tabN≤w.heap.size:=hT.1
 clear hW3 HO HB2 HS2 c0 c1 c2 c3 c4 c5 c6 c7 HA HC
 refine wpIn_rangeFunc_ownG rfl (by decide) (gf:=104) (lb:=#[.pointer (some ⟨W2.heap.size+1,0,none⟩)]) rfl trivial (enters_of Tryz.func104 (by kernel_rfl) rfl)
  (all_stops 2 (by decide) (W2.heap.size+1) w.heap.size S hS h4 W3 hSB hT3) keep1_t (keep1_b (by omega) (by omega)) (Below.refl _ _) (fun _=>rfl)
  (fun (pre:List Nat) W=>(∃ v,Boxed W W2.heap.size 32 v∧W.ownsRow w.heap.size 3 1 v pre.length (pre.map fun m:Nat=>Value.int .i64 (m:Int))∧True)∧(Blk W (W2.heap.size+1) 79 (tabL 8 (sC S))∧Below w.heap.size w W))
  (fun _ _ _=>False)
  (OwnFrom.and (Own.from (holdsRow_own w.heap.size W2.heap.size 32 3 1 (fun pre:List Nat=>pre.length) (fun pre:List Nat=>pre.map fun m:Nat=>Value.int .i64 (m:Int)) (fun _ _=>True)) _) (OwnFrom.and (Own.from (blk_own _ _ _) _) (ownFrom_below (Nat.le_refl _) (by omega))))
  (fun _ _ _ _ _ hs _ _=>hs)
  ⟨⟨_,bO,hO3,trivial⟩,hSB,hB3⟩
  (fun x=>{ tmps:=#[.agg #[.int .u64 (wd S 0),.int .u64 (wd S 1),.int .u64 (wd S 2),.int .u64 (wd S 3),.int .u64 (wd S 4),.int .u64 (wd S 5),.int .u64 (wd S 6),.int .u64 (wd S 7)],.pointer (some ⟨w.heap.size,0,none⟩),.slice none 0 0,.pointer (some ⟨W2.heap.size,0,none⟩),.int .i64 x,.agg #[.int .u64 (wd S 0),.int .u64 (wd S 1),.int .u64 (wd S 2),.int .u64 (wd S 3),.int .u64 (wd S 4),.int .u64 (wd S 5),.int .u64 (wd S 6),.int .u64 (wd S 7)],.int .i64 (mem S).length,.slice (some ⟨W1.heap.size,0,none⟩) 0 (mem S).length,.agg #[.int .u64 (wd S 0),.int .u64 (wd S 1),.int .u64 (wd S 2),.int .u64 (wd S 3),.int .u64 (wd S 4),.int .u64 (wd S 5),.int .u64 (wd S 6),.int .u64 (wd S 7)],.func (.func 104) #[] #[.pointer (some ⟨W2.heap.size+1,0,none⟩)],.int .i64 x,undef,undef,undef,undef,undef],defers:=[] }) ?assign ?body ?done ?stop
 case assign=>
  intro l x W K hK
  gi_wp2
  exact hK
 case body=>
  rintro l pre x W ⟨⟨v,hv,hrow,_⟩,hSW,hB⟩ hlt
  have hc:=hv.cell
  have hbs:=hB.size
  gi_wp2_with (gi_at_builtin;refine wpListIn_append_own _ rfl _ _ 32 rfl w.heap.size 3 i0 (.int .i64 0) 1 8 Tryz.underlying32 hi hz0 hz1 hz2 rfl (by decide) _ _ _ rfl (hrow.alloc _) ⟨W.heap.size,0,none⟩ 1 1 [.int .i64 x] rfl rfl (cell_one_new _ _ _) (by simp[Value.oneCell']) (by unfold maxLen;omega) (by omega) (by simp;omega) ?_;intro v' w1 hown' hgrow _;obtain⟨g',cap',rfl⟩:=ownsRow_succ hown';obtain⟨hv1,hv2,hr2,hk2,hb2,hs2⟩:=appendedK hv hSW (by decide) (by decide) (by omega) hrow hbs hsz2 hown' hgrow;have hc1:=hv1.cell;have hf1:=hv1.frozen)
  exact⟨hk2.from _,hb2,⟨_,hv2,by simpa using hr2,trivial⟩,hs2,hB.trans hb2.1⟩
 case done=>
  rintro D ys W hD rfl ⟨⟨v,hv,hrow,_⟩,hSW,hB⟩ hK
  have hc:=hv.cell
  gi_wp2
  refine⟨by simp,.inl ⟨_,_,rfl,run_takeDeferred hK,?_⟩⟩
  exact⟨_,results_tmp rfl _ _ _,v,rfl,by rw[memI,memI_vals,List.length_map];exact ownsRow_putObj hrow _ hK rfl,hB.trans (belowK_b (w:=w) (Nat.le_refl _) W D _ _ (by omega) hK rfl rfl)⟩
 case stop=>
  rintro D c pre W _ _ h _
  exact h.elim
end Go.Proofs.YtjakdikhdndlgaaGreatDoor
