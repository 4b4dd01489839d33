/- Lemmas of the proof, part 6. Conditions: none. -/
import Derived.ProofKit
import Derived.OpenShut
import Derived.ShutString
import Derived.ChangeOld
import Derived.Below
import Derived.Deep.Slices
import Derived.Deep.Fields
import Derived.ChangeSame
import Derived.Test.YtjakdikhdndlgaaGreatDoorChecked
import Derived.Test.YtjakdikhdndlgaaGreatDoorBas05
set_option maxRecDepth 100000
set_option maxHeartbeats 8000000
namespace Go.Proofs.YtjakdikhdndlgaaGreatDoor
open Go.RowKit
theorem rrules_any (s:RulS) (w:World) (r:Rul) (h:RulAt w w.heap.size s r):Calls Tryz.prog 32 #[s.val] w (RetPost (.bool (rulesR r)) w.heap.size w):=by
 obtain⟨A0,n0,c0,A1,n1,c1,A2,n2,c2⟩:=s
 obtain⟨W0,hW0⟩:∃ W0,W0=w.alloc (.cells #[.slice A0 n0 c0,.slice A1 n1 c1,.slice A2 n2 c2] 27):=⟨_,rfl⟩
 have HB0:Hid (Below w.heap.size w W0):=Lib.hid (by rw[hW0];exact(Below.refl _ w).alloc (Nat.le_refl _) _)
 have h0:=h.keep HB0.out
 have hs0:W0.heap.size=w.heap.size+1:=by rw[hW0];simp
 have HC0:Hid (W0.cell? ⟨w.heap.size,0,none⟩=some (.slice A0 n0 c0)∧W0.cell? ⟨w.heap.size,1,none⟩=some (.slice A1 n1 c1)∧W0.cell? ⟨w.heap.size,2,none⟩=some (.slice A2 n2 c2)):=Lib.hid (by rw[hW0];refine⟨?_,?_,?_⟩<;>simp[go_sem])
 have HC:Hid (∀ W,Below W0.heap.size W0 W→W.cell? ⟨w.heap.size,0,none⟩=some (.slice A0 n0 c0)∧W.cell? ⟨w.heap.size,1,none⟩=some (.slice A1 n1 c1)∧W.cell? ⟨w.heap.size,2,none⟩=some (.slice A2 n2 c2)):=Lib.hid (fun W hb=>⟨(hb.cell (p:=⟨w.heap.size,0,none⟩) (by dsimp only;omega)).trans HC0.out.1,(hb.cell (p:=⟨w.heap.size,1,none⟩) (by dsimp only;omega)).trans HC0.out.2.1,(hb.cell (p:=⟨w.heap.size,2,none⟩) (by dsimp only;omega)).trans HC0.out.2.2⟩)
 have HBW:Hid (∀ W,Below W0.heap.size W0 W→Below w.heap.size w W):=Lib.hid (fun W hb=>HB0.out.trans (hb.mono HB0.out.size))
 have HH:=Lib.hid h0
 have HL:Hid (r.pairs.length=n0∧r.loads.length=n1∧r.caps.length=n2):=Lib.hid ⟨h0.1.1,h0.2.1.1,h0.2.2.1.1⟩
 have HX:Hid (Blk W0 w.heap.size 27 [.slice A0 n0 c0,.slice A1 n1 c1,.slice A2 n2 c2]):=Lib.hid (by rw[hW0];exact blk_new w _ _)
 have B0:=Lib.hid (Below.refl W0.heap.size W0)
 obtain⟨q0,q1,q2⟩:=HC.out _ B0.out
 clear h h0 HC0 HB0 hs0
 unfold RulS.val
 dsimp only
 by_cases g0:4096<n0∨1024<n1∨1024<n2
 ·have HF:Eqn (rulesR r) false:=by rw[Eqn,rulesR,HL.out.1,HL.out.2.1,HL.out.2.2,if_pos g0]
  by_cases d0:(4096:Int)<n0
  ·clear g0
   go_enter Tryz.func32,Tryz.ntmps32
   go_wp2_with fail
   go_ret
   exact⟨ret_bool HF.out.symm,by first|(rw[←hW0];exact HBW.out _ B0.out) | exact HBW.out _ B0.out⟩
  ·by_cases d1:(1024:Int)<n1
   ·clear g0
    go_enter Tryz.func32,Tryz.ntmps32
    go_wp2_with fail
    go_ret
    exact⟨ret_bool HF.out.symm,by first|(rw[←hW0];exact HBW.out _ B0.out) | exact HBW.out _ B0.out⟩
   ·have d2:(1024:Int)<n2:=by omega
    clear g0
    go_enter Tryz.func32,Tryz.ntmps32
    go_wp2_with fail
    go_ret
    exact⟨ret_bool HF.out.symm,by first|(rw[←hW0];exact HBW.out _ B0.out) | exact HBW.out _ B0.out⟩
 have d0:¬(4096:Int)<n0:=by omega
 have d1:¬(1024:Int)<n1:=by omega
 have d2:¬(1024:Int)<n2:=by omega
 have HF:Eqn (rulesR r) (goF goodP R5.nums none r.pairs&&goF goodL R5.nums none r.loads&&goF goodC R4.nums none r.caps):=by rw[Eqn,rulesR,HL.out.1,HL.out.2.1,HL.out.2.2,if_neg g0]
 rw[show rulesR r=_ from HF.out]
 obtain⟨ans,hans⟩:∃ ans,ans=(goF goodP R5.nums none r.pairs&&goF goodL R5.nums none r.loads&&goF goodC R4.nums none r.caps):=⟨_,rfl⟩
 rw[←hans]
 have HANS:=Eqn.mk hans
 have d0':n0≤4096:=by omega
 have d1':n1≤1024:=by omega
 have d2':n2≤1024:=by omega
 clear HF hans g0
 go_enter Tryz.func32,Tryz.ntmps32
 go_wp2_with fail
 rw[←hW0]
 clear hW0 q0 q1 q2
 refine rv_pairs w W0 _ A0 A1 A2 n0 c0 n1 c1 n2 c2 r ans HH.out HX.out HANS B0.out d0' d1' d2' _ _ _ _ _ _ _ _ _ _ _ _ _ _ _ _ _ _ _ _ _ _ _ _ _ _ _ _ _ _ _ _ _ _ _ _ _ _ _ _ _ _ _ _ _ _ _ _ _ _ _ _ _ _ _ _ _ _ _ _ _ _ _ _ _ _ _ _ _ _ _ _ _ _ _ _ _ _ _ _ _ _ _ _ _ _ _ _ _ _ _ _ _ _ _ _ _ _ _ _ _ _ _ _ _ _ _ _ _ _ _ _ _ _ _ _ _ _ _ _ _ _ _ _ _ _ _ _ _ _ _ _ _ _ _ _ _ _ _ _ _ _ _ _ _ _ _ _ _ _ _ _ _ _ _ _ _ _ _ _ _ _ _ _ _ _ _ _ _ _ _ _ _ _ _ _ _ _ _ _ _ _ _ _ _ _ _ _ _ _ _ _ _ _ _ _ _ _ _ _ _ _ _ ?_ ?_
 case refine_2=>
  intro u3 u4 u25 u26 u27 u28 u29 u30 u31 u32 u33 u34 u35 u36 u37 u38 u39 u40 u41 u42 u43 u44 u45 u46 u47 u48 u49 u50 u51 u52 u53 u54 u55 u56 u57 u58 u59 u60 u61 u62 u63 u64 u65 u66 u67 u68 u69 u70 u71 u72 u73 u74 u75 u76 u77 u78 u79 u80 u81 u82 u83 u84 u85 u86 u87 u88 w' hE hB
  have HB:=Lib.hid hB
  clear hB
  go_wp2_with fail
  go_ret
  exact⟨ret_bool hE.out.symm,HBW.out _ HB.out⟩
 intro u2 u3 u4 u25 u26 u27 u28 u29 u30 u31 u32 u33 u34 u35 u36 u37 u38 u39 u40 u41 u42 u43 u44 u45 u46 u47 u48 u49 u50 u51 u52 u53 u54 u55 u56 u57 u58 u59 u60 u61 u62 u63 u64 u65 u66 u67 u68 u69 u70 u71 u72 u73 u74 u75 u76 u77 u78 u79 u80 u81 u82 u83 u84 u85 u86 u87 u88 w0 hE0 hB0
 have HB0:=Lib.hid hB0
 clear hB0
 go_wp2_with fail
 refine rv_loads w W0 _ A0 A1 A2 n0 c0 n1 c1 n2 c2 r ans HH.out HX.out hE0 HB0.out d0' d1' d2' _ _ _ _ _ _ _ _ _ _ _ _ _ _ _ _ _ _ _ _ _ _ _ _ _ _ _ _ _ _ _ _ _ _ _ _ _ _ _ _ _ _ _ _ _ _ _ _ _ _ _ _ _ _ _ _ _ _ _ _ _ _ _ _ _ _ _ _ _ _ _ _ _ _ _ _ _ _ _ _ _ _ _ _ _ _ _ _ _ _ _ _ _ _ _ _ _ _ _ _ _ _ _ _ _ _ _ _ _ _ _ _ _ _ _ _ _ _ _ _ _ _ _ _ _ _ _ _ _ _ _ _ _ _ _ _ _ _ _ _ _ _ _ _ _ _ _ _ _ _ _ _ _ _ _ _ _ _ _ _ _ _ _ _ _ _ _ _ _ _ _ _ _ _ _ _ _ _ _ _ _ _ _ _ _ _ _ _ _ _ _ _ _ _ _ _ _ _ _ _ _ _ _ ?_ ?_
 case refine_2=>
  intro u5 u6 u89 u90 u91 u92 u93 u94 u95 u96 u97 u98 u99 u100 u101 u102 u103 u104 u105 u106 u107 u108 u109 u110 u111 u112 u113 u114 u115 u116 u117 u118 u119 u120 u121 u122 u123 u124 u125 u126 u127 u128 u129 u130 u131 u132 u133 u134 u135 u136 u137 u138 u139 u140 u141 u142 u143 u144 u145 u146 u147 u148 u149 u150 u151 u152 w' hE hB
  have HB:=Lib.hid hB
  clear hB
  go_wp2_with fail
  go_ret
  exact⟨ret_bool hE.out.symm,HBW.out _ HB.out⟩
 intro u2 u5 u6 u89 u90 u91 u92 u93 u94 u95 u96 u97 u98 u99 u100 u101 u102 u103 u104 u105 u106 u107 u108 u109 u110 u111 u112 u113 u114 u115 u116 u117 u118 u119 u120 u121 u122 u123 u124 u125 u126 u127 u128 u129 u130 u131 u132 u133 u134 u135 u136 u137 u138 u139 u140 u141 u142 u143 u144 u145 u146 u147 u148 u149 u150 u151 u152 w1 hE1 hB1
 have HB1:=Lib.hid hB1
 clear hB1
 go_wp2_with fail
 refine rv_caps w W0 _ A0 A1 A2 n0 c0 n1 c1 n2 c2 r ans HH.out HX.out hE1 HB1.out d0' d1' d2' _ _ _ _ _ _ _ _ _ _ _ _ _ _ _ _ _ _ _ _ _ _ _ _ _ _ _ _ _ _ _ _ _ _ _ _ _ _ _ _ _ _ _ _ _ _ _ _ _ _ _ _ _ _ _ _ _ _ _ _ _ _ _ _ _ _ _ _ _ _ _ _ _ _ _ _ _ _ _ _ _ _ _ _ _ _ _ _ _ _ _ _ _ _ _ _ _ _ _ _ _ _ _ _ _ _ _ _ _ _ _ _ _ _ _ _ _ _ _ _ _ _ _ _ _ _ _ _ _ _ _ _ _ _ _ _ _ _ _ _ _ _ _ _ _ _ _ _ _ _ _ _ _ _ _ _ _ _ _ _ _ _ _ _ _ _ _ _ _ _ _ _ _ _ _ _ _ _ _ _ _ _ _ _ _ _ _ _ _ _ _ _ _ _ _ _ _ _ _ _ _ _ _ ?_ ?_
 case refine_2=>
  intro u7 u8 u153 u154 u155 u156 u157 u158 u159 u160 u161 u162 u163 u164 u165 u166 u167 u168 u169 u170 u171 u172 u173 u174 u175 u176 u177 u178 u179 u180 u181 u182 u183 u184 u185 u186 u187 u188 u189 u190 u191 u192 u193 u194 u195 u196 u197 u198 u199 u200 u201 u202 u203 w' hE hB
  have HB:=Lib.hid hB
  clear hB
  go_wp2_with fail
  go_ret
  exact⟨ret_bool hE.out.symm,HBW.out _ HB.out⟩
 intro u2 u7 u8 u153 u154 u155 u156 u157 u158 u159 u160 u161 u162 u163 u164 u165 u166 u167 u168 u169 u170 u171 u172 u173 u174 u175 u176 u177 u178 u179 u180 u181 u182 u183 u184 u185 u186 u187 u188 u189 u190 u191 u192 u193 u194 u195 u196 u197 u198 u199 u200 u201 u202 u203 w2 hE2 hB2
 have HB2:=Lib.hid hB2
 clear hB2
 go_wp2_with fail
 go_ret
 exact⟨ret_bool hE2.out.symm,HBW.out _ HB2.out⟩
def chIn:Option Int→List Int→Bool
 | _,[]=>true
 | prev,x::r=>if x<2∨51<x∨notUp prev x=true then false else chIn (some x) r
def domGo:Option Int→List Dom→Bool
 | _,[]=>true
 | prev,d::r=>if stF d.st=false∨notUp prev d.st=true∨50<d.len then false else if chIn none d.chs then domGo (some d.st) r else false
def inD (ds:List Dom) (x:Int):Bool:=decide (0≤findD x 0 ds)
theorem inD_mem (ds:List Dom) (x:Int):inD ds x=decide (x∈ds.map Dom.st):=by
 have h:=findD_neg x ds 0
 unfold inD
 by_cases hx:x∈ds.map Dom.st
 ·rw[decide_eq_true hx] at h ⊢
  have:¬findD x 0 ds<0:=by simpa using h
  exact decide_eq_true (by omega)
 ·rw[decide_eq_false hx] at h ⊢
  have:findD x 0 ds<0:=by simpa using h
  exact decide_eq_false (by omega)
def validR (ds:List Dom) (r:Rul):Bool:=decide (ds.length≤512)&&rulesR r&&(domGo none ds&&(r.pairs.all (fun x=>inD ds x.a&&inD ds x.b)&&(r.loads.all (fun x=>inD ds x.a&&inD ds x.b)&&r.caps.all (fun x=>inD ds x.a))))
noncomputable def vdLoop (k:Nat):Code:=((Tryz.f10.body.map loopsOf).getD []).getD k .skip
namespace Lx
section
variable {P : Program} {ops : Array Oper} {C C' : World → Prop} {hs : List Nat}
def tailOk (n:Nat) (ops:Array Oper):Bool:=
 let M:=masks ops.toList []
 (List.range ops.size).all fun j=>decide (j<n)||(List.range n).all fun i=>(M.getD j 0).testBit i
theorem any_of_lexT {Q:Exit→Act→World→Prop} {n:Nat} (hok:ok hs ops=true) (ht:tailOk n ops=true):∀(fuel:Nat) (L1 L2:List Nat) (listed:Array Bool) (a:Act) (w:World),C w→(L1++L2).length=fuel →
  (∀ i,i∈L1++L2↔i<ops.size∧listed.getD i true=false)→(L1++L2).Pairwise (·<·)→(∀ i∈L1,i<n)→(∀ i∈L2,n≤i)→Down ops listed→listed.size=ops.size →
  lexN P ops C hs (fun a w=>C' w∧lexN P ops C' hs (fun a w=>Q .normal a w) L2 a w) L1 a w→wpAny P .any ops Q fuel listed a w:=by
 have htl:∀ j,n≤j→j<ops.size→∀ i,i<n→((masks ops.toList []).getD j 0).testBit i=true:=by
  intro j hj hjs i hi
  have h1:=List.all_eq_true.1 ht j (List.mem_range.2 hjs)
  simp only[Bool.or_eq_true,decide_eq_true_eq] at h1
  rcases h1 with h1 | h1
  ·omega
  ·exact List.all_eq_true.1 h1 i (List.mem_range.2 hi)
 have hok':∀(j:Nat) (oj:Oper),ops[j]?=some oj→noSel oj=true∧(∀ e∈oj.after,Region.binds .any e=true→e.on<j)∧∀ i,i<j→((masks ops.toList []).getD j 0).testBit i=true∨pair ops hs i j=true:=by
  intro j oj hj
  have hlt:j<ops.size:=(Array.getElem?_eq_some_iff.1 hj).1
  have h1:=List.all_eq_true.1 hok j (List.mem_range.2 hlt)
  simp only[hj,Bool.and_eq_true] at h1
  obtain⟨⟨h2,h3⟩,h4⟩:=h1
  refine⟨h2,fun e he hb=>?_,fun i hi=>?_⟩
  ·have:=Array.all_eq_true'.1 h3 e he
   simpa[hb] using this
  ·have:=List.all_eq_true.1 h4 i (List.mem_range.2 hi)
   simpa using this
 have hsel:∀(j:Nat) (o:Oper) cs b,ops[j]?=some o→o.op≠.select cs b:=by
  intro j o cs b hj he
  have:=(hok' j o hj).1
  simp[noSel,he] at this
 intro fuel
 induction fuel with
 | zero=>
  intro L1 L2 listed a w hC hL hm hs' h1 h2 hD hsz h
  have hnil:L1=[]:=List.eq_nil_of_length_eq_zero (by simp at hL;simp[hL])
  subst hnil
  exact any_of_lex hok _ L2 listed a w h.1 (by simpa using hL) (by simpa using hm) (by simpa using hs') hD hsz h.2
 | succ fuel ih=>
  intro L1 L2 listed a w hC hL hm hs' h1 h2 hD hsz h
  cases L1 with
  | nil=>exact any_of_lex hok _ L2 listed a w h.1 (by simpa using hL) (by simpa using hm) (by simpa using hs') hD hsz h.2
  | cons i0 L0=>
   have hi0:i0<n:=h1 i0 (by simp)
   obtain⟨hi1,hi2⟩:=(hm i0).1 (by simp)
   refine⟨fun hr=>?_,fun j hj=>?_⟩
   ·exfalso
    have ho:ops[i0]?=some ops[i0]:=Array.getElem?_eq_getElem hi1
    have hri:i0∈Region.ready .any ops listed:=by
     refine mem_ready.2 ⟨hi2,_,ho,fun e he hb=>?_⟩
     have hlt:=(hok' i0 _ ho).2.1 e he hb
     by_cases hle:listed.getD e.on true=false
     ·have hmem:e.on∈i0::(L0++L2):=(hm e.on).2 ⟨by omega,hle⟩
      rcases List.mem_cons.1 hmem with h | h
      ·omega
      ·have:=(List.pairwise_cons.1 hs').1 e.on h
       omega
     ·have hb2:e.on<listed.size:=by omega
      simp only[Array.getD_eq_getD_getElem?,Array.getElem?_eq_getElem hb2,Option.getD_some] at hle ⊢
      simpa using hle
    rw[hr] at hri
    cases hri
   ·obtain⟨hj1,oj,hoj,hjr⟩:=mem_ready.1 hj
    have hjlt:j<ops.size:=(Array.getElem?_eq_some_iff.1 hoj).1
    have hmem:j∈i0::L0:=by
     rcases List.mem_append.1 ((hm j).2 ⟨hjlt,hj1⟩) with h | h
     ·exact h
     ·exfalso
      have hl:=masks_sound hD (j+1) j oj (by omega) hoj hjr i0 (htl j (h2 j h) hjlt i0 hi0)
      have hb2:i0<listed.size:=by omega
      simp only[Array.getD_eq_getD_getElem?,Array.getElem?_eq_getElem hb2,Option.getD_some] at hl hi2
      rw[hl] at hi2
      cases hi2
    obtain⟨pre,post,hsplit⟩:=List.append_of_mem hmem
    rw[hsplit] at hs' hm hL h h1
    clear hsplit hmem
    have hs1:=(List.pairwise_append.1 hs').1
    have hpre:∀ i∈pre,i<j:=by
     intro i hi
     exact(List.pairwise_append.1 hs1).2.2 i hi j (by simp)
    have hpost:∀ i∈post,j<i:=fun i hi=>(List.pairwise_cons.1 (List.pairwise_append.1 hs1).2.1).1 i hi
    have hpair:∀ i∈pre,pair ops hs i j=true:=by
     intro i hi
     rcases(hok' j oj hoj).2.2 i (hpre i hi) with h1 | h1
     ·exfalso
      have hl:=masks_sound hD (j+1) j oj (by omega) hoj hjr i h1
      obtain⟨hi1,hi2⟩:=(hm i).1 (by simp[hi])
      have hb2:i<listed.size:=by omega
      simp only[Array.getD_eq_getD_getElem?,Array.getElem?_eq_getElem hb2,Option.getD_some] at hl hi2
      rw[hl] at hi2
      cases hi2
     ·exact h1
    have hp1:=pull hoj hsel post pre a w hpair hC h
    have hset:∀ i,(listed.setIfInBounds j true).getD i true=false↔(listed.getD i true=false∧i≠j):=by
     intro i
     by_cases hij:i=j
     ·subst hij
      simp[Array.getD_eq_getD_getElem?,Array.getElem?_setIfInBounds]
      split<;>simp_all
     ·simp[Array.getD_eq_getD_getElem?,Array.getElem?_setIfInBounds_ne (Ne.symm hij),hij]
    have hp2:step P ops C hs j oj (wpAny P .any ops Q fuel (listed.setIfInBounds j true)) a w:=by
     refine step_mono hC hp1 fun a' w' hC' _ hK=>ih (pre++post) L2 _ a' w' hC' ?_ ?_ ?_ ?_ h2 ?_ (by simp[hsz]) hK
     ·simp at hL ⊢;omega
     ·intro i
      rw[hset]
      constructor
      ·intro hi
       have hi':i∈(pre++j::post)++L2:=by
        simp only[List.mem_append,List.mem_cons] at hi ⊢
        rcases hi with (h | h) | h<;>simp[h]
       obtain⟨q1,q2⟩:=(hm i).1 hi'
       refine⟨q1,q2,?_⟩
       simp only[List.mem_append] at hi
       rcases hi with (h | h) | h
       ·have:=hpre i h;omega
       ·have:=hpost i h;omega
       ·have:=h1 j (by simp)
        have:=h2 i h
        omega
      ·rintro⟨q1,q2,q3⟩
       have:=(hm i).2 ⟨q1,q2⟩
       simp only[List.mem_append,List.mem_cons] at this ⊢
       rcases this with (h | h | h) | h
       ·simp[h]
       ·exact absurd h q3
       ·simp[h]
       ·simp[h]
     ·have hp:=List.pairwise_append.1 hs'
      refine List.pairwise_append.2 ⟨?_,hp.2.1,fun x hx y hy=>hp.2.2 x (by simp only[List.mem_append,List.mem_cons] at hx ⊢;rcases hx with h | h<;>simp[h]) y hy⟩
      have hq:=List.pairwise_append.1 hs1
      refine List.pairwise_append.2 ⟨hq.1,(List.pairwise_cons.1 hq.2.1).2,fun x hx y hy=>?_⟩
      have:=hpre x hx
      have:=hpost y hy
      omega
     ·intro i hi
      refine h1 i ?_
      simp only[List.mem_append,List.mem_cons] at hi ⊢
      rcases hi with h | h<;>simp[h]
     ·intro j' o' ho' hl' e he hb
      by_cases hjj:j'=j
      ·subst hjj
       rw[hoj] at ho'
       injection ho' with ho'
       subst ho'
       exact getD_set_true (hjr e he hb)
      ·rw[getD_set_ne false (Ne.symm hjj)] at hl'
       exact getD_set_true (hD j' o' ho' hl' e he hb)
    unfold step at hp2
    unfold wpOp
    simp only[hoj]
    split
    ·rename_i hw
     rw[if_pos hw] at hp2
     left
     rcases hp2 with ⟨_,v,h3,h4⟩ | ⟨_,v,h3,h4⟩ | ⟨_,h3⟩
     ·unfold Oper.wp;rw[h3 w hC];exact h4
     ·unfold Oper.wp;rw[h3];exact h4
     ·exact Oper.wp_mono (fun _ _ hh=>hh.2) (wp_noQ h3)
    ·rename_i hw
     rw[if_neg hw] at hp2
     exact hp2
end
theorem lexN_of_lexP {P:Program} {ops:Array Oper} {C:World→Prop} {hs:List Nat} {Q:Act→World→Prop}:∀(l:List Oper) (k:Nat),(∀ m,m<l.length→l[m]?=ops[k+m]?)→lex P ops C hs Q k l=lexN P ops C hs Q (List.range' k l.length):=by
 intro l
 induction l with
 | nil=>intro k _;funext a w;simp[lex,lexN]
 | cons o r ih=>
  intro k h
  have h0:ops[k]?=some o:=by simpa using(h 0 (by simp)).symm
  have ih':=ih (k+1) (fun m hm=>by have:=h (m+1) (by simp;omega);simpa[Nat.add_assoc,Nat.add_comm 1 m] using this)
  funext a w
  simp only[lex,List.length_cons,List.range'_succ,lexN,h0,ih']
theorem regionT {P:Program} {C C':World→Prop} {hs:List Nat} {id:Nat} {l:List Oper} {Q:Exit→Act→World→Prop} {a:Act} {w:World} (n:Nat) (l1 l2:List Oper) (hl:l=l1++l2) (hn:l1.length=n) (hm:P.follows .mixedOrders=true) (hok:ok hs l.toArray=true) (ht:tailOk n l.toArray=true) (hC:C w.drew)
  (h:lex P l.toArray C hs (fun a w=>C' w∧lex P l.toArray C' hs (fun a w=>Q .normal a w) n l2 a w) 0 l1 a w.drew):(Code.region id l.toArray true).wp P Q a w:=by
 subst hl
 refine wp_region_any hm ?_
 refine any_of_lexT (C:=C) (C':=C') (hs:=hs) (n:=n) hok ht _ (List.range' 0 n) (List.range' n l2.length) _ a _ hC (by simp[hn]) ?_ ?_ ?_ ?_ ?_ (by simp) ?_
 ·intro i
  simp[Array.getD_eq_getD_getElem?,Array.getElem?_replicate,hn]
  constructor
  ·intro hi
   have:i<n+l2.length:=by omega
   exact⟨this,by simp[this]⟩
  ·rintro⟨hi,_⟩
   omega
 ·have h1:=List.pairwise_lt_range (n:=n+l2.length)
  rw[List.range_eq_range',List.range'_append_1.symm] at h1
  simpa using h1
 ·intro i hi;simp at hi;exact hi
 ·intro i hi;simp at hi;exact hi.1
 ·intro j o ho hl
  simp[Array.getD_eq_getD_getElem?,Array.getElem?_replicate] at hl
  split at hl<;>simp at hl
 ·have e2:=lexN_of_lex (P:=P) (ops:=(l1++l2).toArray) (C:=C') (hs:=hs) (Q:=fun a w=>Q .normal a w) l2 n (fun m=>by rw[List.getElem?_toArray,List.getElem?_append_right (by omega)];congr 1;omega)
  rw[e2] at h
  have e1:=lexN_of_lexP (P:=P) (ops:=(l1++l2).toArray) (C:=C) (hs:=hs) (Q:=fun a w=>C' w∧lexN P (l1++l2).toArray C' hs (fun a w=>Q .normal a w) (List.range' n l2.length) a w) l1 0 (fun m hm=>by rw[Nat.zero_add,List.getElem?_toArray,List.getElem?_append_left hm])
  rw[e1,hn] at h
  exact h
section
variable {P : Program} {ops : Array Oper} {C : World → Prop} {hs : List Nat} {Q : Act → World → Prop} {k : Nat} {o : Oper} {r : List Oper} {a : Act} {w : World}
end
end Lx
theorem stS_bit:∀(l:List Int) (a k:Nat),(l.foldl (fun a i=>a ||| 2 ^ i.toNat) a).testBit k=(a.testBit k||l.any (fun i=>i.toNat == k)):=by
 intro l
 induction l with
 | nil=>intro a k;simp
 | cons x r ih=>
  intro a k
  rw[List.foldl_cons,ih,Nat.testBit_or,Nat.testBit_two_pow,List.any_cons,Bool.or_assoc]
  congr 2
theorem hasS_mem {l:List Int} (hl:∀ y∈l,0≤y∧y<512) (x:Int):hasS (stS l) x=decide (x∈l):=by
 unfold hasS
 by_cases hx:0≤x∧x<512
 ·unfold stS
  rw[stS_bit,Nat.zero_testBit,Bool.false_or]
  by_cases hm:x∈l
  ·have h1:l.any (fun i=>i.toNat == x.toNat)=true:=List.any_eq_true.2 ⟨x,hm,by simp⟩
   simp[hx.1,hx.2,hm,h1]
  ·have h1:l.any (fun i=>i.toNat == x.toNat)=false:=by
    rw[List.any_eq_false]
    intro y hy h2
    have h3:y.toNat=x.toNat:=by simpa using h2
    obtain⟨g1,g2⟩:=hl y hy
    exact hm (by rw[show x=y by omega];exact hy)
   simp[hx.1,hx.2,hm,h1]
 ·have hm:x∉l:=fun h=>hx (hl x h)
  have:¬(0≤x∧x<512):=hx
  simp only[hm,decide_false]
  by_cases h0:0≤x
  ·have h1:¬x<512:=fun h=>hx ⟨h0,h⟩
   simp[h1]
  ·simp[h0]
theorem lessL_trans:∀(a b c:List Int),lessL a b=true→lessL b c=true→lessL a c=true:=by
 intro a
 induction a with
 | nil=>intro b c h;simp[lessL] at h
 | cons x r ih=>
  intro b c h1 h2
  cases b with
  | nil=>simp[lessL] at h1
  | cons y s=>
   cases c with
   | nil=>simp[lessL] at h2
   | cons z t=>
    rw[lessL] at h1 h2 ⊢
    by_cases e1:x=y
    ·subst e1
     rw[if_neg (by simp)] at h1
     by_cases e2:x=z
     ·subst e2
      rw[if_neg (by simp)] at h2 ⊢
      exact ih s t h1 h2
     ·rw[if_pos e2] at h2 ⊢
      exact h2
    ·rw[if_pos e1] at h1
     have h1':x<y:=by simpa using h1
     by_cases e2:y=z
     ·subst e2
      rw[if_pos e1];exact h1
     ·rw[if_pos e2] at h2
      have h2':y<z:=by simpa using h2
      rw[if_pos (by omega)]
      exact decide_eq_true (by omega)
theorem incF_pair {α:Type} (cmp:α→α→Int) (nums:α→List Int) (hc:∀ x y,decide (0≤cmp x y)=!lessL (nums x) (nums y)):∀ l:List α,incF cmp l=true↔l.Pairwise (fun x y=>lessL (nums x) (nums y)=true):=by
 intro l
 induction l with
 | nil=>simp[incF]
 | cons x r ih=>
  cases r with
  | nil=>simp[incF]
  | cons y t=>
   rw[incF_cons]
   have h:=hc x y
   constructor
   ·intro h1
    by_cases h0:0≤cmp x y
    ·rw[if_pos h0] at h1;cases h1
    ·rw[if_neg h0] at h1
     rw[decide_eq_false h0] at h
     have hxy:lessL (nums x) (nums y)=true:=by simpa using h.symm
     have hp:=ih.1 h1
     refine List.pairwise_cons.2 ⟨fun z hz=>?_,hp⟩
     rcases List.mem_cons.1 hz with rfl | hz
     ·exact hxy
     ·exact lessL_trans _ _ _ hxy ((List.pairwise_cons.1 hp).1 z hz)
   ·intro hp
    obtain⟨h1,h2⟩:=List.pairwise_cons.1 hp
    have hxy:=h1 y (by simp)
    rw[hxy] at h
    have h0:¬0≤cmp x y:=by simpa using h
    rw[if_neg h0]
    exact ih.2 h2
theorem incF_filter {α:Type} (cmp:α→α→Int) (nums:α→List Int) (hc:∀ x y,decide (0≤cmp x y)=!lessL (nums x) (nums y)) (f:α→Bool) {l:List α} (h:incF cmp l=true):incF cmp (l.filter f)=true:=
 (incF_pair cmp nums hc _).2 (((incF_pair cmp nums hc l).1 h).sublist List.filter_sublist)
theorem rules_filter {r:Rul} (h:rulesF r=true) (f g:R5→Bool) (k:R4→Bool):rulesF ⟨r.pairs.filter f,r.loads.filter g,r.caps.filter k⟩=true:=by
 simp only[rulesF,Bool.and_eq_true,decide_eq_true_eq] at h ⊢
 obtain⟨⟨⟨⟨⟨⟨⟨⟨h1,h2⟩,h3⟩,h4⟩,h5⟩,h6⟩,h7⟩,h8⟩,h9⟩:=h
 have e1:=List.length_filter_le f r.pairs
 have e2:=List.length_filter_le g r.loads
 have e3:=List.length_filter_le k r.caps
 have all:∀ {α:Type} {p q:α→Bool} {l:List α},l.all p=true→(l.filter q).all p=true:=fun {α p q l} h=>List.all_eq_true.2 fun x hx=>List.all_eq_true.1 h x (List.mem_filter.1 hx).1
 exact⟨⟨⟨⟨⟨⟨⟨⟨by omega,all h2⟩,incF_filter cmp5 R5.nums cmp5_less f h3⟩,by omega⟩,all h5⟩,incF_filter cmp5 R5.nums cmp5_less g h6⟩,by omega⟩,all h8⟩,incF_filter cmp4 R4.nums cmp4_less k h9⟩
end Go.Proofs.YtjakdikhdndlgaaGreatDoor
namespace Go.Proofs.YtjakdikhdndlgaaGreatDoor
open Go.RowKit Go.ChangeShapes Go.WideShapes Go.ChangeAt Go.Deep
theorem i64_of_wf {n:Int} (h:(Lit.int .i64 n).wf=true):I64 n:=by
 have:=bounds_i64 h
 unfold I64;omega
theorem lt_of_cell {w:World} {a:Addr} {v:Value} (h:w.cell? a=some v):a.block<w.heap.size∧a.spot=none:=by
 unfold World.cell? at h
 split at h
 ·rename_i c e f hh
  refine⟨?_,?_⟩
  ·rcases Nat.lt_or_ge a.block w.heap.size with h1 | h1
   ·exact h1
   ·rw[Array.getElem?_eq_none h1] at hh;cases hh
  ·split at h
   ·cases h
   ·rename_i hs;simpa using hs
 ·cases h
section
variable {H : Type} {enc : TypeId × Value → H} {P : Program} {w : World} {base b0 : Nat} {spare : Nat → Bool} {held : Bool} {r : Reach}
theorem ints_of_trod {t e:TypeId} {fuel:Nat} {A:Option Addr} {n c:Nat} {x:DataW H×List MemPlace} (ht:P.underlying t=some (.slice e)) (he:P.underlying e=some (.int .i64)) (hc:P.cellsOf e=1)
  (hf:DataW.trod enc P w base spare held fuel t [.slice A n c]=some x):∃ xs:List Int,Row1 (fun z=>.int .i64 z) w w.heap.size A n xs∧(∀ z∈xs,I64 z)∧n≤9223372036854775807:=by
 rcases open_ints ht he hc hf with ⟨hcs,_⟩ | ⟨x,l,c',zs,hcs,_,hl,hm,hz,_,hcell,hwz⟩
 ·simp at hcs
  obtain⟨rfl,rfl,rfl⟩:=hcs
  exact⟨[],Row1.nil _ _ _ _,(fun _ h=>by cases h),by omega⟩
 ·simp at hcs
  obtain⟨rfl,rfl,rfl⟩:=hcs
  have hzl:n≤zs.length:=by rw[hz];split<;>omega
  refine⟨zs.take n,⟨by rw[List.length_take];omega,fun hn=>?_⟩,fun z h=>i64_of_wf (hwz z (List.mem_of_mem_take h)),by unfold maxLen at hm;omega⟩
  have h0:=hcell 0 (by omega)
  obtain⟨hlt,hsp⟩:=lt_of_cell h0
  obtain⟨b,off,spot⟩:=x
  simp only[Addr.add,if_true] at hlt hsp
  subst hsp
  refine⟨b,off,rfl,hlt,fun k z hk=>?_⟩
  have hkn:k<n:=by
   have:=(List.getElem?_eq_some_iff.1 hk).1
   rw[List.length_take] at this
   omega
  have h1:=hcell k (by omega)
  rw[List.getElem?_take_of_lt hkn] at hk
  rw[List.getD_eq_getElem?_getD,hk] at h1
  by_cases hk0:k=0
  ·subst hk0
   simpa[Addr.add] using h1
  ·simpa[Addr.add,hk0] using h1
theorem choose_fn {β:Type} (d:β) {Q:Nat→β→Prop} {m:Nat} (h:∀ i,i<m→∃ b,Q i b):∃ G:Nat→β,∀ i,i<m→Q i (G i):=by
 refine⟨fun i=>if h':i<m then Classical.choose (h i h') else d,fun i hi=>?_⟩
 dsimp only
 rw[dif_pos hi]
 exact Classical.choose_spec (h i hi)
theorem addr_add (b off:Nat) (k:Nat):(⟨b,off,none⟩:Addr).add k=⟨b,off+k,none⟩:=by
 unfold Addr.add
 by_cases h:k=0
 ·subst h;rfl
 ·rw[if_neg h]
theorem elems_of_trod {t e:TypeId} {fuel sz:Nat} {A:Option Addr} {n c:Nat} {x:DataW H×List MemPlace} (ht:P.underlying t=some (.slice e)) (hC:P.cellsOf e=sz) (hsz:0<sz)
  (hf:DataW.trod enc P w base spare held fuel t [.slice A n c]=some x):
  n≤9223372036854775807∧∃(G:Nat→List Value) (m:Nat),(∀ i,i<n→(G i).length=sz∧∃ y,DataW.trod enc P w base spare held m e (G i)=some y) ∧
   (0<n→∃ b off,A=some ⟨b,off,none⟩∧b<w.heap.size∧∀ i,i<n→∀ j,j<sz→w.cell? ⟨b,off+i * sz+j,none⟩=(G i)[j]?):=by
 rcases open_slice ht hf with ⟨hcs,_⟩ | ⟨a,len,cap,m,fu,D,Pl,hcs,_,hl,hm,hmm,_,hi⟩
 ·simp at hcs
  obtain⟨rfl,rfl,rfl⟩:=hcs
  exact⟨by omega,fun _=>[],0,fun i h=>absurd h (by omega),fun h=>absurd h (by omega)⟩
 ·simp at hcs
  obtain⟨rfl,rfl,rfl⟩:=hcs
  have hnm:n≤m:=by rw[hmm];split<;>omega
  rw[hC] at hi
  obtain⟨G,hG⟩:=choose_fn [] hi
  refine⟨by unfold maxLen at hm;omega,G,fu,fun i hin=>?_,fun hn=>?_⟩
  ·obtain⟨h1,h2⟩:=hG i (by omega)
   exact⟨(World.cells?_some h1).2.1,_,h2⟩
  ·have h0:=hG 0 (by omega)
   obtain⟨_,hlen,hat⟩:=World.cells?_some h0.1
   have hc0:=hat 0 hsz
   rw[List.getElem?_eq_getElem (by omega)] at hc0
   obtain⟨hlt,hsp⟩:=lt_of_cell hc0
   obtain⟨b,off,spot⟩:=a
   simp only[Addr.add,Nat.zero_mul,if_true] at hlt hsp
   subst hsp
   refine⟨b,off,rfl,hlt,fun i hin j hj=>?_⟩
   have h2:=(World.cells?_some (hG i (by omega)).1).2.2 j hj
   rw[addr_add,addr_add] at h2
   exact h2
theorem rowS_of_elems {α:Type} {sz n:Nat} {A:Option Addr} (f:α→Nat→Value) (Pr:α→Prop) (G:Nat→List Value) (hG:∀ i,i<n→∃ a,Pr a∧∀ j,j<sz→(G i)[j]?=some (f a j))
  (hA:0<n→∃ b off,A=some ⟨b,off,none⟩∧b<w.heap.size∧∀ i,i<n→∀ j,j<sz→w.cell? ⟨b,off+i * sz+j,none⟩=(G i)[j]?):
  ∃ xs:List α,RowS sz f w w.heap.size A n xs∧∀ a∈xs,Pr a:=by
 refine⟨List.ofFn fun i:Fin n=>Classical.choose (hG i.1 i.2),⟨by simp,fun hn=>?_⟩,fun a ha=>?_⟩
 ·obtain⟨b,off,h1,h2,h3⟩:=hA hn
  refine⟨b,off,h1,h2,fun k x hx j hj=>?_⟩
  have hk:k<n:=by have:=(List.getElem?_eq_some_iff.1 hx).1;simpa using this
  rw[List.getElem?_ofFn,dif_pos hk] at hx
  injection hx with hx
  rw[h3 k hk j hj,←hx]
  exact(Classical.choose_spec (hG k hk)).2 j hj
 ·obtain⟨i,rfl⟩:=List.mem_ofFn.1 ha
  exact(Classical.choose_spec (hG i.1 i.2)).1
def isI64 (d:Option TypeDesc):Bool:=match d with | some (.int .i64)=>true | _=>false
theorem isI64_spec {d:Option TypeDesc} (h:isI64 d=true):d=some (.int .i64):=by
 unfold isI64 at h
 split at h
 ·rfl
 ·cases h
theorem fields_of_trod {e:TypeId} {fs:Array Field} {fuel:Nat} {cs:List Value} {y:DataW H×List MemPlace} (he:P.underlying e=some (.struct fs)) (hone:oneCellFields P fs=true) (hC:P.cellsOf e=fs.size)
  (h:DataW.trod enc P w base spare held fuel e cs=some y):∃ m,∀(j:Nat) (f:Field),fs[j]?=some f→∃ v z,cs[j]?=some v∧DataW.trod enc P w base spare held m f.type [v]=some z:=by
 obtain⟨ys,m,_,_,hlen,hyl,hf⟩:=DataW.trod_struct he h
 refine⟨m,fun j f hj=>?_⟩
 obtain⟨ho,hk⟩:=hone_of hone j f hj
 have hjl:j<fs.size:=(Array.getElem?_eq_some_iff.1 hj).1
 have hjc:j<cs.length:=by omega
 have h1:=hf j f hj
 rw[ho,hk] at h1
 have h2:(cs.drop j).take 1=[cs[j]]:=by
  rw[List.drop_eq_getElem_cons hjc];rfl
 rw[h2,List.getElem?_eq_getElem (by omega)] at h1
 exact⟨_,_,List.getElem?_eq_getElem hjc,h1⟩
theorem ints_of_struct {e:TypeId} {fs:Array Field} {fuel:Nat} {cs:List Value} {y:DataW H×List MemPlace} (he:P.underlying e=some (.struct fs)) (hone:oneCellFields P fs=true) (hC:P.cellsOf e=fs.size)
  (hint:(fs.all fun f=>isI64 (P.underlying f.type))=true) (h:DataW.trod enc P w base spare held fuel e cs=some y):
  ∃ g:Nat→Int,∀ j,j<fs.size→cs[j]?=some (.int .i64 (g j))∧I64 (g j):=by
 obtain⟨m,hm⟩:=fields_of_trod he hone hC h
 have key:∀ j,j<fs.size→∃ z,cs[j]?=some (.int .i64 z)∧I64 z:=by
  intro j hj
  obtain⟨v,z,h1,h2⟩:=hm j fs[j] (Array.getElem?_eq_getElem hj)
  have h3:=isI64_spec (Array.all_eq_true.1 hint j hj)
  obtain⟨q,hq,_,hw⟩:=DataW.trod_int h3 h2
  simp at hq
  subst hq
  exact⟨q,h1,i64_of_wf hw⟩
 exact choose_fn 0 key
end
end Go.Proofs.YtjakdikhdndlgaaGreatDoor
namespace Go.Proofs.YtjakdikhdndlgaaGreatDoor
open Go.RowKit Go.ChangeShapes Go.WideShapes Go.ChangeAt Go.Deep Go.Joins
section
variable {H : Type} {enc : TypeId × Value → H} {w : World} {base b0 : Nat} {spare : Nat → Bool} {held : Bool} {r : Reach}
def chC (x:Int×Int):Nat→Value
 | 0=>.int .i64 x.1
 | _=>.int .i64 x.2
theorem doms_cells {fuel:Nat} {cs:List Value} {y:DataW H×List MemPlace} (h:DataW.trod enc Tryz.prog w base spare held fuel 64 cs=some y):
  ∃ b:Dom,(∀ j,j<2→cs[j]?=some (b.cell j))∧Row1 intV w w.heap.size b.adr b.len b.chs∧b.len≤9223372036854775807:=by
 obtain⟨m,hm⟩:=fields_of_trod Tryz.underlying64 (by kernel_rfl) (by kernel_rfl) h
 obtain⟨v0,z0,c0,t0⟩:=hm 0 _ rfl
 obtain⟨v3,z3,c3,t3⟩:=hm 1 _ rfl
 obtain⟨a0,e0,_,_⟩:=DataW.trod_int Tryz.underlying3 t0
 obtain⟨A,n,c,e3⟩:=slice_form Tryz.underlying32 t3
 simp at e0 e3
 subst e0 e3
 obtain⟨xs,hr,_,hn⟩:=ints_of_trod Tryz.underlying32 Tryz.underlying3 (by kernel_rfl) t3
 refine⟨⟨a0,A,n,c,xs⟩,fun j hj=>?_,hr,hn⟩
 match j,hj with
 | 0,_=>exact c0
 | 1,_=>exact c3
theorem doms_of_trod {fuel:Nat} {A:Option Addr} {n c:Nat} {x:DataW H×List MemPlace} (hf:DataW.trod enc Tryz.prog w base spare held fuel 22 [.slice A n c]=some x):
  n≤9223372036854775807∧∃ ds:List Dom,DomsAt w w.heap.size A n ds:=by
 obtain⟨hn,G,m,h1,h2⟩:=elems_of_trod (sz:=2) Tryz.underlying22 (by kernel_rfl) (by omega) hf
 obtain⟨xs,hx,hp⟩:=rowS_of_elems (w:=w) (A:=A) Dom.cell (fun b=>Row1 intV w w.heap.size b.adr b.len b.chs) G (fun i hi=>by
  obtain⟨_,y,hy⟩:=h1 i hi
  obtain⟨b,h3,h4,_⟩:=doms_cells hy
  exact⟨b,h4,h3⟩) h2
 exact⟨hn,xs,hx,hp⟩
theorem pairs_of_trod {fuel:Nat} {A:Option Addr} {n c:Nat} {x:DataW H×List MemPlace} (hf:DataW.trod enc Tryz.prog w base spare held fuel 23 [.slice A n c]=some x):
  n≤9223372036854775807∧∃ xs:List R5,RowS 5 R5.cell w w.heap.size A n xs:=by
 obtain⟨hn,G,m,h1,h2⟩:=elems_of_trod (sz:=5) Tryz.underlying23 (by kernel_rfl) (by omega) hf
 refine⟨hn,?_⟩
 obtain⟨xs,hx,_⟩:=rowS_of_elems (w:=w) (A:=A) R5.cell (fun _=>True) G (fun i hi=>by
  obtain⟨_,y,hy⟩:=h1 i hi
  obtain⟨g,hg⟩:=ints_of_struct Tryz.underlying67 (by kernel_rfl) (by kernel_rfl) (by kernel_rfl) hy
  refine⟨⟨g 0,g 1,g 2,g 3,g 4⟩,trivial,fun j hj=>?_⟩
  have:=(hg j hj).1
  match j,hj with
  | 0,_=>exact this
  | 1,_=>exact this
  | 2,_=>exact this
  | 3,_=>exact this
  | 4,_=>exact this) h2
 exact⟨xs,hx⟩
theorem loads_of_trod {fuel:Nat} {A:Option Addr} {n c:Nat} {x:DataW H×List MemPlace} (hf:DataW.trod enc Tryz.prog w base spare held fuel 24 [.slice A n c]=some x):
  n≤9223372036854775807∧∃ xs:List R5,RowS 5 R5.cell w w.heap.size A n xs:=by
 obtain⟨hn,G,m,h1,h2⟩:=elems_of_trod (sz:=5) Tryz.underlying24 (by kernel_rfl) (by omega) hf
 refine⟨hn,?_⟩
 obtain⟨xs,hx,_⟩:=rowS_of_elems (w:=w) (A:=A) R5.cell (fun _=>True) G (fun i hi=>by
  obtain⟨_,y,hy⟩:=h1 i hi
  obtain⟨g,hg⟩:=ints_of_struct Tryz.underlying69 (by kernel_rfl) (by kernel_rfl) (by kernel_rfl) hy
  refine⟨⟨g 0,g 1,g 2,g 3,g 4⟩,trivial,fun j hj=>?_⟩
  have:=(hg j hj).1
  match j,hj with
  | 0,_=>exact this
  | 1,_=>exact this
  | 2,_=>exact this
  | 3,_=>exact this
  | 4,_=>exact this) h2
 exact⟨xs,hx⟩
theorem caps_of_trod {fuel:Nat} {A:Option Addr} {n c:Nat} {x:DataW H×List MemPlace} (hf:DataW.trod enc Tryz.prog w base spare held fuel 25 [.slice A n c]=some x):
  n≤9223372036854775807∧∃ xs:List R4,RowS 4 R4.cell w w.heap.size A n xs:=by
 obtain⟨hn,G,m,h1,h2⟩:=elems_of_trod (sz:=4) Tryz.underlying25 (by kernel_rfl) (by omega) hf
 refine⟨hn,?_⟩
 obtain⟨xs,hx,_⟩:=rowS_of_elems (w:=w) (A:=A) R4.cell (fun _=>True) G (fun i hi=>by
  obtain⟨_,y,hy⟩:=h1 i hi
  obtain⟨g,hg⟩:=ints_of_struct Tryz.underlying71 (by kernel_rfl) (by kernel_rfl) (by kernel_rfl) hy
  refine⟨⟨g 0,g 1,g 2,g 3⟩,trivial,fun j hj=>?_⟩
  have:=(hg j hj).1
  match j,hj with
  | 0,_=>exact this
  | 1,_=>exact this
  | 2,_=>exact this
  | 3,_=>exact this) h2
 exact⟨xs,hx⟩
theorem rul_cells {fuel:Nat} {cs:List Value} {y:DataW H×List MemPlace} (h:DataW.trod enc Tryz.prog w base spare held fuel 27 cs=some y):
  ∃(s:RulS) (x:Rul),cs[0]?=some (.slice s.a0 s.n0 s.c0)∧cs[1]?=some (.slice s.a1 s.n1 s.c1)∧cs[2]?=some (.slice s.a2 s.n2 s.c2)∧RulAt w w.heap.size s x:=by
 obtain⟨m,hm⟩:=fields_of_trod Tryz.underlying27 (by kernel_rfl) (by kernel_rfl) h
 obtain⟨v0,z0,c0,t0⟩:=hm 0 _ rfl
 obtain⟨v1,z1,c1,t1⟩:=hm 1 _ rfl
 obtain⟨v2,z2,c2,t2⟩:=hm 2 _ rfl
 obtain⟨A0,n0,k0,e0⟩:=slice_form Tryz.underlying23 t0
 obtain⟨A1,n1,k1,e1⟩:=slice_form Tryz.underlying24 t1
 obtain⟨A2,n2,k2,e2⟩:=slice_form Tryz.underlying25 t2
 simp at e0 e1 e2
 subst e0 e1 e2
 obtain⟨l0,x0,r0⟩:=pairs_of_trod t0
 obtain⟨l1,x1,r1⟩:=loads_of_trod t1
 obtain⟨l2,x2,r2⟩:=caps_of_trod t2
 exact⟨⟨A0,n0,k0,A1,n1,k1,A2,n2,k2⟩,⟨x0,x1,x2⟩,c0,c1,c2,r0,r1,r2,l0,l1,l2⟩
theorem arg_prb {v:Value} {d:DataW H} {p:List MemPlace} (hv:Value.okWide Tryz.prog w r b0 29 v) (h:DataW.Trod enc Tryz.prog w base spare held 29 v d p):
  ∃(s:PrbS) (ds:List Dom) (x:Rul),v=s.val∧PrbAt w w.heap.size s ds x∧s.nd≤9223372036854775807:=by
 obtain⟨cs,rfl,hsz⟩:=okWide_struct Tryz.underlying29 hv
 obtain⟨fuel,hf⟩:=h
 have hs4:cs.size=4:=hsz.trans (by kernel_rfl)
 have hf2:DataW.trod enc Tryz.prog w base spare held fuel 29 cs.toList=some (d,p):=by simpa[Value.cells] using hf
 obtain⟨xs,m,_,_,hlen,hxl,hg⟩:=DataW.trod_struct Tryz.underlying29 hf2
 have hxl':xs.length=2:=hxl
 obtain⟨l,hl⟩:∃ l,l=cs.toList:=⟨_,rfl⟩
 have hll:l.length=4:=by rw[hl];simpa using hs4
 rw[←hl] at hg hf2
 match l,hll with
 | [a,b,c,e],_=>
  have h0:DataW.trod enc Tryz.prog w base spare held m 22 (List.take (Tryz.prog.cellsOf 22) (List.drop 0 [a,b,c,e]))=xs[0]?:=hg 0 _ rfl
  have h1:DataW.trod enc Tryz.prog w base spare held m 27 (List.take (Tryz.prog.cellsOf 27) (List.drop 1 [a,b,c,e]))=xs[1]?:=hg 1 _ rfl
  rw[List.getElem?_eq_getElem (by omega)] at h0 h1
  rw[show Tryz.prog.cellsOf 22=1 from by kernel_rfl] at h0
  rw[show Tryz.prog.cellsOf 27=3 from by kernel_rfl] at h1
  have h0':DataW.trod enc Tryz.prog w base spare held m 22 [a]=some xs[0]:=h0
  have h1':DataW.trod enc Tryz.prog w base spare held m 27 [b,c,e]=some xs[1]:=h1
  obtain⟨A,n,k,ea⟩:=slice_form Tryz.underlying22 h0'
  simp at ea
  subst ea
  obtain⟨hn,ds,hd⟩:=doms_of_trod h0'
  obtain⟨s,x,e0,e1,e2,h3⟩:=rul_cells h1'
  simp at e0 e1 e2
  subst e0 e1 e2
  refine⟨⟨A,n,k,s⟩,ds,x,?_,⟨hd,h3⟩,hn⟩
  unfold PrbS.val
  congr 1
  rw[←Array.toArray_toList (xs:=cs),←hl]
end
end Go.Proofs.YtjakdikhdndlgaaGreatDoor
