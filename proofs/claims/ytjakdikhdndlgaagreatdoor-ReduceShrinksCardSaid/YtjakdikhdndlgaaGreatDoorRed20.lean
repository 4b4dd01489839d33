/- A region that draws its order,with effects that nothing orders,among them calls: a walk along a tree of orders,which parts only where the effects part. Nothing of the program is named here. -/
import Derived.Test.YtjakdikhdndlgaaGreatDoorRed19
set_option maxRecDepth 100000
namespace Go.Proofs.YtjakdikhdndlgaaGreatDoor
open Go.RowKit
theorem tab_read {w W:World} {S:ArS} {D:Dms} {r:Rul} {LK:List Lk} {NV:List NH} (h:Hp w w W (arE S D.length NV LK) []) (_hI:LkI D r.caps r.pairs r.loads LK) (hNV:NV.length=D.length)
  (hT:S.TB=TBc S.q0 S.q1 S.q2 D.length (ixK D D.length)) (hs:S.st=(D.map Prod.fst).map intV) (hd:S.dm=(D.map fun d=>stS d.2).map u64V) (hnd:(D.map Prod.fst).Nodup) (hr:∀ y∈D.map Prod.fst,0≤y∧y<512):TabR W S.tb D LK:=by
 have e0:(arE S D.length NV LK)[0]?=some (Ent.blk S.tb 91 S.TB):=rfl
 have e2:(arE S D.length NV LK)[2]?=some (Ent.blk S.q2 105 (NV.map NH.val))∨True:=.inr trivial
 clear e2
 have e2:(arE S D.length NV LK)[2]?=some (Ent.blk S.q2 102 (NV.map NH.val)):=rfl
 have e4:(arE S D.length NV LK)[4]?=some (Ent.blk S.q0 3 S.st):=rfl
 have e5:(arE S D.length NV LK)[5]?=some (Ent.blk S.q1 76 S.dm):=rfl
 refine⟨⟨some ⟨S.q0,0,none⟩,some ⟨S.q1,0,none⟩,some ⟨S.q2,0,none⟩,D.length,D.length,D.length,NV,hNV,?_,?_,?_,?_,?_,?_,?_⟩,?_,h.lt 0 e0,?_⟩
 ·exact h.c 0 0 e0 (by rw[hT];rfl)
 ·exact h.c 0 1 e0 (by rw[hT];rfl)
 ·exact h.c 0 2 e0 (by rw[hT];rfl)
 ·refine⟨List.length_map ..,fun _=>⟨S.q0,0,rfl,h.lt 4 e4,fun k x hx=>?_⟩⟩
  rw[Nat.zero_add]
  exact h.c 4 k e4 (by rw[hs,List.getElem?_map,hx];rfl)
 ·refine⟨List.length_map ..,fun _=>⟨S.q1,0,rfl,h.lt 5 e5,fun k x hx=>?_⟩⟩
  rw[Nat.zero_add]
  exact h.c 5 k e5 (by rw[hd,List.getElem?_map,hx];rfl)
 ·refine⟨hNV,fun _=>⟨S.q2,0,rfl,h.lt 2 e2,fun k x hx=>?_⟩⟩
  rw[Nat.zero_add]
  exact h.c 2 k e2 (by rw[List.getElem?_map,hx];rfl)
 ·intro k x hx
  have hk:k<D.length:=by rw[←hNV];exact(List.getElem?_eq_some_iff.1 hx).1
  have hn:=arE_near (S:=S) (NV:=NV) (LK:=LK) hk
  unfold nrE at hn
  obtain⟨Ad,c,hv,hR⟩:=own_formS (f:=Nb.cell) (by decide) (h.row _ hn)
  have hx2:NV.getD k ⟨none,0,0⟩=x:=by rw[List.getD_eq_getElem?_getD,hx];rfl
  rw[hx2] at hv
  obtain⟨xA,xn,xc⟩:=x
  unfold NH.val at hv
  dsimp only at hv ⊢
  cases hv
  exact hR
 ·intro s hs
  exact h.c 0 (3+s) e0 (by rw[hT];exact TBc_at (ixK_idx hnd hr hs))
 ·intro l hl
  obtain⟨q,hq⟩:=List.getElem?_of_mem hl
  have hb:=arE_blk (S:=S) (n:=D.length) (NV:=NV) hq
  have hrw:=arE_row (S:=S) (n:=D.length) (NV:=NV) hq
  unfold lkB at hb
  unfold lkR at hrw
  obtain⟨Ad,c,hv,hR⟩:=own_formS (f:=R5.cell) (by decide) (h.row _ hrw)
  cases hv
  exact⟨⟨h.c _ 0 hb rfl,h.c _ 1 hb rfl,h.lt _ hb⟩,hR⟩
theorem nbs_of {LK:List Lk} {l:Lk} (hl:l∈LK):(⟨l.j,true,l.g⟩:Nb)∈nbs LK l.i:=List.mem_filterMap.2 ⟨l,hl,by unfold Lk.nb;rw[if_pos rfl]⟩
theorem nbs_of' {LK:List Lk} {l:Lk} (hl:l∈LK) (hij:l.i<l.j):(⟨l.i,false,l.g⟩:Nb)∈nbs LK l.j:=List.mem_filterMap.2 ⟨l,hl,by unfold Lk.nb;rw[if_neg (by omega),if_pos rfl]⟩
theorem find_g {LK:List Lk} (hg:(LK.map Lk.g).Nodup) {l:Lk} (hl:l∈LK):LK.find? (fun m=>decide (m.g=l.g))=some l:=by
 induction LK with
 | nil=>cases hl
 | cons m q ih=>
  rw[List.map_cons,List.nodup_cons] at hg
  rw[List.find?_cons]
  by_cases hm:m.g=l.g
  ·rw[decide_eq_true hm]
   rcases List.mem_cons.1 hl with rfl | hl
   ·rfl
   ·exact absurd (by rw[hm];exact List.mem_map_of_mem hl) hg.1
  ·rw[decide_eq_false hm]
   rcases List.mem_cons.1 hl with rfl | hl
   ·exact absurd rfl hm
   ·exact ih hg.2 hl
theorem lk_all {D:Dms} {r:Rul} {LK:List Lk} (hI:LkI D r.caps r.pairs r.loads LK) (hp:PrI D r) (hup:(D.map Prod.fst).Pairwise (·<·)) (hpl:r.pairs.length≤4096):LkAll D r LK:=by
 have hok:∀ l∈LK,LkOk l:=fun l hl=>by
  have hps:=hI.ps l hl
  refine⟨fun x hx=>?_,(hI.sh l hl).1,?_⟩
  ·rw[hps] at hx
   exact(hp.prs x (List.mem_filter.1 hx).1).2
  ·rw[hps];exact Nat.le_trans (List.length_filter_le _ _) hpl
 have hli:∀ l∈LK,stA D l.i<stA D l.j∧LinkI r (stA D l.i) (stA D l.j) l.ps l.sh:=fun l hl=>by
  have hij:=hI.ij l hl
  have hu:=st_up hup hij.1 hij.2
  refine⟨hu,fun x=>?_,(hI.sh l hl).2,(hI.sh l hl).1⟩
  rw[hI.ps l hl,List.mem_filter,decide_eq_true_eq]
  refine and_congr_right fun hx=>⟨.inl,fun hc=>?_⟩
  rcases hc with hc | hc
  ·exact hc
  ·have:=(hp.prs x hx).1
   omega
 refine⟨fun i _=>nbs_nodup hI i,fun i x hi hx=>?_,fun i k hi hk hn=>?_⟩
 ·obtain⟨l,hl,hg,hc⟩:=nbs_at hI hx
  have hij:=hI.ij l hl
  obtain⟨hu,hL⟩:=hli l hl
  rcases hc with ⟨h1,h2,h3⟩ | ⟨h1,h2,h3⟩
  ·subst h1
   rw[←h2]
   exact⟨hij.2,by omega,by rw[h3,decide_eq_true hu],l,by rw[hg];exact find_g hI.gs hl,hok l hl,hL⟩
  ·subst h1
   rw[←h2]
   exact⟨by omega,by omega,by rw[h3];exact(decide_eq_false (by omega)).symm,l,by rw[hg];exact find_g hI.gs hl,hok l hl,hL.symm⟩
 ·rw[←Bool.not_eq_true]
  intro hc
  have key:∀ l∈LK,(stA D l.i=stA D i∧stA D l.j=stA D k)∨(stA D l.i=stA D k∧stA D l.j=stA D i)→False:=fun l hl hc=>by
   have hij:=hI.ij l hl
   rcases hc with ⟨a,b⟩ | ⟨a,b⟩
   ·have a:=st_inj hp.nd (by omega) hi a
    have b:=st_inj hp.nd (by omega) hk b
    subst a;subst b
    exact hn (List.mem_map.2 ⟨_,nbs_of hl,rfl⟩)
   ·have a:=st_inj hp.nd (by omega) hk a
    have b:=st_inj hp.nd (by omega) hi b
    subst a;subst b
    exact hn (List.mem_map.2 ⟨_,nbs_of' hl hij.1,rfl⟩)
  unfold linkF at hc
  rw[Bool.or_eq_true,List.any_eq_true,List.any_eq_true] at hc
  rcases hc with ⟨x,hx,hc⟩ | ⟨x,hx,hc⟩
  ·obtain⟨l,hl,h1,h2⟩:=hI.cp x hx
   simp only[Bool.or_eq_true,Bool.and_eq_true,decide_eq_true_eq] at hc
   exact key l hl (by rw[h1,h2];exact hc)
  ·obtain⟨l,hl,h1⟩:=hI.cl x hx
   simp only[Bool.or_eq_true,Bool.and_eq_true,decide_eq_true_eq] at hc
   refine key l hl ?_
   rcases h1 with ⟨h1,h2⟩ | ⟨h1,h2⟩<;>rcases hc with ⟨c1,c2⟩ | ⟨c1,c2⟩<;>simp only[h1,h2,c1,c2,and_self,true_or,or_true]
structure PrJ (D:Dms) (r:Rul):Prop where
 st:∀ y∈D.map Prod.fst,0≤y∧y<512
 prm:∀ x∈r.pairs,x.a∈D.map Prod.fst∧x.b∈D.map Prod.fst
 lds:∀ x∈r.loads,(x.a∈D.map Prod.fst∧x.b∈D.map Prod.fst)∧x.a≠x.b∧2≤x.d∧x.d≤x.e∧x.e≤51
 cps:∀ x∈r.caps,(0≤x.a∧x.a<512)∧2≤x.c∧x.c≤x.d∧x.d≤51
 pl:r.pairs.length≤4096
 ll:r.loads.length≤1024
 cl:r.caps.length≤1024
def ArPost (D:Dms) (r:Rul) (w:World) (e:Ending) (W:World):Prop:=∃(tb:Nat) (LK:List Lk),e=.returned (.pointer (some ⟨tb,0,none⟩))∧TabR W tb D LK∧LkAll D r LK∧Below w.heap.size w W
theorem say_fst (ds:List Dom):(ds.map Dom.say).map Prod.fst=ds.map Dom.st:=by rw[List.map_map];rfl
theorem prij {ds:List Dom} {r:Rul} (h:validP ds r=true):PrI (ds.map Dom.say) r∧PrJ (ds.map Dom.say) r∧((ds.map Dom.say).map Prod.fst).Pairwise (·<·):=by
 have hv:=vpr h
 unfold validP validD rulesF goodP goodL goodC goodD spF chGood at h
 simp only[Bool.and_eq_true,List.all_eq_true,decide_eq_true_eq,Bool.not_eq_true',decide_eq_false_iff_not] at h
 obtain⟨⟨⟨h1,h2⟩,h3⟩,h4⟩:=h
 have hsub:∀ d∈ds.map Dom.say,∃ e∈ds,d=(e.st,e.chs):=fun d hd=>by
  obtain⟨e,he,rfl⟩:=List.mem_map.1 hd
  exact⟨e,he,rfl⟩
 refine⟨⟨by rw[List.length_map];exact hv.sts.2.1,fun d hd=>?_,?_,fun x hx=>?_,fun d hd=>?_⟩,⟨?_,fun x hx=>?_,fun x hx=>?_,fun x hx=>?_,hv.sts.2.2.2.1,hv.sts.2.2.2.2.1,hv.sts.2.2.2.2.2⟩,?_⟩
 ·obtain⟨e,he,rfl⟩:=hsub d hd
  exact hv.dom e he
 ·rw[say_fst];exact hv.up.imp (fun {a b} hab=>by omega)
 ·have g1:=hv.prs x hx
  refine⟨?_,g1.2⟩
  have:=h2.1.1.1.1.1.1.1.2 x hx
  omega
 ·obtain⟨e,he,rfl⟩:=hsub d hd
  exact hv.sts.2.2.1 e he
 ·rw[say_fst];exact hv.sts.1
 ·rw[say_fst];exact(hv.prs x hx).1
 ·rw[say_fst]
  have g1:=hv.lds x hx
  refine⟨g1.1,?_,g1.2.2⟩
  have:=h2.1.1.1.1.2 x hx
  omega
 ·have g1:=hv.cps x hx
  exact⟨hv.sts.1 _ g1.1,g1.2.2⟩
 ·rw[say_fst];exact hv.up
namespace Lx
section
variable {P : Program} {ops : Array Oper} {C : World → Prop} {hs : List Nat}
def rel (ops:Array Oper) (hs:List Nat) (M:List Nat) (x y i j:Nat):Bool:=
 ((M.getD j 0).testBit i||pair ops hs i j||(i == x&&j == y))&&(match ops[i]? with | some o=>o.after.all fun e=>!Region.binds .any e||e.on != j | none=>true)
def pw {α:Type} (r:α→α→Bool):List α→Bool
 | []=>true
 | x::l=>l.all (r x)&&pw r l
theorem pw_iff {α:Type} {r:α→α→Bool}:∀ {l:List α},pw r l=true→l.Pairwise (fun a b=>r a b=true):=by
 intro l
 induction l with
 | nil=>intro _;exact List.Pairwise.nil
 | cons x l ih=>
  intro h
  rw[pw,Bool.and_eq_true] at h
  exact List.Pairwise.cons (fun y hy=>List.all_eq_true.1 h.1 y hy) (ih h.2)
theorem set_iff {listed:Array Bool} {j:Nat} (i:Nat):(listed.setIfInBounds j true).getD i true=false↔(listed.getD i true=false∧i≠j):=by
 by_cases hij:i=j
 ·subst hij
  simp[Array.getD_eq_getD_getElem?,Array.getElem?_setIfInBounds]
  split<;>simp_all
 ·simp[Array.getD_eq_getD_getElem?,Array.getElem?_setIfInBounds_ne (Ne.symm hij),hij]
theorem mem_rest {listed:Array Bool} {pre post:List Nat} {j:Nat} (hnd:(pre++j::post).Nodup) (hm:∀ k,k∈pre++j::post↔k<ops.size∧listed.getD k true=false):∀ k,k∈pre++post↔k<ops.size∧(listed.setIfInBounds j true).getD k true=false:=by
 intro i
 rw[set_iff]
 have hnj:j∉pre++post:=by
  rw[List.nodup_append] at hnd
  obtain⟨_,h2,h3⟩:=hnd
  rw[List.nodup_cons] at h2
  intro h
  rcases List.mem_append.1 h with h | h
  ·exact h3 j h j (by simp) rfl
  ·exact h2.1 h
 constructor
 ·intro hi
  have hi':i∈pre++j::post:=by
   rcases List.mem_append.1 hi with h | h
   ·simp[h]
   ·simp[h]
  obtain⟨q1,q2⟩:=(hm i).1 hi'
  exact⟨q1,q2,fun e=>hnj (e ▸ hi)⟩
 ·rintro⟨q1,q2,q3⟩
  have:=(hm i).2 ⟨q1,q2⟩
  rcases List.mem_append.1 this with h | h
  ·simp[h]
  ·rcases List.mem_cons.1 h with h | h
   ·exact absurd h q3
   ·simp[h]
theorem down_set {listed:Array Bool} (hD:Down ops listed) {j:Nat} {oj:Oper} (hoj:ops[j]?=some oj) (hjr:∀ e∈oj.after,Region.binds .any e=true→listed.getD e.on false=true):Down ops (listed.setIfInBounds j true):=by
 intro j' o' ho' hl' e he hb
 by_cases hjj:j'=j
 ·subst hjj
  rw[hoj] at ho'
  injection ho' with ho'
  subst ho'
  exact getD_set_true (hjr e he hb)
 ·rw[getD_set_ne false (Ne.symm hjj)] at hl'
  exact getD_set_true (hD j' o' ho' hl' e he hb)
theorem drop_mid {α:Type} {R:α→α→Prop} {pre post:List α} {j:α} (h:(pre++j::post).Pairwise R):(pre++post).Pairwise R:=
 h.sublist (List.Sublist.append (List.Sublist.refl _) (List.sublist_cons_self _ _))
theorem op_of_step {Q:Exit→Act→World→Prop} {j:Nat} {oj:Oper} {a:Act} {w:World} {K:Act→World→Prop} (hoj:ops[j]?=some oj) (hC:C w) (h2:step P ops C hs j oj K a w):wpOp P ops Q j K a w:=by
 unfold step at h2
 unfold wpOp
 simp only[hoj]
 split
 ·rename_i hw
  rw[if_pos hw] at h2
  left
  rcases h2 with ⟨_,v,h3,h4⟩ | ⟨_,v,h3,h4⟩ | ⟨_,h3⟩
  ·unfold Oper.wp;rw[h3 w hC];exact h4
  ·unfold Oper.wp;rw[h3];exact h4
  ·exact Oper.wp_mono (fun _ _ hh=>hh.2) (wp_noQ h3)
 ·rename_i hw
  rw[if_neg hw] at h2
  exact h2
def lexI (P:Program) (ops:Array Oper) (C:World→Prop) (hs:List Nat) (Q:Act→World→Prop):List (Nat×Oper)→Act→World→Prop
 | [],a,w=>Q a w
 | p::r,a,w=>step P ops C hs p.1 p.2 (lexI P ops C hs Q r) a w
end
section
variable {P : Program} {ops : Array Oper} {C : World → Prop} {hs : List Nat} {Q : Act → World → Prop} {k : Nat} {o : Oper} {r : List (Nat × Oper)} {a : Act} {w : World}
end
attribute [irreducible] lexI
end Lx
namespace Lx
section
variable {P : Program} {ops : Array Oper} {C : World → Prop} {hs : List Nat}
def eff (ops:Array Oper) (hs:List Nat) (i:Nat):Bool:=match ops[i]? with | some o=>kind hs i o == 2 | none=>false
def plainE (o:Oper):Bool:=match o.op with
 | .alloc .. | .box .. | .buildSlice .. | .store .. | .makeSlice .. | .makeMap .. | .mapUpdate .. | .insert ..=>true
 | _=>false
def relA (ops:Array Oper) (hs:List Nat) (M:List Nat) (i j:Nat):Bool:=
 ((M.getD j 0).testBit i||pair ops hs i j||(eff ops hs i&&eff ops hs j))&&(match ops[i]? with | some o=>o.after.all fun e=>!Region.binds .any e||e.on != j | none=>true)
theorem run_pure_bind {α:Type} {m:Sem α} {f:α→Next} {w w':World} {x:Next} (h:(m >>= fun a=>pure (f a)).run P w=.ok x w'):∃ a,x=f a:=by
 rw[Sem.run_bind] at h
 cases hm:m.run P w with
 | ok a w1=>rw[hm] at h;simp only[Result.andThen_ok,Sem.run_pure] at h;injection h with h1 h2;exact⟨a,h1.symm⟩
 | halt y w1=>rw[hm] at h;cases h
theorem plain_not {o:Oper} (ho:plainE o=true) {ρ:Operand→Value} {w w':World} {x:Next} (h:(execOp ρ o).run P w=.ok x w'):(∃ v,x=.value v)∨x=.skip:=by
 unfold plainE at ho
 unfold execOp at h
 split at ho<;>simp_all only[] <;>
  first
   | (obtain⟨a,rfl⟩:=run_pure_bind (f:=fun v=>Next.value v) h;exact .inl ⟨_,rfl⟩)
   | (obtain⟨a,rfl⟩:=run_pure_bind (f:=fun _=>Next.skip) h;exact .inr rfl)
   | cases ho
theorem wp_all {o:Oper} (ho:plainE o=true) {a:Act} {w:World} {I:Type} {S:I→Prop} {K:I→Act→World→Prop} (i0:I) (h0:S i0) (h:∀ i,S i→o.wp P a w (K i) NoQ):o.wp P a w (fun a' w'=>∀ i,S i→K i a' w') NoQ:=by
 have hp:=fun w' x=>plain_not (P:=P) ho (ρ:=a.eval) (w:=w) (w':=w') (x:=x)
 unfold Oper.wp at *
 generalize (execOp a.eval o).run P w=r at *
 cases r with
 | ok n w'=>
  rcases hp w' n rfl with ⟨v,rfl⟩ | rfl
  ·exact fun i hi=>h i hi
  ·exact fun i hi=>h i hi
 | halt x w'=>
  have:=h i0 h0
  cases x<;>simp only[Oper.upon] at this<;>first|exact this.elim | exact absurd this id
theorem step_all {j:Nat} {oj:Oper} {a:Act} {w:World} {I:Type} {S:I→Prop} {K:I→Act→World→Prop} (i0:I) (h0:S i0) (hC:C w) (hk:kind hs j oj≠2∨plainE oj=true) (h:∀ i,S i→step P ops C hs j oj (K i) a w):step P ops C hs j oj (fun a w=>∀ i,S i→K i a w) a w:=by
 unfold step at *
 split
 ·rename_i hw
  have h':∀ i,S i→(kind hs j oj=0∧∃ v,(∀ w',C w'→(execOp a.eval oj).run P w'=.ok (.value v) w')∧K i (a.put oj.dst v) w)∨(kind hs j oj=1∧∃ v,(execOp a.eval oj).run P w=.ok (.value v) w∧K i (a.put oj.dst v) w)∨(kind hs j oj=2∧oj.wp P a w (fun a' w'=>C w'∧K i a' w') NoQ):=fun i hi=>by
   have:=h i hi;rw[if_pos hw] at this;exact this
  rcases h' i0 h0 with ⟨k0,v,h1,_⟩ | ⟨k0,v,h1,_⟩ | ⟨k0,h1⟩
  ·refine .inl ⟨k0,v,h1,fun i hi=>?_⟩
   rcases h' i hi with ⟨_,v',h1',h2'⟩ | ⟨k1,_⟩ | ⟨k1,_⟩
   ·have:=(h1 w hC).symm.trans (h1' w hC)
    injection this with this _
    injection this with this
    subst this
    exact h2'
   ·omega
   ·omega
  ·refine .inr (.inl ⟨k0,v,h1,fun i hi=>?_⟩)
   rcases h' i hi with ⟨k1,_⟩ | ⟨_,v',h1',h2'⟩ | ⟨k1,_⟩
   ·omega
   ·have:=h1.symm.trans h1'
    injection this with this _
    injection this with this
    subst this
    exact h2'
   ·omega
  ·have hp:plainE oj=true:=by
    rcases hk with hk | hk
    ·exact absurd k0 hk
    ·exact hk
   refine .inr (.inr ⟨k0,?_⟩)
   have:=wp_all (P:=P) hp (a:=a) (w:=w) (S:=S) (K:=fun i a' w'=>C w'∧K i a' w') i0 h0 (fun i hi=>by
    rcases h' i hi with ⟨k1,_⟩ | ⟨k1,_⟩ | ⟨_,hh⟩
    ·omega
    ·omega
    ·exact hh)
   exact Oper.wp_mono (fun a' w' hh=>⟨(hh i0 h0).1,fun i hi=>(hh i hi).2⟩) this
 ·rename_i hw
  intro i hi
  have:=h i hi
  rw[if_neg hw] at this
  exact this
theorem relA_pair {i j:Nat} (h:relA ops hs (masks ops.toList []) i j=true) {listed:Array Bool} (hD:Down ops listed) {oj:Oper} (hoj:ops[j]?=some oj) (hjr:∀ e∈oj.after,Region.binds .any e=true→listed.getD e.on false=true) (hi:listed.getD i true=false) (hil:i<listed.size) (hne:¬(eff ops hs i=true∧eff ops hs j=true)):pair ops hs i j=true:=by
 simp only[relA,Bool.and_eq_true,Bool.or_eq_true] at h
 rcases h.1 with (h1 | h1) | h1
 ·exfalso
  have hl:=masks_sound hD (j+1) j oj (by omega) hoj hjr i h1
  simp only[Array.getD_eq_getD_getElem?,Array.getElem?_eq_getElem hil,Option.getD_some] at hl hi
  rw[hl] at hi
  cases hi
 ·exact h1
 ·exact absurd h1 hne
theorem head_readyA {i:Nat} {L:List Nat} {listed:Array Bool} (hsz:listed.size=ops.size) (hm:∀ k,k∈i::L↔k<ops.size∧listed.getD k true=false) (hself:∀(k:Nat) (o:Oper),ops[k]?=some o→∀ e∈o.after,Region.binds .any e=true→e.on≠k∧e.on<ops.size)
  (hp:(i::L).Pairwise (fun a b=>relA ops hs (masks ops.toList []) a b=true)):i∈Region.ready .any ops listed:=by
 obtain⟨hi1,hi2⟩:=(hm i).1 (by simp)
 have ho:ops[i]?=some ops[i]:=Array.getElem?_eq_getElem hi1
 refine mem_ready.2 ⟨hi2,_,ho,fun e he hb=>?_⟩
 have hse:=hself i _ ho e he hb
 have hb2:e.on<listed.size:=by omega
 cases hl:listed.getD e.on false with
 | true=>rfl
 | false=>
  exfalso
  have hl':listed.getD e.on true=false:=by
   simp only[Array.getD_eq_getD_getElem?,Array.getElem?_eq_getElem hb2,Option.getD_some] at hl ⊢;exact hl
  have hmem:e.on∈i::L:=(hm e.on).2 ⟨hse.2,hl'⟩
  rcases List.mem_cons.1 hmem with h | h
  ·exact hse.1 h
  ·have h1:=(List.pairwise_cons.1 hp).1 e.on h
   simp only[relA,ho,Bool.and_eq_true] at h1
   have h2:=Array.all_eq_true'.1 h1.2 e he
   simp[hb] at h2
structure Ord (ops:Array Oper) (hs:List Nat) (listed:Array Bool) (L:List Nat):Prop where
 nd:L.Nodup
 mem:∀ i,i∈L↔i<ops.size∧listed.getD i true=false
 pw:L.Pairwise (fun a b=>relA ops hs (masks ops.toList []) a b=true)
theorem Ord.rest {listed:Array Bool} {L:List Nat} {j:Nat} (h:Ord ops hs listed L) (hj:j∈L):Ord ops hs (listed.setIfInBounds j true) (L.erase j):=by
 obtain⟨pre,post,rfl⟩:=List.append_of_mem hj
 have hnj:j∉pre:=by
  have:=(List.nodup_append.1 h.nd).2.2
  intro hh
  exact this j hh j (by simp) rfl
 have e:(pre++j::post).erase j=pre++post:=by
  rw[List.erase_append_right _ hnj,List.erase_cons_head]
 rw[e]
 exact⟨drop_mid h.nd,mem_rest h.nd h.mem,drop_mid h.pw⟩
theorem erase_filter {p:Nat→Bool} {j:Nat}:∀ {L:List Nat},p j=false→(L.erase j).filter p=L.filter p:=by
 intro L
 induction L with
 | nil=>intro _;rfl
 | cons i L ih=>
  intro hp
  by_cases e:i=j
  ·subst e
   rw[List.erase_cons_head,List.filter_cons_of_neg (by simp[hp])]
  ·rw[List.erase_cons_tail (by simpa using e)]
   by_cases hi:p i=true
   ·rw[List.filter_cons_of_pos hi,List.filter_cons_of_pos hi,ih hp]
   ·rw[List.filter_cons_of_neg hi,List.filter_cons_of_neg hi,ih hp]
end
section
variable {P : Program} {ops : Array Oper} {C : World → Prop} {hs : List Nat} {Q : Act → World → Prop} {k : Nat} {o : Oper} {r : List (Nat × Oper)} {a : Act} {w : World}
end
end Lx
namespace Lx
inductive Tr where
 | done
 | op (i:Nat) (t:Tr)
 | alt (t u:Tr)
def paths:Tr→List (List Nat)
 | .done=>[[]]
 | .op i t=>(paths t).map (i::·)
 | .alt t u=>paths t++paths u
def rem (j:Nat):Tr→Tr
 | .done=>.done
 | .op i t=>if i=j then t else .op i (rem j t)
 | .alt t u=>.alt (rem j t) (rem j u)
def pick (p:Nat→Bool) (j:Nat):Tr→Option Tr
 | .done=>none
 | .op i t=>if i=j then some t else if p i then none else (pick p j t).map (.op i)
 | .alt t u=>match pick p j t with | some x=>some x | none=>pick p j u
theorem paths_ne:∀ T:Tr,paths T≠[]:=by
 intro T
 induction T with
 | done=>simp[paths]
 | op i t ih=>simpa[paths] using ih
 | alt t u ih _=>simp[paths,ih]
theorem append_first {j:Nat}:∀ {L:List Nat},j∈L→∃ pre post,L=pre++j::post∧j∉pre:=by
 intro L
 induction L with
 | nil=>intro h;cases h
 | cons i L ih=>
  intro h
  by_cases e:i=j
  ·subst e;exact⟨[],L,rfl,by simp⟩
  ·rcases List.mem_cons.1 h with h | h
   ·exact absurd h.symm e
   ·obtain⟨pre,post,rfl,hn⟩:=ih h
    exact⟨i::pre,post,rfl,by simp[hn,Ne.symm e]⟩
theorem perm_mem {L:List Nat} {n:Nat} (hd:L.Nodup) (hl:L.length=n) (hb:∀ i∈L,i<n) {i:Nat} (hi:i<n):i∈L:=by
 rcases Classical.em (i∈L) with hh | hh
 ·exact hh
 ·exfalso
  have h1:(i::L).Nodup:=List.nodup_cons.2 ⟨hh,hd⟩
  have h2:∀ z∈i::L,z∈List.range n:=by
   intro z hz
   rcases List.mem_cons.1 hz with rfl | hz
   ·exact List.mem_range.2 hi
   ·exact List.mem_range.2 (hb z hz)
  have key:∀(A B:List Nat),A.Nodup→(∀ z∈A,z∈B)→A.length≤B.length:=by
   intro A
   induction A with
   | nil=>intro B _ _;simp
   | cons x A ih=>
    intro B hA hs
    obtain⟨hx,hA'⟩:=List.nodup_cons.1 hA
    have hxB:=hs x (by simp)
    have h3:=ih (B.erase x) hA' (fun z hz=>(List.mem_erase_of_ne (by rintro rfl;exact hx hz)).2 (hs z (by simp[hz])))
    rw[List.length_erase_of_mem hxB] at h3
    have:=List.length_pos_of_mem hxB
    simp only[List.length_cons]
    omega
  have h4:=key _ _ h1 h2
  simp at h4
  omega
theorem mem_rem {j:Nat}:∀ {T:Tr} {L':List Nat},(∀ L∈paths T,j∈L)→L'∈paths (rem j T)→∃ L∈paths T,L'=L.erase j:=by
 intro T
 induction T with
 | done=>intro L' h _;exact absurd (h [] (by simp[paths])) (by simp)
 | op i t ih=>
  intro L' h hL'
  by_cases e:i=j
  ·subst e
   rw[rem,if_pos rfl] at hL'
   exact⟨i::L',by simp[paths,hL'],by simp⟩
  ·rw[rem,if_neg e,paths] at hL'
   obtain⟨L1,hL1,rfl⟩:=List.mem_map.1 hL'
   obtain⟨L2,hL2,rfl⟩:=ih (fun L hL=>by
    have:=h (i::L) (by simp[paths,hL])
    rcases List.mem_cons.1 this with h | h
    ·exact absurd h.symm e
    ·exact h) hL1
   exact⟨i::L2,by simp[paths,hL2],by rw[List.erase_cons_tail (by simpa using e)]⟩
 | alt t u iht ihu=>
  intro L' h hL'
  rw[rem,paths] at hL'
  rcases List.mem_append.1 hL' with h1 | h1
  ·obtain⟨L,hL,e⟩:=iht (fun L hL=>h L (by simp[paths,hL])) h1
   exact⟨L,by simp[paths,hL],e⟩
  ·obtain⟨L,hL,e⟩:=ihu (fun L hL=>h L (by simp[paths,hL])) h1
   exact⟨L,by simp[paths,hL],e⟩
theorem first_rem {p:Nat→Bool} {j:Nat} (hp:p j=false):∀ T:Tr,((paths (rem j T)).head?).map (·.filter p)=((paths T).head?).map (·.filter p):=by
 intro T
 induction T with
 | done=>rfl
 | op i t ih=>
  by_cases e:i=j
  ·subst e
   rw[rem,if_pos rfl,paths]
   cases hh:paths t with
   | nil=>rfl
   | cons L r=>simp[hp]
  ·rw[rem,if_neg e,paths,paths]
   cases h1:paths (rem j t) with
   | nil=>exact absurd h1 (paths_ne _)
   | cons L r=>
    cases h2:paths t with
    | nil=>exact absurd h2 (paths_ne _)
    | cons L2 r2=>
     rw[h1,h2] at ih
     have ih':L.filter p=L2.filter p:=by simpa using ih
     simp[List.filter_cons,ih']
 | alt t u iht _=>
  rw[rem,paths,paths]
  cases h1:paths (rem j t) with
  | nil=>exact absurd h1 (paths_ne _)
  | cons L r=>
   cases h2:paths t with
   | nil=>exact absurd h2 (paths_ne _)
   | cons L2 r2=>
    rw[h1,h2] at iht
    simpa using iht
theorem pick_rem {p:Nat→Bool} {j k:Nat} (hp:p j=false) (hk:p k=true):∀ T:Tr,pick p k (rem j T)=(pick p k T).map (rem j):=by
 have hjk:j≠k:=by rintro rfl;rw[hp] at hk;cases hk
 intro T
 induction T with
 | done=>rfl
 | op i t ih=>
  by_cases e:i=j
  ·subst e
   rw[rem,if_pos rfl,pick,if_neg hjk,if_neg (by rw[hp];simp),Option.map_map]
   cases pick p k t with
   | none=>rfl
   | some x=>simp[rem]
  ·rw[rem,if_neg e,pick,pick]
   by_cases e2:i=k
   ·rw[if_pos e2,if_pos e2];rfl
   ·rw[if_neg e2,if_neg e2]
    by_cases e3:p i=true
    ·rw[if_pos e3,if_pos e3];rfl
    ·rw[if_neg e3,if_neg e3,ih,Option.map_map,Option.map_map]
     cases pick p k t with
     | none=>rfl
     | some x=>simp[rem,e]
 | alt t u iht ihu=>
  rw[rem,pick,pick,iht,ihu]
  cases pick p k t with
  | none=>rfl
  | some x=>rfl
theorem mem_pick {p:Nat→Bool} {j:Nat}:∀ {T T':Tr} {L':List Nat},pick p j T=some T'→L'∈paths T'→∃ pre post,pre++j::post∈paths T∧(∀ i∈pre,p i=false∧i≠j)∧L'=pre++post:=by
 intro T
 induction T with
 | done=>intro T' L' h;cases h
 | op i t ih=>
  intro T' L' h hL'
  rw[pick] at h
  by_cases e:i=j
  ·subst e
   rw[if_pos rfl] at h
   injection h with h
   subst h
   exact⟨[],L',by simp[paths,hL'],(fun _ h=>by cases h),rfl⟩
  ·rw[if_neg e] at h
   by_cases e2:p i=true
   ·rw[if_pos e2] at h;cases h
   ·rw[if_neg e2] at h
    cases hp:pick p j t with
    | none=>rw[hp] at h;cases h
    | some x=>
     rw[hp] at h
     injection h with h
     subst h
     rw[paths] at hL'
     obtain⟨L1,hL1,rfl⟩:=List.mem_map.1 hL'
     obtain⟨pre,post,h1,h2,rfl⟩:=ih hp hL1
     refine⟨i::pre,post,by simp[paths,h1],fun k hk=>?_,rfl⟩
     rcases List.mem_cons.1 hk with rfl | hk
     ·exact⟨by simpa using e2,e⟩
     ·exact h2 k hk
 | alt t u iht ihu=>
  intro T' L' h hL'
  rw[pick] at h
  cases hp:pick p j t with
  | some x=>
   rw[hp] at h
   injection h with h
   subst h
   obtain⟨pre,post,h1,h2,h3⟩:=iht hp hL'
   exact⟨pre,post,by simp[paths,h1],h2,h3⟩
  | none=>
   rw[hp] at h
   obtain⟨pre,post,h1,h2,h3⟩:=ihu h hL'
   exact⟨pre,post,by simp[paths,h1],h2,h3⟩
section
variable {P : Program} {ops : Array Oper} {C : World → Prop} {hs : List Nat}
def lexA (P:Program) (ops:Array Oper) (C:World→Prop) (hs:List Nat) (Q:Act→World→Prop):Tr→Act→World→Prop
 | .done,a,w=>Q a w
 | .op i t,a,w=>match ops[i]? with
  | some o=>step P ops C hs i o (lexA P ops C hs Q t) a w
  | none=>lexA P ops C hs Q t a w
 | .alt t u,a,w=>lexA P ops C hs Q t a w∧lexA P ops C hs Q u a w
theorem pullP {Q:Act→World→Prop} {j:Nat} {oj:Oper} (hj:ops[j]?=some oj) (hsel:∀(j:Nat) (o:Oper) cs b,ops[j]?=some o→o.op≠.select cs b) (hk:kind hs j oj≠2):
  ∀(T:Tr) (a:Act) (w:World),(∀ L∈paths T,j∈L)→(∀ pre post,pre++j::post∈paths T→j∉pre→∀ i∈pre,pair ops hs i j=true)→C w→lexA P ops C hs Q T a w→step P ops C hs j oj (lexA P ops C hs Q (rem j T)) a w:=by
 intro T
 induction T with
 | done=>intro a w h;exact absurd (h [] (by simp[paths])) (by simp)
 | op i t ih=>
  intro a w hm hp hC h
  by_cases e:i=j
  ·subst e
   rw[rem,if_pos rfl]
   simpa only[lexA,hj] using h
  ·have hm':∀ L∈paths t,j∈L:=fun L hL=>by
    rcases List.mem_cons.1 (hm (i::L) (by simp[paths,hL])) with h | h
    ·exact absurd h.symm e
    ·exact h
   have hp':∀ pre post,pre++j::post∈paths t→j∉pre→∀ k∈pre,pair ops hs k j=true:=fun pre post hL hn k hk=>hp (i::pre) post (by simp[paths,hL]) (by simp[hn,Ne.symm e]) k (by simp[hk])
   have hpi:pair ops hs i j=true:=by
    obtain⟨L,hL⟩:=List.exists_mem_of_ne_nil _ (paths_ne t)
    obtain⟨pre,post,rfl,hn⟩:=append_first (hm' L hL)
    exact hp (i::pre) post (by simp[paths,hL]) (by simp[hn,Ne.symm e]) i (by simp)
   rw[rem,if_neg e]
   cases hi:ops[i]? with
   | none=>
    simp only[lexA,hi] at h
    exact step_mono hC (ih a w hm' hp' hC h) fun a' w' _ _ hK=>by simpa only[lexA,hi] using hK
   | some oi=>
    simp only[lexA,hi] at h
    have h1:step P ops C hs i oi (step P ops C hs j oj (lexA P ops C hs Q (rem j t))) a w:=step_mono hC h fun a' w' hC' _ hK=>ih a' w' hm' hp' hC' hK
    simp only[pair,hi,hj,Bool.and_eq_true,Bool.or_eq_true,beq_iff_eq] at hpi
    have h2:=swap (hsel i oi · · hi) (hsel j oj · · hj) hpi.1 (by omega) hC h1
    exact step_mono hC h2 fun a' w' _ _ hK=>by simpa only[lexA,hi] using hK
 | alt t u iht ihu=>
  intro a w hm hp hC h
  simp only[lexA] at h
  have h1:=iht a w (fun L hL=>hm L (by simp[paths,hL])) (fun pre post hL=>hp pre post (by simp[paths,hL])) hC h.1
  have h2:=ihu a w (fun L hL=>hm L (by simp[paths,hL])) (fun pre post hL=>hp pre post (by simp[paths,hL])) hC h.2
  have h3:=step_all (P:=P) (ops:=ops) (C:=C) (hs:=hs) (S:=fun _:Bool=>True) (K:=fun b a w=>if b then lexA P ops C hs Q (rem j t) a w else lexA P ops C hs Q (rem j u) a w) true trivial hC (.inl hk) (fun b _=>by
   cases b with
   | true=>simpa using h1
   | false=>simpa using h2)
  refine step_mono hC h3 fun a' w' _ _ hK=>?_
  rw[rem]
  simp only[lexA]
  exact⟨by simpa using hK true trivial,by simpa using hK false trivial⟩
theorem pullE {Q:Act→World→Prop} {p:Nat→Bool} {j:Nat} {oj:Oper} (hj:ops[j]?=some oj) (hsel:∀(j:Nat) (o:Oper) cs b,ops[j]?=some o→o.op≠.select cs b):
  ∀(T T':Tr) (a:Act) (w:World),pick p j T=some T'→(∀ pre post,pre++j::post∈paths T→(∀ i∈pre,p i=false∧i≠j)→∀ i∈pre,pair ops hs i j=true)→C w→lexA P ops C hs Q T a w→step P ops C hs j oj (lexA P ops C hs Q T') a w:=by
 intro T
 induction T with
 | done=>intro T' a w h;cases h
 | op i t ih=>
  intro T' a w hpk hp hC h
  have hpk0:=hpk
  rw[pick] at hpk
  by_cases e:i=j
  ·subst e
   rw[if_pos rfl] at hpk
   injection hpk with hpk
   subst hpk
   simpa only[lexA,hj] using h
  ·rw[if_neg e] at hpk
   by_cases e2:p i=true
   ·rw[if_pos e2] at hpk;cases hpk
   ·rw[if_neg e2] at hpk
    cases hx:pick p j t with
    | none=>rw[hx] at hpk;cases hpk
    | some x=>
     rw[hx] at hpk
     injection hpk with hpk
     subst hpk
     have hp':∀ pre post,pre++j::post∈paths t→(∀ k∈pre,p k=false∧k≠j)→∀ k∈pre,pair ops hs k j=true:=fun pre post hL hn k hk=>hp (i::pre) post (by simp[paths,hL]) (fun m hm=>by
      rcases List.mem_cons.1 hm with rfl | hm
      ·exact⟨by simpa using e2,e⟩
      ·exact hn m hm) k (by simp[hk])
     have hpi:pair ops hs i j=true:=by
      obtain⟨L,hL⟩:=List.exists_mem_of_ne_nil _ (paths_ne x)
      obtain⟨pre,post,h1,h2,_⟩:=mem_pick hx hL
      refine hp (i::pre) post (by simp[paths,h1]) (fun m hm=>?_) i (by simp)
      rcases List.mem_cons.1 hm with rfl | hm
      ·exact⟨by simpa using e2,e⟩
      ·exact h2 m hm
     cases hi:ops[i]? with
     | none=>
      simp only[lexA,hi] at h
      exact step_mono hC (ih x a w hx hp' hC h) fun a' w' _ _ hK=>by simpa only[lexA,hi] using hK
     | some oi=>
      simp only[lexA,hi] at h
      have h1:step P ops C hs i oi (step P ops C hs j oj (lexA P ops C hs Q x)) a w:=step_mono hC h fun a' w' hC' _ hK=>ih x a' w' hx hp' hC' hK
      simp only[pair,hi,hj,Bool.and_eq_true,Bool.or_eq_true,beq_iff_eq] at hpi
      have h2:=swap (hsel i oi · · hi) (hsel j oj · · hj) hpi.1 (by omega) hC h1
      exact step_mono hC h2 fun a' w' _ _ hK=>by simpa only[lexA,hi] using hK
 | alt t u iht ihu=>
  intro T' a w hpk hp hC h
  simp only[lexA] at h
  rw[pick] at hpk
  cases hx:pick p j t with
  | some x=>
   rw[hx] at hpk
   injection hpk with hpk
   subst hpk
   exact iht x a w hx (fun pre post hL=>hp pre post (by simp[paths,hL])) hC h.1
  | none=>
   rw[hx] at hpk
   exact ihu T' a w hpk (fun pre post hL=>hp pre post (by simp[paths,hL])) hC h.2
def covA (p:Nat→Bool) (M:List Nat):Nat→Tr→Bool
 | 0,_=>true
 | f+1,T=>match (paths T).head? with
  | none=>false
  | some L=>(L.filter p).all fun j=>((L.filter p).any fun i=>(M.getD j 0).testBit i)||(match pick p j T with | some T'=>covA p M f T' | none=>false)
theorem covA_rem {p:Nat→Bool} {M:List Nat} {j:Nat} (hp:p j=false):∀(f:Nat) (T:Tr),covA p M f (rem j T)=covA p M f T:=by
 intro f
 induction f with
 | zero=>intro T;rfl
 | succ f ih=>
  intro T
  have h1:=first_rem hp T
  unfold covA
  cases h2:(paths (rem j T)).head? with
  | none=>exact absurd (List.head?_eq_none_iff.1 h2) (paths_ne _)
  | some L=>
   cases h3:(paths T).head? with
   | none=>exact absurd (List.head?_eq_none_iff.1 h3) (paths_ne _)
   | some L2=>
    rw[h2,h3] at h1
    have h4:L.filter p=L2.filter p:=by simpa using h1
    dsimp only
    rw[h4]
    have key:∀ k∈L2.filter p,(((L2.filter p).any fun i=>(M.getD k 0).testBit i)||(match pick p k (rem j T) with | some T'=>covA p M f T' | none=>false))=(((L2.filter p).any fun i=>(M.getD k 0).testBit i)||(match pick p k T with | some T'=>covA p M f T' | none=>false)):=by
     intro k hk
     rw[pick_rem hp (List.mem_filter.1 hk).2]
     cases pick p k T with
     | none=>rfl
     | some x=>simp only[Option.map_some];rw[ih x]
    rw[Bool.eq_iff_iff,List.all_eq_true,List.all_eq_true]
    exact⟨fun h k hk=>by rw[←key k hk];exact h k hk,fun h k hk=>by rw[key k hk];exact h k hk⟩
theorem anyA {Q:Exit→Act→World→Prop} (hsel:∀(j:Nat) (o:Oper) cs b,ops[j]?=some o→o.op≠.select cs b) (hself:∀(k:Nat) (o:Oper),ops[k]?=some o→∀ e∈o.after,Region.binds .any e=true→e.on≠k∧e.on<ops.size):
  ∀(fuel:Nat) (T:Tr) (f:Nat) (listed:Array Bool) (a:Act) (w:World),C w→(∀ L∈paths T,L.length=fuel∧Ord ops hs listed L)→covA (eff ops hs) (masks ops.toList []) f T=true→(∀ L∈paths T,(L.filter (eff ops hs)).length≤f) →
  Down ops listed→listed.size=ops.size→lexA P ops C hs (fun a w=>Q .normal a w) T a w→wpAny P .any ops Q fuel listed a w:=by
 intro fuel
 induction fuel with
 | zero=>
  intro T f listed a w hC hL _ _ hD hsz h
  have hdone:∀ T:Tr,(∀ L∈paths T,L.length=0)→∀ a w,lexA P ops C hs (fun a w=>Q .normal a w) T a w→Q .normal a w:=by
   intro T
   induction T with
   | done=>intro _ a w h;exact h
   | op i t _=>
    intro h0 a w _
    obtain⟨L,hL⟩:=List.exists_mem_of_ne_nil _ (paths_ne t)
    have:=h0 (i::L) (by simp[paths,hL])
    simp at this
   | alt t u iht _=>intro h0 a w h;exact iht (fun L hL=>h0 L (by simp[paths,hL])) a w h.1
  refine⟨?_,hdone T (fun L hLm=>(hL L hLm).1) a w h⟩
  obtain⟨L,hLm⟩:=List.exists_mem_of_ne_nil _ (paths_ne T)
  obtain⟨hl,hO⟩:=hL L hLm
  have hnil:L=[]:=List.eq_nil_of_length_eq_zero hl
  subst hnil
  cases hr:Region.ready .any ops listed with
  | nil=>rfl
  | cons z zs=>
   have hx:z∈Region.ready .any ops listed:=by rw[hr];simp
   obtain⟨h1,o,ho,_⟩:=mem_ready.1 hx
   have:z∈([]:List Nat):=(hO.mem z).2 ⟨(Array.getElem?_eq_some_iff.1 ho).1,h1⟩
   cases this
 | succ fuel ih=>
  intro T f listed a w hC hL hcov hf hD hsz h
  refine⟨fun hr=>?_,fun j hj=>?_⟩
  ·exfalso
   obtain⟨L0,hL0⟩:=List.exists_mem_of_ne_nil _ (paths_ne T)
   obtain⟨hl,hO⟩:=hL L0 hL0
   cases L0 with
   | nil=>simp at hl
   | cons i L=>
    have hri:=head_readyA hsz hO.mem hself hO.pw
    rw[hr] at hri
    cases hri
  ·obtain⟨hj1,oj,hoj,hjr⟩:=mem_ready.1 hj
   have hjlt:j<ops.size:=(Array.getElem?_eq_some_iff.1 hoj).1
   have hmem:∀ L∈paths T,j∈L:=fun L hLm=>((hL L hLm).2.mem j).2 ⟨hjlt,hj1⟩
   have hpr:∀ pre post,pre++j::post∈paths T→∀ i∈pre,¬(eff ops hs i=true∧eff ops hs j=true)→pair ops hs i j=true:=by
    intro pre post hLm i hi hne
    have hO:=(hL _ hLm).2
    have hr:=(List.pairwise_append.1 hO.pw).2.2 i hi j (by simp)
    obtain⟨hi1,hi2⟩:=(hO.mem i).1 (by simp[hi])
    exact relA_pair hr hD hoj hjr hi2 (by omega) hne
   by_cases hef:eff ops hs j=true
   ·obtain⟨L1,hh1⟩:∃ L1,(paths T).head?=some L1:=by
     cases hh:(paths T).head? with
     | none=>exact absurd (List.head?_eq_none_iff.1 hh) (paths_ne T)
     | some L1=>exact⟨L1,rfl⟩
    have hL1:L1∈paths T:=List.mem_of_mem_head? (by rw[hh1];rfl)
    have hE1:j∈L1.filter (eff ops hs):=List.mem_filter.2 ⟨hmem L1 hL1,hef⟩
    have hfpos:f≠0:=by
     intro e
     have h1:=hf L1 hL1
     rw[e] at h1
     have:=List.length_pos_of_mem hE1
     omega
    obtain⟨f',rfl⟩:=Nat.exists_eq_succ_of_ne_zero hfpos
    have hnb:∀ i,listed.getD i true=false→i<ops.size→((masks ops.toList []).getD j 0).testBit i=false:=by
     intro i hi hlt
     cases hb:((masks ops.toList []).getD j 0).testBit i with
     | false=>rfl
     | true=>
      have hl:=masks_sound hD (j+1) j oj (by omega) hoj hjr i hb
      have hb2:i<listed.size:=by omega
      simp only[Array.getD_eq_getD_getElem?,Array.getElem?_eq_getElem hb2,Option.getD_some] at hl hi
      rw[hl] at hi
      cases hi
    obtain⟨T',hT',hcv⟩:∃ T',pick (eff ops hs) j T=some T'∧covA (eff ops hs) (masks ops.toList []) f' T'=true:=by
     rw[covA,hh1] at hcov
     have hc:=List.all_eq_true.1 hcov j hE1
     rw[Bool.or_eq_true] at hc
     rcases hc with hc | hc
     ·exfalso
      obtain⟨i,hi,hb⟩:=List.any_eq_true.1 hc
      obtain⟨q1,q2⟩:=((hL L1 hL1).2.mem i).1 (List.mem_filter.1 hi).1
      rw[hnb i q2 q1] at hb
      cases hb
     ·cases hp:pick (eff ops hs) j T with
      | none=>rw[hp] at hc;cases hc
      | some x=>rw[hp] at hc;exact⟨x,rfl,hc⟩
    have hstep:=pullE (P:=P) (C:=C) (hs:=hs) (Q:=fun a w=>Q .normal a w) hoj hsel T T' a w hT' (fun pre post hLm hn i hi=>hpr pre post hLm i hi (fun hh=>by rw[(hn i hi).1] at hh;cases hh.1)) hC h
    have hsub:∀ L'∈paths T',∃ L∈paths T,L'=L.erase j∧∃ pre post,L=pre++j::post∧(∀ i∈pre,eff ops hs i=false)∧L'=pre++post:=by
     intro L' hL'
     obtain⟨pre,post,h1,h2,rfl⟩:=mem_pick hT' hL'
     refine⟨_,h1,?_,pre,post,rfl,fun i hi=>(h2 i hi).1,rfl⟩
     rw[List.erase_append_right _ (fun hh=>(h2 j hh).2 rfl),List.erase_cons_head]
    refine op_of_step hoj hC (step_mono hC hstep fun a' w' hC' _ hK=>ih T' f' _ a' w' hC' ?_ hcv ?_ (down_set hD hoj hjr) (by simp[hsz]) hK)
    ·intro L' hL'
     obtain⟨L,hLm,rfl,_⟩:=hsub L' hL'
     refine⟨?_,(hL L hLm).2.rest (hmem L hLm)⟩
     rw[List.length_erase_of_mem (hmem L hLm),(hL L hLm).1]
     omega
    ·intro L' hL'
     obtain⟨L,hLm,_,pre,post,rfl,h9,rfl⟩:=hsub L' hL'
     have h1:=hf _ hLm
     rw[List.filter_append,List.filter_cons_of_pos hef] at h1
     rw[List.filter_append]
     simp only[List.length_append,List.length_cons] at h1 ⊢
     omega
   ·have hef':eff ops hs j=false:=by simpa using hef
    have hk:kind hs j oj≠2:=by
     intro hk
     apply hef
     simp[eff,hoj,hk]
    have hstep:=pullP (P:=P) (C:=C) (hs:=hs) (Q:=fun a w=>Q .normal a w) hoj hsel hk T a w hmem (fun pre post hLm _ i hi=>hpr pre post hLm i hi (fun hh=>hef hh.2)) hC h
    refine op_of_step hoj hC (step_mono hC hstep fun a' w' hC' _ hK=>ih (rem j T) f _ a' w' hC' ?_ (by rw[covA_rem hef'];exact hcov) ?_ (down_set hD hoj hjr) (by simp[hsz]) hK)
    ·intro L' hL'
     obtain⟨L,hLm,rfl⟩:=mem_rem hmem hL'
     refine⟨?_,(hL L hLm).2.rest (hmem L hLm)⟩
     rw[List.length_erase_of_mem (hmem L hLm),(hL L hLm).1]
     omega
    ·intro L' hL'
     obtain⟨L,hLm,rfl⟩:=mem_rem hmem hL'
     rw[erase_filter hef']
     exact hf L hLm
def okA (hs:List Nat) (ops:Array Oper) (T:Tr):Bool:=
 let M:=masks ops.toList []
 ((List.range ops.size).all fun j=>match ops[j]? with
  | some oj=>noSel oj&&(oj.after.all fun e=>!Region.binds .any e||decide (e.on<j))
  | none=>true) &&
 ((paths T).all fun ord=>pw (relA ops hs M) ord&&decide (ord.length=ops.size)&&ord.all (fun i=>decide (i<ops.size))&&pw (fun a b=>a != b) ord) &&
 covA (eff ops hs) M ops.size T
end
inductive TrO where
 | done
 | op (i:Nat) (o:Oper) (t:TrO)
 | alt (t u:TrO)
def numbT (l:List Oper):Tr→TrO
 | .done=>.done
 | .op i t=>match l[i]? with | some o=>.op i o (numbT l t) | none=>numbT l t
 | .alt t u=>.alt (numbT l t) (numbT l u)
def lexO (P:Program) (ops:Array Oper) (C:World→Prop) (hs:List Nat) (Q:Act→World→Prop):TrO→Act→World→Prop
 | .done,a,w=>Q a w
 | .op i o t,a,w=>step P ops C hs i o (lexO P ops C hs Q t) a w
 | .alt t u,a,w=>lexO P ops C hs Q t a w∧lexO P ops C hs Q u a w
theorem lexA_of_lexO {P:Program} {C:World→Prop} {hs:List Nat} {Q:Act→World→Prop} (l:List Oper):∀ T:Tr,lexO P l.toArray C hs Q (numbT l T)=lexA P l.toArray C hs Q T:=by
 intro T
 induction T with
 | done=>rfl
 | op i t ih=>
  funext a w
  rw[numbT]
  cases hl:l[i]? with
  | none=>simp only[lexA,List.getElem?_toArray,hl,ih]
  | some o=>simp only[lexA,lexO,List.getElem?_toArray,hl,ih]
 | alt t u iht ihu=>
  funext a w
  simp only[numbT,lexO,lexA,iht,ihu]
theorem regionA {P:Program} {C:World→Prop} {hs:List Nat} {id:Nat} {l:List Oper} {Q:Exit→Act→World→Prop} {a:Act} {w:World} (T:Tr) (hm:P.follows .mixedOrders=true) (hok:okA hs l.toArray T=true) (hC:C w.drew)
  (h:lexO P l.toArray C hs (fun a w=>Q .normal a w) (numbT l T) a w.drew):(Code.region id l.toArray true).wp P Q a w:=by
 refine wp_region_any hm ?_
 simp only[okA,Bool.and_eq_true] at hok
 obtain⟨⟨o1,o2⟩,o4⟩:=hok
 have o1':∀(j:Nat) (oj:Oper),l.toArray[j]?=some oj→noSel oj=true∧(∀ e∈oj.after,Region.binds .any e=true→e.on<j):=by
  intro j oj hj
  have hlt:j<l.toArray.size:=(Array.getElem?_eq_some_iff.1 hj).1
  have h1:=List.all_eq_true.1 o1 j (List.mem_range.2 hlt)
  simp only[hj,Bool.and_eq_true] at h1
  refine⟨h1.1,fun e he hb=>?_⟩
  have:=Array.all_eq_true'.1 h1.2 e he
  simpa[hb] using this
 have o2':∀ L∈paths T,L.Pairwise (fun a b=>relA l.toArray hs (masks l.toArray.toList []) a b=true)∧L.length=l.toArray.size∧(∀ i∈L,i<l.toArray.size)∧L.Nodup:=by
  intro L hL
  have h1:=List.all_eq_true.1 o2 L hL
  simp only[Bool.and_eq_true,decide_eq_true_eq] at h1
  obtain⟨⟨⟨h1,h2⟩,h3⟩,h4⟩:=h1
  exact⟨pw_iff h1,h2,fun i hi=>by simpa using List.all_eq_true.1 h3 i hi,(pw_iff h4).imp (by simp)⟩
 rw[lexA_of_lexO] at h
 refine anyA (hs:=hs) (C:=C) ?_ ?_ _ T l.toArray.size _ a _ hC ?_ o4 ?_ ?_ (by simp) h
 ·intro j o cs b hj he
  have:=(o1' j o hj).1
  simp[noSel,he] at this
 ·intro k o hk e he hb
  have h1:=(o1' k o hk).2 e he hb
  have hlt:k<l.toArray.size:=(Array.getElem?_eq_some_iff.1 hk).1
  exact⟨by omega,by omega⟩
 ·intro L hL
  obtain⟨h1,h2,h3,h4⟩:=o2' L hL
  refine⟨by simpa using h2,h4,fun i=>⟨fun hi=>?_,fun ⟨hi,_⟩=>?_⟩,h1⟩
  ·have:=h3 i hi
   refine⟨this,?_⟩
   have this':i<l.length:=by simpa using this
   simp[Array.getD_eq_getD_getElem?,this']
  ·exact perm_mem h4 h2 h3 hi
 ·intro L hL
  obtain⟨_,h2,_,_⟩:=o2' L hL
  exact Nat.le_trans (List.length_filter_le _ _) (by omega)
 ·intro j o ho hl
  simp[Array.getD_eq_getD_getElem?,Array.getElem?_replicate] at hl
  split at hl<;>simp at hl
section
variable {P : Program} {ops : Array Oper} {C : World → Prop} {hs : List Nat} {Q : Act → World → Prop} {k : Nat} {o : Oper} {r r' : TrO} {a : Act} {w : World}
theorem lexO_done (h:Q a w):lexO P ops C hs Q .done a w:=h
theorem lexO_alt (h:lexO P ops C hs Q r a w) (h':lexO P ops C hs Q r' a w):lexO P ops C hs Q (.alt r r') a w:=⟨h,h'⟩
theorem lexO_no (hw:Region.wanted o (yielded ops a.tmps)=false) (h:∀ K:Act→Prop,(∀ a',lexO P ops C hs Q r a' w→K a')→K (a.put o.dst undef)):lexO P ops C hs Q (.op k o r) a w:=by
 unfold lexO
 simp only[step,hw,Bool.false_eq_true,if_false]
 exact h _ fun _ h=>h
theorem lexO_pure {v:Value} (hk:kind hs k o=0) (hw:Region.wanted o (yielded ops a.tmps)=true) (hr:∀ w',C w'→(execOp a.eval o).run P w'=.ok (.value v) w')
  (h:∀ K:Act→Prop,(∀ a',lexO P ops C hs Q r a' w→K a')→K (a.put o.dst v)):lexO P ops C hs Q (.op k o r) a w:=by
 unfold lexO
 simp only[step,hw,if_true]
 exact .inl ⟨hk,v,hr,h _ fun _ h=>h⟩
theorem lexO_read {v:Value} (hk:kind hs k o=1) (hw:Region.wanted o (yielded ops a.tmps)=true) (hr:(execOp a.eval o).run P w=.ok (.value v) w)
  (h:∀ K:Act→Prop,(∀ a',lexO P ops C hs Q r a' w→K a')→K (a.put o.dst v)):lexO P ops C hs Q (.op k o r) a w:=by
 unfold lexO
 simp only[step,hw,if_true]
 exact .inr (.inl ⟨hk,v,hr,h _ fun _ h=>h⟩)
theorem lexO_eff (hk:kind hs k o=2) (hw:Region.wanted o (yielded ops a.tmps)=true)
  (h:∀ K:Act→World→Prop,(∀ a' w',C w'→lexO P ops C hs Q r a' w'→K a' w')→o.wp P a w K NoQ):lexO P ops C hs Q (.op k o r) a w:=by
 unfold lexO
 simp only[step,hw,if_true]
 exact .inr (.inr ⟨hk,h _ fun _ _ h1 h2=>⟨h1,h2⟩⟩)
theorem qn (h:∀ K:Act→Prop,(∀ a',lexO P ops C hs Q r a' w→K a')→K (a.put o.dst undef)) (hw:Region.wanted o (yielded ops a.tmps)=false:=by first|exact Lx.n1 rfl rfl rfl (by with_reducible rfl) | exact Lx.n0 rfl rfl rfl (by with_reducible rfl) | exact Lx.n2 rfl rfl rfl):lexO P ops C hs Q (.op k o r) a w:=lexO_no hw h
theorem qp {v:Value} (hr:∀ w',C w'→(execOp a.eval o).run P w'=.ok (.value v) w') (h:∀ K:Act→Prop,(∀ a',lexO P ops C hs Q r a' w→K a')→K (a.put o.dst v)) (hk:kind hs k o=0:=by exact rfl) (hw:Region.wanted o (yielded ops a.tmps)=true:=by first|exact Lx.w0 rfl | exact Lx.w1 rfl rfl rfl (by with_reducible rfl)):lexO P ops C hs Q (.op k o r) a w:=lexO_pure hk hw hr h
theorem qr {v:Value} (hr:(execOp a.eval o).run P w=.ok (.value v) w) (h:∀ K:Act→Prop,(∀ a',lexO P ops C hs Q r a' w→K a')→K (a.put o.dst v)) (hk:kind hs k o=1:=by exact rfl) (hw:Region.wanted o (yielded ops a.tmps)=true:=by first|exact Lx.w0 rfl | exact Lx.w1 rfl rfl rfl (by with_reducible rfl)):lexO P ops C hs Q (.op k o r) a w:=lexO_read hk hw hr h
theorem qe (h:∀ K:Act→World→Prop,(∀ a' w',C w'→lexO P ops C hs Q r a' w'→K a' w')→o.wp P a w K NoQ) (hk:kind hs k o=2:=by exact rfl) (hw:Region.wanted o (yielded ops a.tmps)=true:=by first|exact Lx.w0 rfl | exact Lx.w1 rfl rfl rfl (by with_reducible rfl)):lexO P ops C hs Q (.op k o r) a w:=lexO_eff hk hw h
end
end Lx
end Go.Proofs.YtjakdikhdndlgaaGreatDoor
