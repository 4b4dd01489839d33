/- Lemmas of the proof, part 1. Conditions: none. -/
import Derived.WalkKit
import Derived.Deep.Draws
import Derived.WalkLawsBesides
import Derived.Lib.Hide
import Derived.Maps.AppendAt
import Derived.OwnWalk
import Derived.Laws.OwnMore
import Derived.Test.YtjakdikhdndlgaaGreatDoorProg
import Derived.Lib.SliceRun
import Derived.Lib.SmallJoins
import Derived.Deep.Heap
import Derived.Deep.RegionHeld3
import Derived.Deep.RegionWith
import Derived.Deep.QuietTactic
import Derived.BigQuiet
import Derived.MapKept
import Derived.Laws.StructEq
import Derived.Laws.AppendOwn
set_option maxRecDepth 100000
namespace Go.Proofs.YtjakdikhdndlgaaGreatDoor
open Go.RowKit
namespace Lx
def NoQ:Exit→Act→World→Prop:=fun _ _ _=>False
def kind (hs:List Nat) (i:Nat) (o:Oper):Nat:=
 if hs.contains (1000+i) then 2 else
 match o.op with
 | .move _ | .assign _ | .pick .. | .nilCheck _ | .binOp .. | .unOp .. | .convert .. | .fieldAddr .. | .field .. | .indexAddr .. | .index .. | .extract .. | .slice .. | .build .. | .makeFunc .. | .makeInterface ..=>0
 | .call { callee:=.builtin .len,.. } | .call { callee:=.builtin .cap,.. } | .call { callee:=.builtin .min,.. } | .call { callee:=.builtin .max,.. }=>0
 | .load .. | .lookup ..=>if hs.contains i then 0 else 1
 | _=>2
section
variable {P : Program} {ops : Array Oper} {C : World → Prop} {hs : List Nat}
def step (P:Program) (ops:Array Oper) (C:World→Prop) (hs:List Nat) (i:Nat) (o:Oper) (K:Act→World→Prop) (a:Act) (w:World):Prop:=
 if Region.wanted o (yielded ops a.tmps)=true then
  (kind hs i o=0∧∃ v,(∀ w',C w'→(execOp a.eval o).run P w'=.ok (.value v) w')∧K (a.put o.dst v) w) ∨
  (kind hs i o=1∧∃ v,(execOp a.eval o).run P w=.ok (.value v) w∧K (a.put o.dst v) w) ∨
  (kind hs i o=2∧o.wp P a w (fun a' w'=>C w'∧K a' w') NoQ)
 else K (a.put o.dst undef) w
def Same (o:Oper) (a a':Act):Prop:=∃ d u,a'=({ a with defers:=d }:Act).put o.dst u
theorem wp_same {o:Oper} {a:Act} {w:World} {K:Act→World→Prop} (h:o.wp P a w K NoQ):o.wp P a w (fun a' w'=>K a' w'∧Same o a a') NoQ:=by
 unfold Oper.wp at *
 generalize (execOp a.eval o).run P w=r at *
 cases r with
 | ok n w'=>
  cases n<;>simp only[Oper.upon] at h ⊢ <;>
   first
    | exact h
    | exact⟨h,_,_,rfl⟩
    | exact Calls.mono h (fun e w'' he=>by cases e<;>first|exact⟨he,_,_,rfl⟩ | exact he)
    | exact Rows.mono h (fun _ _ he=>⟨he,_,_,rfl⟩)
 | halt x w'=>cases x<;>simp only[Oper.upon] at h ⊢<;>exact h
theorem letsOut_no:¬LetsOut NoQ:=fun ⟨_,_,h⟩=>h
theorem wp_some {o:Oper} {a:Act} {w:World} {K:Act→World→Prop} (h:o.wp P a w K NoQ):∃ a' w',K a' w':=by
 unfold Oper.wp at h
 generalize (execOp a.eval o).run P w=r at *
 cases r with
 | ok n w'=>
  cases n<;>simp only[Oper.upon] at h
  case value v=>exact⟨_,_,h⟩
  case skip=>exact⟨_,_,h⟩
  case defer d=>exact⟨_,_,h⟩
  case enter f args=>
   obtain⟨e,w'',fr,hR,_⟩:=h []
   cases e with
   | returned v=>exact⟨_,_,hR⟩
   | panicked c=>exact hR.elim
   | outgrown=>exact(letsOut_no hR).elim
  case row r args=>
   obtain⟨v,w'',hR,_⟩:=h default []
   exact⟨_,_,hR⟩
 | halt x w'=>cases x<;>simp only[Oper.upon] at h<;>exact h.elim
theorem wp_put {o:Oper} {a:Act} {w:World} {K:Act→World→Prop} {x:Option Tmp} {v:Value} (hsel:∀ cs b,o.op≠.select cs b)
  (hl:∀ d,x=some d→d∉o.looksAt ops) (hd:∀ d,x=some d→o.dst≠some d) (h:o.wp P a w (fun a' w'=>K (a'.put x v) w') NoQ):o.wp P (a.put x v) w K NoQ:=by
 unfold Oper.wp at *
 rw[execOp_put o hsel a x v hl]
 generalize (execOp a.eval o).run P w=r at *
 cases r with
 | ok n w'=>
  cases n<;>simp only[Oper.upon] at h ⊢ <;>
   first
    | exact h
    | (rw[Act.put_comm a v _ hd];exact h)
    | (rw[Act.put_defers,Act.put_comm _ v _ hd];exact h)
    | exact Calls.mono h (fun e w'' he=>by cases e<;>first|(simp only[] at he ⊢;rw[Act.put_comm a v _ hd];exact he) | exact he)
    | exact Rows.mono h (fun _ _ he=>by rw[Act.put_comm a v _ hd];exact he)
 | halt x w'=>cases x<;>simp only[Oper.upon] at h ⊢<;>exact h
theorem wp_put' {o:Oper} {a:Act} {w:World} {K:Act→World→Prop} {x:Option Tmp} {v:Value} (hsel:∀ cs b,o.op≠.select cs b)
  (hl:∀ d,x=some d→d∉o.looksAt ops) (hd:∀ d,x=some d→o.dst≠some d) (h:o.wp P (a.put x v) w K NoQ):o.wp P a w (fun a' w'=>K (a'.put x v) w') NoQ:=by
 unfold Oper.wp at *
 rw[execOp_put o hsel a x v hl] at h
 generalize (execOp a.eval o).run P w=r at *
 cases r with
 | ok n w'=>
  cases n<;>simp only[Oper.upon] at h ⊢ <;>
   first
    | exact h
    | (rw[Act.put_comm a v _ hd] at h;exact h)
    | (rw[Act.put_defers,Act.put_comm _ v _ hd] at h;exact h)
    | exact Calls.mono h (fun e w'' he=>by cases e<;>first|(simp only[] at he ⊢;rw[Act.put_comm a v _ hd] at he;exact he) | exact he)
    | exact Rows.mono h (fun _ _ he=>by rw[Act.put_comm a v _ hd] at he;exact he)
 | halt x w'=>cases x<;>simp only[Oper.upon] at h ⊢<;>exact h
theorem wp_noQ {o:Oper} {a:Act} {w:World} {K:Act→World→Prop} {Q:Exit→Act→World→Prop} (h:o.wp P a w K NoQ):o.wp P a w K Q:=by
 unfold Oper.wp at *
 generalize (execOp a.eval o).run P w=r at *
 cases r with
 | ok n w'=>
  cases n<;>simp only[Oper.upon] at h ⊢ <;>
   first
    | exact h
    | exact h.elim
    | exact Calls.mono h (fun e w'' he=>by cases e<;>first|exact he | exact he.elim | exact(letsOut_no he).elim)
 | halt x w'=>cases x<;>simp only[Oper.upon] at h ⊢<;>first|exact h.elim | exact h
theorem step_mono {i:Nat} {o:Oper} {a:Act} {w:World} {K K':Act→World→Prop} (hC:C w) (h:step P ops C hs i o K a w)
  (hk:∀ a' w',C w'→Same o a a'→K a' w'→K' a' w'):step P ops C hs i o K' a w:=by
 unfold step at *
 split
 ·rename_i hw
  rw[if_pos hw] at h
  rcases h with ⟨h0,v,h1,h2⟩ | ⟨h0,v,h1,h2⟩ | ⟨h0,h1⟩
  ·exact .inl ⟨h0,v,h1,hk _ _ hC ⟨a.defers,v,rfl⟩ h2⟩
  ·exact .inr (.inl ⟨h0,v,h1,hk _ _ hC ⟨a.defers,v,rfl⟩ h2⟩)
  ·exact .inr (.inr ⟨h0,Oper.wp_mono (fun a' w' ⟨⟨h1,h2⟩,h3⟩=>⟨h1,hk _ _ h1 h3 h2⟩) (wp_same h1)⟩)
 ·rename_i hw
  rw[if_neg hw] at h
  exact hk _ _ hC ⟨a.defers,undef,rfl⟩ h
theorem same_exec {oi oj:Oper} {a a':Act} (hs':Same oj a a') (hsel:∀ cs b,oi.op≠.select cs b) (hl:∀ d,oj.dst=some d→d∉oi.looksAt ops):
  execOp a'.eval oi=execOp a.eval oi∧Region.wanted oi (yielded ops a'.tmps)=Region.wanted oi (yielded ops a.tmps):=by
 obtain⟨d,u,rfl⟩:=hs'
 refine⟨?_,?_⟩
 ·rw[execOp_put oi hsel _ _ _ hl]
  rfl
 ·rw[wanted_put oi _ _ _ hl]
theorem step_put {j:Nat} {oi oj:Oper} {a:Act} {w:World} {K:Act→World→Prop} {v:Value} (hsj:∀ cs b,oj.op≠.select cs b) (hap:oi.apart ops oj=true)
  (h:step P ops C hs j oj K (a.put oi.dst v) w):step P ops C hs j oj (fun a' w'=>K (a'.put oi.dst v) w') a w:=by
 obtain⟨h1,h2,h3⟩:=Oper.apart_spec hap
 unfold step at *
 rw[wanted_put oj a oi.dst v h1,execOp_put oj hsj a oi.dst v h1] at h
 split
 ·rename_i hw
  rw[if_pos hw] at h
  rcases h with ⟨h0,u,h4,h5⟩ | ⟨h0,u,h4,h5⟩ | ⟨h0,h4⟩
  ·exact .inl ⟨h0,u,h4,by show K _ w;rw[←Act.put_comm a v u h2];exact h5⟩
  ·exact .inr (.inl ⟨h0,u,h4,by show K _ w;rw[←Act.put_comm a v u h2];exact h5⟩)
  ·exact .inr (.inr ⟨h0,wp_put' (K:=fun a' w'=>C w'∧K a' w') hsj h1 h2 h4⟩)
 ·rename_i hw
  rw[if_neg hw] at h
  show K _ w
  rw[←Act.put_comm a v undef h2];exact h
theorem swap {i j:Nat} {oi oj:Oper} {a:Act} {w:World} {K:Act→World→Prop} (hsi:∀ cs b,oi.op≠.select cs b) (hsj:∀ cs b,oj.op≠.select cs b) (hap:oi.apart ops oj=true)
  (hk:kind hs i oi=0∨kind hs j oj=0∨(kind hs i oi=1∧kind hs j oj=1)) (hC:C w)
  (h:step P ops C hs i oi (step P ops C hs j oj K) a w):step P ops C hs j oj (step P ops C hs i oi K) a w:=by
 obtain⟨h1,h2,h3⟩:=Oper.apart_spec hap
 have h2':∀ d,oj.dst=some d→oi.dst≠some d:=fun d hd e=>h2 d e hd
 by_cases hwi:Region.wanted oi (yielded ops a.tmps)=true
 ·unfold step at h
  rw[if_pos hwi] at h
  rcases h with ⟨h0,v,h4,h5⟩ | ⟨h0,v,h4,h5⟩ | ⟨h0,h4⟩
  ·refine step_mono hC (step_put hsj hap h5) fun a' w' hC' hS hK=>?_
   obtain⟨e1,e2⟩:=same_exec (ops:=ops) hS hsi h3
   unfold step
   rw[e2,if_pos hwi,e1]
   exact .inl ⟨h0,v,h4,hK⟩
  ·by_cases hwj:Region.wanted oj (yielded ops (a.put oi.dst v).tmps)=true
   ·rw[if_pos hwj] at h5
    have hwj':=hwj
    rw[wanted_put oj a oi.dst v h1] at hwj'
    rw[execOp_put oj hsj a oi.dst v h1] at h5
    unfold step
    rw[if_pos hwj']
    have key:∀ u,K ((a.put oi.dst v).put oj.dst u) w→(if Region.wanted oi (yielded ops (a.put oj.dst u).tmps)=true then
      (kind hs i oi=0∧∃ v,(∀ w',C w'→(execOp (a.put oj.dst u).eval oi).run P w'=.ok (.value v) w')∧K ((a.put oj.dst u).put oi.dst v) w) ∨
      (kind hs i oi=1∧∃ v,(execOp (a.put oj.dst u).eval oi).run P w=.ok (.value v) w∧K ((a.put oj.dst u).put oi.dst v) w) ∨
      (kind hs i oi=2∧oi.wp P (a.put oj.dst u) w (fun a' w'=>C w'∧K a' w') NoQ) else K ((a.put oj.dst u).put oi.dst undef) w):=by
     intro u hu
     rw[wanted_put oi a oj.dst u h3,if_pos hwi,execOp_put oi hsi a oj.dst u h3]
     exact .inr (.inl ⟨h0,v,h4,by rw[←Act.put_comm a v u h2];exact hu⟩)
    rcases h5 with ⟨k0,u,h6,h7⟩ | ⟨k0,u,h6,h7⟩ | ⟨k0,h6⟩
    ·exact .inl ⟨k0,u,h6,key u h7⟩
    ·exact .inr (.inl ⟨k0,u,h6,key u h7⟩)
    ·omega
   ·rw[if_neg hwj] at h5
    have hwj':=hwj
    rw[wanted_put oj a oi.dst v h1] at hwj'
    unfold step
    rw[if_neg hwj',wanted_put oi a oj.dst undef h3,if_pos hwi,execOp_put oi hsi a oj.dst undef h3]
    exact .inr (.inl ⟨h0,v,h4,by rw[←Act.put_comm a v undef h2];exact h5⟩)
  ·by_cases hwj:Region.wanted oj (yielded ops a.tmps)=true
   ·have kj:kind hs j oj=0:=by omega
    have h4':=wp_same h4
    obtain⟨a0,w0,⟨hC0,hs0⟩,hS0⟩:=wp_some h4'
    obtain⟨e1,e2⟩:=same_exec (ops:=ops) hS0 hsj h1
    rw[e2,if_pos hwj,e1] at hs0
    rcases hs0 with ⟨_,u,h6,_⟩ | ⟨k1,_⟩ | ⟨k1,_⟩
    ·have h7:oi.wp P a w (fun a' w'=>C w'∧K (a'.put oj.dst u) w') NoQ:=by
      refine Oper.wp_mono (fun a' w' ⟨⟨hC1,hs1⟩,hS1⟩=>⟨hC1,?_⟩) h4'
      obtain⟨e3,e4⟩:=same_exec (ops:=ops) hS1 hsj h1
      rw[e4,if_pos hwj,e3] at hs1
      rcases hs1 with ⟨_,u',h8,h9⟩ | ⟨k1,_⟩ | ⟨k1,_⟩
      ·have:=(h6 w hC).symm.trans (h8 w hC)
       injection this with this _
       injection this with this
       rw[this];exact h9
      ·omega
      ·omega
     have h8:step P ops C hs i oi K (a.put oj.dst u) w:=by
      unfold step
      rw[wanted_put oi a oj.dst u h3,if_pos hwi]
      exact .inr (.inr ⟨h0,wp_put (K:=fun a' w'=>C w'∧K a' w') hsi h3 h2' h7⟩)
     unfold step at h8 ⊢
     rw[if_pos hwj]
     exact .inl ⟨kj,u,h6,h8⟩
    ·omega
    ·omega
   ·have h7:oi.wp P a w (fun a' w'=>C w'∧K (a'.put oj.dst undef) w') NoQ:=by
     refine Oper.wp_mono (fun a' w' ⟨⟨hC1,hs1⟩,hS1⟩=>⟨hC1,?_⟩) (wp_same h4)
     obtain⟨e3,e4⟩:=same_exec (ops:=ops) hS1 hsj h1
     rw[e4,if_neg hwj] at hs1
     exact hs1
    unfold step
    rw[if_neg hwj,wanted_put oi a oj.dst undef h3,if_pos hwi]
    exact .inr (.inr ⟨h0,wp_put (K:=fun a' w'=>C w'∧K a' w') hsi h3 h2' h7⟩)
 ·have h':=h
  unfold step at h'
  rw[if_neg hwi] at h'
  refine step_mono hC (step_put hsj hap h') fun a' w' hC' hS hK=>?_
  obtain⟨e1,e2⟩:=same_exec (ops:=ops) hS hsi h3
  unfold step
  rw[e2,if_neg hwi]
  exact hK
def lexN (P:Program) (ops:Array Oper) (C:World→Prop) (hs:List Nat) (Q:Act→World→Prop):List Nat→Act→World→Prop
 | [],a,w=>Q a w
 | i::L,a,w=>match ops[i]? with
  | some o=>step P ops C hs i o (lexN P ops C hs Q L) a w
  | none=>lexN P ops C hs Q L a w
def pair (ops:Array Oper) (hs:List Nat) (i j:Nat):Bool:=
 match ops[i]?,ops[j]? with
 | some oi,some oj=>oi.apart ops oj&&(kind hs i oi == 0||kind hs j oj == 0||(kind hs i oi == 1&&kind hs j oj == 1))
 | _,_=>true
theorem pull {Q:Act→World→Prop} {j:Nat} {oj:Oper} (hj:ops[j]?=some oj) (hsel:∀(j:Nat) (o:Oper) cs b,ops[j]?=some o→o.op≠.select cs b) (post:List Nat):
  ∀(pre:List Nat) (a:Act) (w:World),(∀ i∈pre,pair ops hs i j=true)→C w→lexN P ops C hs Q (pre++j::post) a w→step P ops C hs j oj (lexN P ops C hs Q (pre++post)) a w:=by
 intro pre
 induction pre with
 | nil=>
  intro a w _ hC h
  simp only[List.nil_append,lexN,hj] at h
  exact h
 | cons i pre ih=>
  intro a w hp hC h
  simp only[List.cons_append,lexN] at h ⊢
  have hpi:=hp i (by simp)
  have hp':∀ i'∈pre,pair ops hs i' j=true:=fun i' hi'=>hp i' (by simp[hi'])
  cases hi:ops[i]? with
  | none=>
   simp only[hi] at h
   exact step_mono hC (ih a w hp' hC h) fun a' w' _ _ hK=>by simpa only[lexN,hi] using hK
  | some oi=>
   simp only[hi] at h
   have h1:step P ops C hs i oi (step P ops C hs j oj (lexN P ops C hs Q (pre++post))) a w:=step_mono hC h fun a' w' hC' _ hK=>ih a' w' hp' hC' hK
   simp only[pair,hi,hj,Bool.and_eq_true,Bool.or_eq_true,beq_iff_eq] at hpi
   have h2:=swap (hsel i oi · · hi) (hsel j oj · · hj) hpi.1 (by omega) hC h1
   exact step_mono hC h2 fun a' w' _ _ hK=>by simpa only[lexN,hi] using hK
def maskOf (o:Oper) (acc:List Nat):Nat:=o.after.toList.foldl (fun s e=>if Region.binds .any e then s ||| (2 ^ e.on ||| acc.getD e.on 0) else s) 0
def masks:List Oper→List Nat→List Nat
 | [],acc=>acc
 | o::r,acc=>masks r (acc++[maskOf o acc])
theorem foldl_bits (acc:List Nat) (i:Nat):∀(l:List Edge) (s:Nat),(l.foldl (fun s e=>if Region.binds .any e then s ||| (2 ^ e.on ||| acc.getD e.on 0) else s) s).testBit i=true →
  s.testBit i=true∨∃ e∈l,Region.binds .any e=true∧(i=e.on∨(acc.getD e.on 0).testBit i=true):=by
 intro l
 induction l with
 | nil=>intro s h;exact .inl h
 | cons e l ih=>
  intro s h
  simp only[List.foldl_cons] at h
  rcases ih _ h with h | ⟨e',he',r⟩
  ·split at h
   ·rename_i hb
    rw[Nat.testBit_or,Nat.testBit_or,Bool.or_eq_true,Bool.or_eq_true,Nat.testBit_two_pow] at h
    rcases h with h | h | h
    ·exact .inl h
    ·exact .inr ⟨e,by simp,hb,.inl (of_decide_eq_true h).symm⟩
    ·exact .inr ⟨e,by simp,hb,.inr h⟩
   ·exact .inl h
  ·exact .inr ⟨e',by simp[he'],r⟩
theorem masks_keep:∀(l:List Oper) (acc:List Nat) (j:Nat),j<acc.length→(masks l acc)[j]?=acc[j]?:=by
 intro l
 induction l with
 | nil=>intro acc j _;rfl
 | cons o r ih=>
  intro acc j hj
  rw[masks,ih _ j (by simp;omega),List.getElem?_append_left hj]
theorem masks_at:∀(l:List Oper) (acc:List Nat) (m:Nat) (o:Oper),l[m]?=some o→∃ pre:List Nat,pre.length=acc.length+m∧(∀ k,k<pre.length→pre[k]?=(masks l acc)[k]?)∧(masks l acc)[acc.length+m]?=some (maskOf o pre):=by
 intro l
 induction l with
 | nil=>intro acc m o h;simp at h
 | cons o' r ih=>
  intro acc m o h
  cases m with
  | zero=>
   simp at h
   subst h
   refine⟨acc,rfl,fun k hk=>?_,?_⟩
   ·rw[masks,masks_keep _ _ _ (by simp;omega),List.getElem?_append_left hk]
   ·rw[masks,masks_keep _ _ _ (by simp)]
    simp
  | succ m=>
   simp at h
   obtain⟨pre,h1,h2,h3⟩:=ih (acc++[maskOf o' acc]) m o h
   simp only[List.length_append,List.length_cons,List.length_nil] at h1 h3
   refine⟨pre,by omega,h2,?_⟩
   rw[masks,show acc.length+(m+1)=acc.length+(0+1)+m by omega]
   exact h3
def Down (ops:Array Oper) (listed:Array Bool):Prop:=
 ∀(j:Nat) (o:Oper),ops[j]?=some o→listed.getD j false=true→∀ e∈o.after,Region.binds .any e=true→listed.getD e.on false=true
theorem masks_sound {listed:Array Bool} (hD:Down ops listed):∀(n j:Nat) (o:Oper),j<n→ops[j]?=some o→(∀ e∈o.after,Region.binds .any e=true→listed.getD e.on false=true) →
  ∀ i,((masks ops.toList []).getD j 0).testBit i=true→listed.getD i false=true:=by
 intro n
 induction n with
 | zero=>intro j o h;omega
 | succ n ih=>
  intro j o hj ho hr i hi
  obtain⟨pre,h1,h2,h3⟩:=masks_at ops.toList [] j o (by simpa using ho)
  simp only[List.length_nil,Nat.zero_add] at h1 h3
  rw[List.getD_eq_getElem?_getD,h3] at hi
  simp only[Option.getD_some] at hi
  rcases foldl_bits pre i _ _ hi with h | ⟨e,he,hb,h⟩
  ·simp at h
  ·have he':e∈o.after:=by simpa using he
   rcases h with rfl | h
   ·exact hr e he' hb
   ·by_cases hlt:e.on<pre.length
    ·have h4:((masks ops.toList []).getD e.on 0).testBit i=true:=by
      rw[List.getD_eq_getElem?_getD,←h2 e.on hlt,←List.getD_eq_getElem?_getD];exact h
     have hl:=hr e he' hb
     cases hoe:ops[e.on]? with
     | none=>
      have hge:ops.toList.length≤e.on:=by simpa using hoe
      have hjl:j<ops.toList.length:=by
       rcases Nat.lt_or_ge j ops.toList.length with h | h
       ·exact h
       ·rw[Array.getElem?_eq_none (by simpa using h)] at ho;cases ho
      omega
     | some o'=>exact ih e.on o' (by omega) hoe (hD e.on o' hoe hl) i h4
    ·rw[List.getD_eq_getElem?_getD,List.getElem?_eq_none (by omega)] at h
     simp at h
def noSel (o:Oper):Bool:=match o.op with | .select ..=>false | _=>true
def ok (hs:List Nat) (ops:Array Oper):Bool:=
 let M:=masks ops.toList []
 (List.range ops.size).all fun j=>match ops[j]? with
  | some oj=>noSel oj&&(oj.after.all fun e=>!Region.binds .any e||decide (e.on<j))&&(List.range j).all fun i=>(M.getD j 0).testBit i||pair ops hs i j
  | none=>true
theorem any_of_lex {Q:Exit→Act→World→Prop} (hok:ok hs ops=true):∀(fuel:Nat) (L:List Nat) (listed:Array Bool) (a:Act) (w:World),C w→L.length=fuel →
  (∀ i,i∈L↔i<ops.size∧listed.getD i true=false)→L.Pairwise (·<·)→Down ops listed→listed.size=ops.size→lexN P ops C hs (fun a w=>Q .normal a w) L a w→wpAny P .any ops Q fuel listed a w:=by
 have hok':∀(j:Nat) (oj:Oper),ops[j]?=some oj→noSel oj=true∧(∀ e∈oj.after,Region.binds .any e=true→e.on<j)∧∀ i,i<j→((masks ops.toList []).getD j 0).testBit i=true∨pair ops hs i j=true:=by
  intro j oj hj
  have hlt:j<ops.size:=(Array.getElem?_eq_some_iff.1 hj).1
  have h1:=List.all_eq_true.1 hok j (List.mem_range.2 hlt)
  simp only[hj,Bool.and_eq_true] at h1
  obtain⟨⟨h2,h3⟩,h4⟩:=h1
  refine⟨h2,fun e he hb=>?_,fun i hi=>?_⟩
  ·have:=Array.all_eq_true'.1 h3 e he
   simpa[hb] using this
  ·have:=List.all_eq_true.1 h4 i (List.mem_range.2 hi)
   simpa using this
 have hsel:∀(j:Nat) (o:Oper) cs b,ops[j]?=some o→o.op≠.select cs b:=by
  intro j o cs b hj he
  have:=(hok' j o hj).1
  simp[noSel,he] at this
 intro fuel
 induction fuel with
 | zero=>
  intro L listed a w hC hL hm hs' hD hsz h
  have hnil:L=[]:=List.eq_nil_of_length_eq_zero hL
  subst hnil
  refine⟨?_,h⟩
  cases hr:Region.ready .any ops listed with
  | nil=>rfl
  | cons x xs=>
   have hx:x∈Region.ready .any ops listed:=by rw[hr];simp
   obtain⟨h1,o,ho,_⟩:=mem_ready.1 hx
   have:x∈([]:List Nat):=(hm x).2 ⟨(Array.getElem?_eq_some_iff.1 ho).1,h1⟩
   cases this
 | succ fuel ih=>
  intro L listed a w hC hL hm hs' hD hsz h
  refine⟨fun hr=>?_,fun j hj=>?_⟩
  ·exfalso
   cases L with
   | nil=>simp at hL
   | cons i L=>
    obtain⟨hi1,hi2⟩:=(hm i).1 (by simp)
    have ho:ops[i]?=some ops[i]:=Array.getElem?_eq_getElem hi1
    have hri:i∈Region.ready .any ops listed:=by
     refine mem_ready.2 ⟨hi2,_,ho,fun e he hb=>?_⟩
     have hlt:=(hok' i _ ho).2.1 e he hb
     by_cases hle:listed.getD e.on true=false
     ·have hmem:e.on∈i::L:=(hm e.on).2 ⟨by omega,hle⟩
      rcases List.mem_cons.1 hmem with h | h
      ·omega
      ·have:=(List.pairwise_cons.1 hs').1 e.on h
       omega
     ·have hb2:e.on<listed.size:=by omega
      simp only[Array.getD_eq_getD_getElem?,Array.getElem?_eq_getElem hb2,Option.getD_some] at hle ⊢
      simpa using hle
    rw[hr] at hri
    cases hri
  ·obtain⟨hj1,oj,hoj,hjr⟩:=mem_ready.1 hj
   have hjlt:j<ops.size:=(Array.getElem?_eq_some_iff.1 hoj).1
   have hmem:j∈L:=(hm j).2 ⟨hjlt,hj1⟩
   obtain⟨pre,post,rfl⟩:=List.append_of_mem hmem
   have hpre:∀ i∈pre,i<j:=by
    intro i hi
    exact(List.pairwise_append.1 hs').2.2 i hi j (by simp)
   have hpost:∀ i∈post,j<i:=fun i hi=>(List.pairwise_cons.1 (List.pairwise_append.1 hs').2.1).1 i hi
   have hpair:∀ i∈pre,pair ops hs i j=true:=by
    intro i hi
    rcases(hok' j oj hoj).2.2 i (hpre i hi) with h1 | h1
    ·exfalso
     have hl:=masks_sound hD (j+1) j oj (by omega) hoj hjr i h1
     obtain⟨hi1,hi2⟩:=(hm i).1 (by simp[hi])
     have hb2:i<listed.size:=by omega
     simp only[Array.getD_eq_getD_getElem?,Array.getElem?_eq_getElem hb2,Option.getD_some] at hl hi2
     rw[hl] at hi2
     cases hi2
    ·exact h1
   have h1:=pull hoj hsel post pre a w hpair hC h
   have hset:∀ i,(listed.setIfInBounds j true).getD i true=false↔(listed.getD i true=false∧i≠j):=by
    intro i
    by_cases hij:i=j
    ·subst hij
     simp[Array.getD_eq_getD_getElem?,Array.getElem?_setIfInBounds]
     split<;>simp_all
    ·simp[Array.getD_eq_getD_getElem?,Array.getElem?_setIfInBounds_ne (Ne.symm hij),hij]
   have h2:step P ops C hs j oj (wpAny P .any ops Q fuel (listed.setIfInBounds j true)) a w:=by
    refine step_mono hC h1 fun a' w' hC' _ hK=>ih (pre++post) _ a' w' hC' ?_ ?_ ?_ ?_ (by simp[hsz]) hK
    ·simp at hL ⊢;omega
    ·intro i
     rw[hset]
     constructor
     ·intro hi
      have hi':i∈pre++j::post:=by
       rcases List.mem_append.1 hi with h | h
       ·simp[h]
       ·simp[h]
      obtain⟨q1,q2⟩:=(hm i).1 hi'
      refine⟨q1,q2,?_⟩
      rcases List.mem_append.1 hi with h | h
      ·have:=hpre i h;omega
      ·have:=hpost i h;omega
     ·rintro⟨q1,q2,q3⟩
      have:=(hm i).2 ⟨q1,q2⟩
      rcases List.mem_append.1 this with h | h
      ·simp[h]
      ·rcases List.mem_cons.1 h with h | h
       ·exact absurd h q3
       ·simp[h]
    ·have hp:=List.pairwise_append.1 hs'
     refine List.pairwise_append.2 ⟨hp.1,(List.pairwise_cons.1 hp.2.1).2,fun x hx y hy=>?_⟩
     have:=hpre x hx
     have:=hpost y hy
     omega
    ·intro j' o' ho' hl' e he hb
     by_cases hjj:j'=j
     ·subst hjj
      rw[hoj] at ho'
      injection ho' with ho'
      subst ho'
      exact getD_set_true (hjr e he hb)
     ·rw[getD_set_ne false (Ne.symm hjj)] at hl'
      exact getD_set_true (hD j' o' ho' hl' e he hb)
   unfold step at h2
   unfold wpOp
   simp only[hoj]
   split
   ·rename_i hw
    rw[if_pos hw] at h2
    left
    rcases h2 with ⟨_,v,h3,h4⟩ | ⟨_,v,h3,h4⟩ | ⟨_,h3⟩
    ·unfold Oper.wp;rw[h3 w hC];exact h4
    ·unfold Oper.wp;rw[h3];exact h4
    ·exact Oper.wp_mono (fun _ _ hh=>hh.2) (wp_noQ h3)
   ·rename_i hw
    rw[if_neg hw] at h2
    exact h2
def lex (P:Program) (ops:Array Oper) (C:World→Prop) (hs:List Nat) (Q:Act→World→Prop):Nat→List Oper→Act→World→Prop
 | _,[],a,w=>Q a w
 | k,o::r,a,w=>step P ops C hs k o (lex P ops C hs Q (k+1) r) a w
theorem lexN_of_lex {Q:Act→World→Prop}:∀(l:List Oper) (k:Nat),(∀ m,l[m]?=ops[k+m]?)→lex P ops C hs Q k l=lexN P ops C hs Q (List.range' k l.length):=by
 intro l
 induction l with
 | nil=>intro k _;funext a w;simp[lex,lexN]
 | cons o r ih=>
  intro k h
  have h0:ops[k]?=some o:=by simpa using(h 0).symm
  have ih':=ih (k+1) (fun m=>by have:=h (m+1);simpa[Nat.add_assoc,Nat.add_comm 1 m] using this)
  funext a w
  simp only[lex,List.length_cons,List.range'_succ,lexN,h0,ih']
end
theorem region {P:Program} {C:World→Prop} {hs:List Nat} {id:Nat} {l:List Oper} {Q:Exit→Act→World→Prop} {a:Act} {w:World} (hm:P.follows .mixedOrders=true) (hok:ok hs l.toArray=true) (hC:C w.drew)
  (h:lex P l.toArray C hs (fun a w=>Q .normal a w) 0 l a w.drew):(Code.region id l.toArray true).wp P Q a w:=by
 refine wp_region_any hm ?_
 refine any_of_lex (C:=C) (hs:=hs) hok _ (List.range l.length) _ a _ hC (by simp) ?_ List.pairwise_lt_range ?_ (by simp) ?_
 ·intro i
  simp[Array.getD_eq_getD_getElem?,Array.getElem?_replicate]
  intro hi
  simp[hi]
 ·intro j o ho hl
  simp[Array.getD_eq_getD_getElem?,Array.getElem?_replicate] at hl
  split at hl<;>simp at hl
 ·have:=lexN_of_lex (P:=P) (ops:=l.toArray) (C:=C) (hs:=hs) (Q:=fun a w=>Q .normal a w) l 0 (fun m=>by simp)
  rw[this,←List.range_eq_range'] at h
  exact h
section
variable {ops : Array Oper} {o : Oper} {ts : Array Value} {j : Nat} {d : Tmp} {b want : Bool}
theorem w0 (hg:o.guard=none):Region.wanted o (yielded ops ts)=true:=by simp[Region.wanted,hg]
theorem w1 (hg:o.guard=some (j,want)) (hd:(ops[j]?).bind (·.dst)=some d) (ht:ts[d]?=some (.bool b)) (hb:b=want):Region.wanted o (yielded ops ts)=true:=by
 simp[Region.wanted,hg,yielded,hd,ht,hb]
theorem n1 (hg:o.guard=some (j,true)) (hd:(ops[j]?).bind (·.dst)=some d) (ht:ts[d]?=some (.bool b)) (hb:b=false):Region.wanted o (yielded ops ts)=false:=by
 simp[Region.wanted,hg,yielded,hd,ht,hb]
theorem n0 (hg:o.guard=some (j,false)) (hd:(ops[j]?).bind (·.dst)=some d) (ht:ts[d]?=some (.bool b)) (hb:b=true):Region.wanted o (yielded ops ts)=false:=by
 simp[Region.wanted,hg,yielded,hd,ht,hb]
theorem n2 (hg:o.guard=some (j,want)) (hd:(ops[j]?).bind (·.dst)=some d) (ht:ts[d]?=some undef):Region.wanted o (yielded ops ts)=false:=by
 simp[Region.wanted,hg,yielded,hd,ht,undef]
end
section
variable {P : Program} {ops : Array Oper} {C : World → Prop} {hs : List Nat} {Q : Act → World → Prop} {k : Nat} {o : Oper} {r : List Oper} {a : Act} {w : World}
theorem lex_nil (h:Q a w):lex P ops C hs Q k [] a w:=h
theorem lex_no (hw:Region.wanted o (yielded ops a.tmps)=false) (h:∀ K:Act→Prop,(∀ a',lex P ops C hs Q (k+1) r a' w→K a')→K (a.put o.dst undef)):lex P ops C hs Q k (o::r) a w:=by
 simp only[lex,step,hw,Bool.false_eq_true,if_false]
 exact h _ fun _ h=>h
theorem lex_pure {v:Value} (hk:kind hs k o=0) (hw:Region.wanted o (yielded ops a.tmps)=true) (hr:∀ w',C w'→(execOp a.eval o).run P w'=.ok (.value v) w')
  (h:∀ K:Act→Prop,(∀ a',lex P ops C hs Q (k+1) r a' w→K a')→K (a.put o.dst v)):lex P ops C hs Q k (o::r) a w:=by
 simp only[lex,step,hw,if_true]
 exact .inl ⟨hk,v,hr,h _ fun _ h=>h⟩
theorem lex_read {v:Value} (hk:kind hs k o=1) (hw:Region.wanted o (yielded ops a.tmps)=true) (hr:(execOp a.eval o).run P w=.ok (.value v) w)
  (h:∀ K:Act→Prop,(∀ a',lex P ops C hs Q (k+1) r a' w→K a')→K (a.put o.dst v)):lex P ops C hs Q k (o::r) a w:=by
 simp only[lex,step,hw,if_true]
 exact .inr (.inl ⟨hk,v,hr,h _ fun _ h=>h⟩)
theorem lex_eff (hk:kind hs k o=2) (hw:Region.wanted o (yielded ops a.tmps)=true)
  (h:∀ K:Act→World→Prop,(∀ a' w',C w'→lex P ops C hs Q (k+1) r a' w'→K a' w')→o.wp P a w K NoQ):lex P ops C hs Q k (o::r) a w:=by
 simp only[lex,step,hw,if_true]
 exact .inr (.inr ⟨hk,h _ fun _ _ h1 h2=>⟨h1,h2⟩⟩)
theorem ln (h:∀ K:Act→Prop,(∀ a',lex P ops C hs Q (k+1) r a' w→K a')→K (a.put o.dst undef)) (hw:Region.wanted o (yielded ops a.tmps)=false:=by first|exact Lx.n1 rfl rfl rfl (by with_reducible rfl) | exact Lx.n0 rfl rfl rfl (by with_reducible rfl) | exact Lx.n2 rfl rfl rfl):lex P ops C hs Q k (o::r) a w:=lex_no hw h
theorem lp {v:Value} (hr:∀ w',C w'→(execOp a.eval o).run P w'=.ok (.value v) w') (h:∀ K:Act→Prop,(∀ a',lex P ops C hs Q (k+1) r a' w→K a')→K (a.put o.dst v)) (hk:kind hs k o=0:=by exact rfl) (hw:Region.wanted o (yielded ops a.tmps)=true:=by first|exact Lx.w0 rfl | exact Lx.w1 rfl rfl rfl (by with_reducible rfl)):lex P ops C hs Q k (o::r) a w:=lex_pure hk hw hr h
theorem lr {v:Value} (hr:(execOp a.eval o).run P w=.ok (.value v) w) (h:∀ K:Act→Prop,(∀ a',lex P ops C hs Q (k+1) r a' w→K a')→K (a.put o.dst v)) (hk:kind hs k o=1:=by exact rfl) (hw:Region.wanted o (yielded ops a.tmps)=true:=by first|exact Lx.w0 rfl | exact Lx.w1 rfl rfl rfl (by with_reducible rfl)):lex P ops C hs Q k (o::r) a w:=lex_read hk hw hr h
theorem le (h:∀ K:Act→World→Prop,(∀ a' w',C w'→lex P ops C hs Q (k+1) r a' w'→K a' w')→o.wp P a w K NoQ) (hk:kind hs k o=2:=by exact rfl) (hw:Region.wanted o (yielded ops a.tmps)=true:=by first|exact Lx.w0 rfl | exact Lx.w1 rfl rfl rfl (by with_reducible rfl)):lex P ops C hs Q k (o::r) a w:=lex_eff hk hw h
end
section
variable {P : Program} {ops : Array Oper} {C : World → Prop} {hs : List Nat} {Q : Act → World → Prop} {k : Nat} {o : Oper} {r : List Oper} {a : Act} {w : World}
theorem lex_cases {j:Nat} {d:Tmp} {b want:Bool} (_:o.guard=some (j,want)) (_:(ops[j]?).bind (·.dst)=some d) (_:a.tmps[d]?=some (.bool b))
  (h1:b=true→∀ K:Act→Prop,(∀ a',lex P ops C hs Q k (o::r) a' w→K a')→K a)
  (h2:b=false→∀ K:Act→Prop,(∀ a',lex P ops C hs Q k (o::r) a' w→K a')→K a):lex P ops C hs Q k (o::r) a w:=by
 cases b
 ·exact h2 rfl _ fun _ h=>h
 ·exact h1 rfl _ fun _ h=>h
end
attribute [irreducible] lex
end Lx
def I64 (n:Int):Prop:=-9223372036854775808≤n∧n≤9223372036854775807
def Row1 {α:Type} (f:α→Value) (w:World) (B:Nat) (A:Option Addr) (n:Nat) (xs:List α):Prop:=
 xs.length=n∧(0<n→∃ b off,A=some ⟨b,off,none⟩∧b<B∧∀ k x,xs[k]?=some x→w.cell? ⟨b,off+k,none⟩=some (f x))
def RowS {α:Type} (sz:Nat) (f:α→Nat→Value) (w:World) (B:Nat) (A:Option Addr) (n:Nat) (xs:List α):Prop:=
 xs.length=n∧(0<n→∃ b off,A=some ⟨b,off,none⟩∧b<B∧∀ k x,xs[k]?=some x→∀ j,j<sz→w.cell? ⟨b,off+k * sz+j,none⟩=some (f x j))
def Eqn {α:Type} (a b:α):Prop:=a=b
theorem Eqn.out {α:Type} {a b:α} (h:Eqn a b):a=b:=h
theorem Eqn.mk {α:Type} {a b:α} (h:a=b):Eqn a b:=h
theorem drop_at {α:Type} {xs:List α} {k:Nat} (h:k<xs.length):∃ x,xs[k]?=some x∧xs.drop k=x::xs.drop (k+1):=
 ⟨xs[k],List.getElem?_eq_getElem h,List.drop_eq_getElem_cons h⟩
theorem drop_end {α:Type} {xs:List α} {k:Nat} (h:xs.length≤k):xs.drop k=[]:=List.drop_eq_nil_of_le h
section
variable {α : Type} {f : α → Value} {g : α → Nat → Value} {sz : Nat} {w w' : World} {B B' : Nat} {A : Option Addr} {n : Nat} {xs : List α}
theorem Row1.below (h:Row1 f w B A n xs) (hb:Below B w w'):Row1 f w' B A n xs:=
 ⟨h.1,fun hn=>by
  obtain⟨b,off,e,hlt,hc⟩:=h.2 hn
  exact⟨b,off,e,hlt,fun k x hx=>(hb.cell (p:=⟨b,off+k,none⟩) hlt).trans (hc k x hx)⟩⟩
theorem RowS.below (h:RowS sz g w B A n xs) (hb:Below B w w'):RowS sz g w' B A n xs:=
 ⟨h.1,fun hn=>by
  obtain⟨b,off,e,hlt,hc⟩:=h.2 hn
  exact⟨b,off,e,hlt,fun k x hx j hj=>(hb.cell (p:=⟨b,off+k * sz+j,none⟩) hlt).trans (hc k x hx j hj)⟩⟩
theorem Row1.up (h:Row1 f w B A n xs) (hB:B≤B'):Row1 f w B' A n xs:=
 ⟨h.1,fun hn=>by
  obtain⟨b,off,e,hlt,hc⟩:=h.2 hn
  exact⟨b,off,e,Nat.lt_of_lt_of_le hlt hB,hc⟩⟩
theorem RowS.up (h:RowS sz g w B A n xs) (hB:B≤B'):RowS sz g w B' A n xs:=
 ⟨h.1,fun hn=>by
  obtain⟨b,off,e,hlt,hc⟩:=h.2 hn
  exact⟨b,off,e,Nat.lt_of_lt_of_le hlt hB,hc⟩⟩
theorem Row1.keep (h:Row1 f w w.heap.size A n xs) (hb:Below w.heap.size w w'):Row1 f w' w'.heap.size A n xs:=(h.below hb).up hb.size
theorem RowS.keep (h:RowS sz g w w.heap.size A n xs) (hb:Below w.heap.size w w'):RowS sz g w' w'.heap.size A n xs:=(h.below hb).up hb.size
theorem Row1.nil (f:α→Value) (w:World) (B:Nat) (A:Option Addr):Row1 f w B A 0 []:=⟨rfl,fun h=>absurd h (by omega)⟩
theorem RowS.nil (sz:Nat) (g:α→Nat→Value) (w:World) (B:Nat) (A:Option Addr):RowS sz g w B A 0 []:=⟨rfl,fun h=>absurd h (by omega)⟩
end
theorem ret_int {k:IntKind} {a b:Int} (h:a=b):Ending.returned (.int k a)=.returned (.int k b):=by rw[h]
theorem ret_bool {a b:Bool} (h:a=b):Ending.returned (.bool a)=.returned (.bool b):=by rw[h]
def flat {α:Type} (sz:Nat) (f:α→Nat→Value) (xs:List α):List Value:=xs.flatMap fun x=>(List.range sz).map (f x)
theorem flat_at {α:Type} (sz:Nat) (f:α→Nat→Value) (xs:List α):∀(k:Nat) (x:α),xs[k]?=some x→∀ j,j<sz→(flat sz f xs)[k * sz+j]?=some (f x j):=by
 unfold flat
 induction xs with
 | nil=>intro k x hx;simp at hx
 | cons y ys ih=>
  intro k x hx j hj
  rw[List.flatMap_cons]
  cases k with
  | zero=>
   simp at hx
   subst hx
   rw[List.getElem?_append_left (by simpa using hj)]
   simp[hj]
  | succ k=>
   simp at hx
   rw[List.getElem?_append_right (by simp[Nat.succ_mul];omega)]
   have:=ih k x hx j hj
   rw[show (k+1) * sz+j - ((List.range sz).map (f y)).length=k * sz+j by simp[Nat.succ_mul];omega]
   exact this
theorem row1_new {α:Type} (w:World) (f:α→Value) (t:TypeId) (xs:List α):Row1 f (w.alloc (.cells (xs.map f).toArray t)) (w.heap.size+1) (some ⟨w.heap.size,0,none⟩) xs.length xs:=by
 refine⟨rfl,fun _=>⟨w.heap.size,0,rfl,by omega,fun k x hx=>?_⟩⟩
 have hh:(w.alloc (.cells (xs.map f).toArray t)).heap[w.heap.size]?=some (.cells (xs.map f).toArray t (0,0)):=heap_alloc_new w _
 simp only[World.cell?,hh]
 simp[hx]
namespace Lx
variable {P : Program} {ops : Array Oper} {C : World → Prop} {hs : List Nat} {Q : Act → World → Prop} {k : Nat} {o : Oper} {r : List Oper} {a : Act} {w : World}
theorem lex_append (hk:kind hs k o=2) (hgd:o.guard=none) (s x:Operand) (t:TypeId)
  (ho:o.op=.call { callee:=.builtin .append,args:=#[s,x],argTypes:=#[t,t] })
  (base:Nat) (e:TypeId) (i:TypeInfo) (z:Value) (size bytes:Nat) (ht:P.underlying t=some (.slice e)) (hi:P.info? e=some i) (hz:i.zero=some z)
  (hsize:i.size=size) (hby:i.bytes=bytes) (hzs:z.cells.size=size) (hsz:0<size)
  (v:Value) (n:Nat) (xs:List Value) (hsv:a.eval s=v) (hown:w.ownsRow base e size v n xs)
  (ad:Addr) (m c:Nat) (news:List Value) (hx:a.eval x=.slice (some ad) m c) (hl:news.length=m * size) (hnews:∀ j u,news[j]?=some u→w.cell? (ad.add j)=some u) (h1:∀ u∈news,u.oneCell'=true)
  (h63:n+m≤maxLen) (hbytes:(n+m) * bytes≤140737488355328) (hbase:base≤w.heap.size)
  (h:∀ v' w',w'.ownsRow base e size v' (n+m) (xs++news)→w.grownBy w' v.ownBlock→(v'.ownBlock=v.ownBlock∨v'.ownBlock=some w.heap.size)→C w'∧lex P ops C hs Q (k+1) r (a.put o.dst v') w'):
  lex P ops C hs Q k (o::r) a w:=by
 refine lex_eff hk (w0 hgd) fun K hK=>?_
 obtain⟨v',w',hr,h2,h3,_,h5⟩:=run_append_own_at (P:=P) w base t o.type e i z size bytes ht hi hz hsize hby hzs hsz v n xs hown ad m c news hl hnews h1 h63 hbytes hbase
 unfold Oper.wp execOp
 simp only[ho,resolve,invoke,builtin,Sem.run_bind,Sem.run_pure,Result.andThen_ok,List.map_toArray,List.map_cons,List.map_nil,hsv,hx,hr]
 exact hK _ _ (h v' w' h2 h3 h5).1 (h v' w' h2 h3 h5).2
end Lx
theorem made_zeros {w:World} {base e g n:Nat} {f:Int→Value} (hf:f 0=.int .i64 0) (h:w.ownsRow base e 1 (.slice (some ⟨g,0,none⟩) n n) n (madeCells (Value.int .i64 0).cells (n * 1)).toList):w.ownsRow base e 1 (.slice (some ⟨g,0,none⟩) n n) n ((List.replicate n (0:Int)).map f):=by
 rw[Nat.mul_one,show (Value.int .i64 0).cells=#[.int .i64 0] from rfl,toList_madeCells_one] at h
 rw[List.map_replicate,hf]
 exact h
theorem own_cell {w:World} {base e g n cap k:Nat} {xs:List Value} (h:w.ownsRow base e 1 (.slice (some ⟨g,0,none⟩) n cap) n xs) (hk:k<n):∃ u,w.cell? ⟨g,k,none⟩=some u:=by
 have h1:=h.cellAt k (by omega)
 have hl:k<xs.length:=by rw[h.1];omega
 exact⟨_,h1.trans (List.getElem?_eq_getElem hl)⟩
theorem fill_set {α:Type} (z:α) (xs:List α) (n k:Nat) (y:α) (hn:xs.length=n) (hy:xs[k]?=some y):(xs.take k++List.replicate (n - k) z).set k y=xs.take (k+1)++List.replicate (n - (k+1)) z:=by
 have hk:k<xs.length:=(List.getElem?_eq_some_iff.1 hy).1
 have hk2:n - k=(n - (k+1))+1:=by omega
 rw[List.set_append_right _ _ (by simp;omega),List.length_take,Nat.min_eq_left (by omega),Nat.sub_self,hk2,List.replicate_succ,List.set_cons_zero,List.take_add_one,hy]
 simp
end Go.Proofs.YtjakdikhdndlgaaGreatDoor
namespace Go.Proofs.YtjakdikhdndlgaaGreatDoor
open Go.RowKit
def intV (n:Int):Value:=.int .i64 n
def Blk (w:World) (g t:Nat) (s:List Value):Prop:=w.heap[g]?=some (.cells s.toArray t (0,0))
section
variable {w w' : World} {g t : Nat} {s : List Value}
theorem Blk.lt (h:Blk w g t s):g<w.heap.size:=by
 rcases Nat.lt_or_ge g w.heap.size with hlt | hge
 ·exact hlt
 ·unfold Blk at h;rw[Array.getElem?_eq_none hge] at h;cases h
theorem Blk.cell (h:Blk w g t s) {i:Nat} {x:Value} (hx:s[i]?=some x):w.cell? ⟨g,i,none⟩=some x:=by
 unfold Blk at h
 simp[World.cell?,h,hx]
theorem Blk.frozen (h:Blk w g t s) (i:Nat):w.frozen? ⟨g,i,none⟩=false:=by
 unfold Blk at h
 simp[World.frozen?,h]
theorem Blk.set_ (h:Blk w g t s) (i:Nat) (x:Value):Blk (w.setCell ⟨g,i,none⟩ x) g t (s.set i x):=by
 unfold Blk at h ⊢
 simp[World.setCell,Array.getElem?_modify,h]
theorem Blk.alloc (h:Blk w g t s) (o:Obj):Blk (w.alloc o) g t s:=(Below.heap_alloc w o g h.lt).trans h
theorem Blk.keep (h:Blk w g t s) (hb:Below w.heap.size w w'):Blk w' g t s:=(hb.block g h.lt).trans h
theorem Blk.keepB {B:Nat} (h:Blk w g t s) (hb:Below B w w') (hg:g<B):Blk w' g t s:=(hb.block g hg).trans h
theorem Blk.other (h:Blk w g t s) (a:Addr) (v:Value) (ha:a.block≠g):Blk (w.setCell a v) g t s:=
 (Below.heap_setCell _ _ _ _ (fun e=>ha e.symm)).trans h
theorem Blk.drew (h:Blk w g t s):Blk w.drew g t s:=h
theorem blk_new (w:World) (s:List Value) (t:Nat):Blk (w.alloc (.cells s.toArray t)) w.heap.size t s:=heap_alloc_new w _
end
def tabL (n:Nat) (f:Nat→Value):List Value:=(List.range n).map f
theorem tabL_at {n:Nat} {f:Nat→Value} {i:Nat} (h:i<n):(tabL n f)[i]?=some (f i):=by simp[tabL,h]
theorem tabL_set (n:Nat) (f:Nat→Value) (i:Nat) (v:Value):(tabL n f).set i v=tabL n (fun j=>if j=i then v else f j):=by
 apply List.ext_getElem?
 intro j
 rw[List.getElem?_set]
 by_cases e:i=j
 ·subst e
  by_cases hj:i<n
  ·simp[tabL,hj]
  ·simp[tabL,hj]
 ·rw[if_neg e]
  by_cases hj:j<n
  ·simp[tabL,hj,Ne.symm e]
  ·simp[tabL,hj]
theorem tabL_congr {n:Nat} {f g:Nat→Value} (h:∀ i,i<n→f i=g i):tabL n f=tabL n g:=List.map_congr_left fun i hi=>h i (List.mem_range.1 hi)
theorem Blk.tab {w:World} {g t n:Nat} {f f':Nat→Value} (h:Blk w g t (tabL n f)) (he:∀ i,i<n→f i=f' i):Blk w g t (tabL n f'):=by rw[←tabL_congr he];exact h
theorem blk_of_own {w:World} {base e g n size:Nat} {xs:List Value} (h:w.ownsRow base e size (.slice (some ⟨g,0,none⟩) n n) n xs):Blk w g e xs∧base≤g:=by
 rcases h.2 with ⟨h1,_⟩ | ⟨g',cap,cur,h1,h2,h3,h4,h5,h6,h7⟩
 ·cases h1
 ·injection h1 with h1 h1n h1c
  injection h1 with h1
  injection h1 with h1
  subst h1
  subst h1c
  refine⟨?_,h2⟩
  unfold Blk
  rw[h3]
  have hl:=h.1
  have:cur=xs.toArray:=by
   apply Array.toList_inj.1
   rw[←h7,List.take_of_length_le]
   rw[Array.length_toList,h6]
   exact Nat.le_refl _
  rw[this]
def RetPost (v:Value) (B:Nat) (w:World) (e:Ending) (w':World):Prop:=e=.returned v∧Below B w w'
theorem int_info:(Tryz.prog.info? 3).map (fun i=>(i.zero,i.size,i.bytes))=some (some (.int .i64 0),1,8):=by kernel_rfl
theorem row1_of_own {α:Type} {f:α→Value} {w:World} {base:Nat} {e:TypeId} {v:Value} {n:Nat} {xs:List α} (h:w.ownsRow base e 1 v n (xs.map f)):
  ∃ A c,v=.slice A n c∧Row1 f w w.heap.size A n xs:=by
 have hl:xs.length=n:=by have:=h.1;simpa using this
 rcases h.2 with ⟨rfl,rfl⟩ | ⟨g,cap,cur,rfl,hb,hh,hnc,hm,hsz,ht⟩
 ·exact⟨none,0,rfl,hl,fun hn=>absurd hn (by omega)⟩
 ·refine⟨_,cap,rfl,hl,fun hn=>⟨g,0,rfl,?_,fun k x hx=>?_⟩⟩
  ·rcases Nat.lt_or_ge g w.heap.size with h1 | h1
   ·exact h1
   ·rw[Array.getElem?_eq_none h1] at hh;cases hh
  ·have h2:=h.cells (g:=g) rfl k (f x) (by simp[hx])
   by_cases hk:k=0
   ·subst hk;simpa[Addr.add] using h2
   ·simpa[Addr.add,hk] using h2
theorem own_ge {w:World} {base:Nat} {e:TypeId} {size n:Nat} {v:Value} {xs:List Value} (h:w.ownsRow base e size v n xs):∀ g,v.ownBlock=some g→base≤g:=by
 intro g hg
 rcases h.2 with ⟨rfl,_⟩ | ⟨g',cap,cur,rfl,hb,_⟩
 ·simp[Value.ownBlock] at hg
 ·simp[Value.ownBlock] at hg
  omega
def NewInts (xs:List Int) (w:World) (e:Ending) (w':World):Prop:=∃ v,e=.returned v∧w'.ownsRow w.heap.size 3 1 v xs.length (xs.map intV)∧Below w.heap.size w w'
section
variable {P : Program}
theorem run_append_row {α:Type} {f:α→Value} (hf:∀ a,(f a).oneCell'=true) (w:World) (base:Nat) (t ty e:TypeId) (i:TypeInfo) (z:Value) (bytes:Nat) (ht:P.underlying t=some (.slice e)) (hi:P.info? e=some i) (hz:i.zero=some z)
  (hsize:i.size=1) (hby:i.bytes=bytes) (hzs:z.cells.size=1) (v:Value) (n:Nat) (xs:List Value) (hown:w.ownsRow base e 1 v n xs) (A:Option Addr) (m c:Nat) (ys:List α) (D:Nat) (hy:Row1 f w D A m ys)
  (h63:n+m≤maxLen) (hbytes:(n+m) * bytes≤140737488355328) (hbase:base≤w.heap.size):
  ∃ v' w',(Builtin.append_ #[t,t] ty #[v,.slice A m c]).run P w=.ok v' w'∧w'.ownsRow base e 1 v' (n+m) (xs++ys.map f)∧w.grownBy w' v.ownBlock∧(v'.ownBlock=v.ownBlock∨v'.ownBlock=some w.heap.size):=by
 cases A with
 | none=>
  have hn0:m=0:=by
   rcases Nat.eq_zero_or_pos m with h | h
   ·exact h
   ·obtain⟨_,_,h1,_⟩:=hy.2 h;cases h1
  have hxs:ys=[]:=List.eq_nil_of_length_eq_zero (by have:=hy.1;omega)
  subst hn0 hxs
  refine⟨v,w,?_,by simpa using hown,⟨rfl,rfl,rfl,Nat.le_refl _,fun _ _ _=>rfl⟩,.inl rfl⟩
  rcases hown.2 with ⟨rfl,rfl⟩ | ⟨g,cap,cur,rfl,hbg,hg,hnc,hcm,hcs,htake⟩
  ·simp[Builtin.append_,run_underlying ht,sizeOf,typeInfo,hi,Builtin.lenOf,Builtin.firstCells]
  ·simp[Builtin.append_,run_underlying ht,sizeOf,typeInfo,hi,Builtin.lenOf,Builtin.firstCells,loadCells,storeCells,hnc]
 | some ad=>
  have hlen:=hy.1
  have hcells:∀ j u,(ys.map f)[j]?=some u→w.cell? (ad.add j)=some u:=by
   intro j u hu
   rcases Nat.eq_zero_or_pos m with h | h
   ·have hxs:ys=[]:=List.eq_nil_of_length_eq_zero (by omega)
    subst hxs
    simp at hu
   ·obtain⟨b,off,h1,_,h3⟩:=hy.2 h
    injection h1 with h1
    subst h1
    rw[List.getElem?_map] at hu
    cases hk:ys[j]? with
    | none=>rw[hk] at hu;cases hu
    | some x=>
     rw[hk] at hu
     injection hu with hu
     subst hu
     have:=h3 j x hk
     unfold Addr.add
     by_cases hj:j=0
     ·subst hj;simpa using this
     ·rw[if_neg hj];exact this
  obtain⟨v',w',hr,h2,h3,_,h5⟩:=run_append_own_at (P:=P) w base t ty e i z 1 bytes ht hi hz hsize hby hzs (by decide) v n xs hown ad m c (ys.map f) (by simp[hlen]) hcells
   (by intro u hu;obtain⟨y,_,rfl⟩:=List.mem_map.1 hu;exact hf y) h63 hbytes hbase
  exact⟨v',w',hr,h2,h3,h5⟩
theorem wpList_append_row {w:World} {ops:Array Oper} {rest:List Oper} {o:Oper} {a:Act} {Q:Exit→Act→World→Prop} (hgd:o.guard=none) (s x:Operand) (t:TypeId)
  (ho:o.op=.call { callee:=.builtin .append,args:=#[s,x],argTypes:=#[t,t] })
  {α:Type} {f:α→Value} (hf:∀ a,(f a).oneCell'=true) (base:Nat) (e:TypeId) (i:TypeInfo) (z:Value) (bytes:Nat) (ht:P.underlying t=some (.slice e)) (hi:P.info? e=some i) (hz:i.zero=some z)
  (hsize:i.size=1) (hby:i.bytes=bytes) (hzs:z.cells.size=1)
  (v:Value) (n:Nat) (xs:List Value) (hs:a.eval s=v) (hown:w.ownsRow base e 1 v n xs) (A:Option Addr) (m c:Nat) (ys:List α) (D:Nat) (hx:a.eval x=.slice A m c) (hy:Row1 f w D A m ys)
  (h63:n+m≤maxLen) (hbytes:(n+m) * bytes≤140737488355328) (hbase:base≤w.heap.size)
  (h:∀ v' w',w'.ownsRow base e 1 v' (n+m) (xs++ys.map f)→w.grownBy w' v.ownBlock→(v'.ownBlock=v.ownBlock∨v'.ownBlock=some w.heap.size)→wpList P ops Q rest (a.put o.dst v') w'):
  wpList P ops Q (o::rest) a w:=by
 refine wpList_plain hgd fun K hK=>?_
 obtain⟨v',w',hr,h2,h3,h5⟩:=run_append_row (P:=P) hf w base t o.type e i z bytes ht hi hz hsize hby hzs v n xs hown A m c ys D hy h63 hbytes hbase
 unfold Oper.wp execOp
 simp only[ho,resolve,invoke,builtin,Sem.run_bind,Sem.run_pure,Result.andThen_ok,List.map_toArray,List.map_cons,List.map_nil,hs,hx,hr]
 exact hK _ _ (h v' w' h2 h3 h5)
end
theorem intV_one (a:Int):(intV a).oneCell'=true:=rfl
theorem row1_add {w:World} {D:Nat} {A:Option Addr} {n:Nat} {xs:List Int} (h:Row1 intV w D A n xs) (hD:D≤w.heap.size) (o:Obj):Row1 intV (w.alloc o) D A n xs:=h.below ((Below.refl _ _).alloc hD _)
theorem own_congr {w w':World} {base e size n:Nat} {v:Value} {xs:List Value} (h:w.ownsRow base e size v n xs) (hh:∀ g,base≤g→g<w.heap.size→w'.heap[g]?=w.heap[g]?):w'.ownsRow base e size v n xs:=by
 refine⟨h.1,h.2.imp id ?_⟩
 rintro⟨g,cap,cur,rfl,h1,h2,h3⟩
 refine⟨g,cap,cur,rfl,h1,?_,h3⟩
 rw[hh g h1 ?_,h2]
 rcases Nat.lt_or_ge g w.heap.size with h4 | h4
 ·exact h4
 ·rw[Array.getElem?_eq_none h4] at h2;cases h2
theorem own_set {w:World} {base e size n:Nat} {v:Value} {xs:List Value} (h:w.ownsRow base e size v n xs) {a:Addr} (ha:a.block<base) (u:Value):(w.setCell a u).ownsRow base e size v n xs:=
 own_congr h fun g hg _=>Go.Deep.blk_setCell_other _ _ _ _ (by omega)
theorem own_low {w:World} {base base' e size n:Nat} {v:Value} {xs:List Value} (h:w.ownsRow base e size v n xs) (hb:base'≤base):w.ownsRow base' e size v n xs:=by
 refine⟨h.1,h.2.imp id ?_⟩
 rintro⟨g,cap,cur,rfl,h1,h2⟩
 exact⟨g,cap,cur,rfl,Nat.le_trans hb h1,h2⟩
theorem own_keep {w w':World} {base e size n:Nat} {v:Value} {xs:List Value} (h:w.ownsRow base e size v n xs) (hb:Below w.heap.size w w'):w'.ownsRow base e size v n xs:=
 own_congr h fun g _ hg=>hb.block g hg
theorem own_form {w:World} {base e n:Nat} {v:Value} {xs:List Int} (h:w.ownsRow base e 1 v n (xs.map intV)):∃ A c,v=.slice A n c∧Row1 intV w w.heap.size A n xs∧(∀ a,A=some a→base≤a.block∧a.block<w.heap.size∧a.spot=none∧a.off=0∧w.frozen? a=false):=by
 obtain⟨A,c,rfl,hr⟩:=row1_of_own h
 refine⟨A,c,rfl,hr,?_⟩
 rintro a rfl
 rcases h.2 with ⟨h1,_⟩ | ⟨g,cap,cur,h1,h2,h3,_⟩
 ·cases h1
 ·injection h1 with h1 _ _
  injection h1 with h1
  subst h1
  refine⟨h2,?_,rfl,rfl,?_⟩
  ·rcases Nat.lt_or_ge g w.heap.size with h4 | h4
   ·exact h4
   ·rw[Array.getElem?_eq_none h4] at h3;cases h3
  ·simp[World.frozen?,h3]
def ListPost (r:List Int×Int) (w:World) (e:Ending) (w':World):Prop:=
 ∃ v,e=.returned (.tuple #[v,.int .i64 r.2])∧w'.ownsRow w.heap.size 3 1 v r.1.length (r.1.map intV)∧Below w.heap.size w w'
def v2 (x:Int×Int):Value:=.tuple #[.int .i64 x.1,.int .i64 x.2]
def v3 (x:Int×Int×Int):Value:=.tuple #[.int .i64 x.1,.int .i64 x.2.1,.int .i64 x.2.2]
theorem own_formS {α:Type} {sz:Nat} {f:α→Nat→Value} {w:World} {base e n:Nat} {v:Value} {xs:List α} (hsz:0<sz) (h:w.ownsRow base e sz v n (flat sz f xs)):∃ A c,v=.slice A n c∧RowS sz f w w.heap.size A n xs:=by
 have hfl:∀ ys:List α,(flat sz f ys).length=ys.length * sz:=by
  intro ys
  induction ys with
  | nil=>simp[flat]
  | cons y ys ih=>
   have:flat sz f (y::ys)=(List.range sz).map (f y)++flat sz f ys:=rfl
   rw[this,List.length_append,ih,List.length_cons,Nat.succ_mul];simp;omega
 have hl:xs.length=n:=by
  have:=h.1;rw[hfl] at this;exact Nat.eq_of_mul_eq_mul_right hsz this
 rcases h.2 with ⟨rfl,rfl⟩ | ⟨g,cap,cur,rfl,hb,hh,hnc,hm,hs,ht⟩
 ·exact⟨none,0,rfl,hl,fun hn=>absurd hn (by omega)⟩
 ·refine⟨_,cap,rfl,hl,fun hn=>⟨g,0,rfl,?_,fun k x hx j hj=>?_⟩⟩
  ·rcases Nat.lt_or_ge g w.heap.size with h1 | h1
   ·exact h1
   ·rw[Array.getElem?_eq_none h1] at hh;cases hh
  ·have hk:k<n:=by rw[←hl];exact(List.getElem?_eq_some_iff.1 hx).1
   have h2:k * sz+j<n * sz:=by
    have:=Nat.mul_le_mul_right sz (show k+1≤n from hk)
    rw[Nat.succ_mul] at this;omega
   have h3:=h.cellAt (k * sz+j) h2
   rw[Nat.zero_add,h3]
   exact flat_at sz f xs k x hx j hj
theorem flat_snoc {α:Type} (sz:Nat) (f:α→Nat→Value) (xs:List α) (x:α):flat sz f (xs++[x])=flat sz f xs++(List.range sz).map (f x):=by
 simp[flat]
namespace Ay
variable {P : Program} {ops : Array Oper} {Q : Exit → Act → World → Prop}
theorem count_set {l:List Bool} {j:Nat} (h:l[j]?=some false):(l.set j true).count false+1=l.count false:=by
 induction l generalizing j with
 | nil=>simp at h
 | cons x l ih=>
  cases j with
  | zero=>
   simp at h
   subst h
   simp
  | succ j=>
   simp at h
   have:=ih h
   rw[List.set_cons_succ,List.count_cons,List.count_cons]
   omega
theorem any_inv (Inv:Array Bool→Act→World→Prop)
  (hend:∀(listed:Array Bool) a w,listed.size=ops.size→Region.ready .any ops listed=[]→Inv listed a w→Q .normal a w)
  (hstep:∀(listed:Array Bool) a w j o,ops[j]?=some o→listed.getD j true=false→(∀ e∈o.after,Region.binds .any e=true→listed.getD e.on false=true)→listed.size=ops.size→Inv listed a w →
   Region.wanted o (yielded ops a.tmps)=true∧o.wp P a w (fun a' w'=>Inv (listed.setIfInBounds j true) a' w') Q):
  ∀(fuel:Nat) (listed:Array Bool) (a:Act) (w:World),listed.size=ops.size→listed.toList.count false=fuel→Inv listed a w→wpAny P .any ops Q fuel listed a w:=by
 intro fuel
 induction fuel with
 | zero=>
  intro listed a w hs hc hI
  have hr:Region.ready .any ops listed=[]:=by
   cases hr:Region.ready .any ops listed with
   | nil=>rfl
   | cons x xs=>
    have hx:x∈Region.ready .any ops listed:=by rw[hr];simp
    obtain⟨h1,o,ho,_⟩:=mem_ready.1 hx
    have hlt:x<listed.size:=by rw[hs];exact(Array.getElem?_eq_some_iff.1 ho).1
    have h2:listed.toList[x]?=some false:=by
     rw[Array.getElem?_toList,Array.getElem?_eq_getElem hlt]
     simp only[Array.getD_eq_getD_getElem?,Array.getElem?_eq_getElem hlt,Option.getD_some] at h1
     rw[h1]
    have:=List.count_pos_iff.2 (List.mem_of_getElem? h2)
    omega
  exact⟨hr,hend _ _ _ hs hr hI⟩
 | succ fuel ih=>
  intro listed a w hs hc hI
  refine⟨fun hr=>hend _ _ _ hs hr hI,fun j hj=>?_⟩
  obtain⟨h1,o,ho,h2⟩:=mem_ready.1 hj
  obtain⟨hw,h3⟩:=hstep listed a w j o ho h1 h2 hs hI
  have hlt:j<listed.size:=by rw[hs];exact(Array.getElem?_eq_some_iff.1 ho).1
  unfold wpOp
  simp only[ho,hw,if_true]
  left
  refine Oper.wp_mono (fun a' w' h=>ih _ a' w' (by simp[hs]) ?_ h) h3
  have h4:listed.toList[j]?=some false:=by
   rw[Array.getElem?_toList,Array.getElem?_eq_getElem hlt]
   simp only[Array.getD_eq_getD_getElem?,Array.getElem?_eq_getElem hlt,Option.getD_some] at h1
   rw[h1]
  have:=count_set h4
  rw[Array.toList_setIfInBounds]
  omega
theorem region {id:Nat} {a:Act} {w:World} (hm:P.follows .mixedOrders=true) (Inv:Array Bool→Act→World→Prop) (h0:Inv (Array.replicate ops.size false) a w.drew)
  (hend:∀(listed:Array Bool) a w,listed.size=ops.size→Region.ready .any ops listed=[]→Inv listed a w→Q .normal a w)
  (hstep:∀(listed:Array Bool) a w j o,ops[j]?=some o→listed.getD j true=false→(∀ e∈o.after,Region.binds .any e=true→listed.getD e.on false=true)→listed.size=ops.size→Inv listed a w →
   Region.wanted o (yielded ops a.tmps)=true∧o.wp P a w (fun a' w'=>Inv (listed.setIfInBounds j true) a' w') Q):
  (Code.region id ops true).wp P Q a w:=by
 refine wp_region_any hm ?_
 exact any_inv Inv hend hstep _ _ a _ (by simp) (by simp) h0
end Ay
end Go.Proofs.YtjakdikhdndlgaaGreatDoor
namespace Go.Proofs.YtjakdikhdndlgaaGreatDoor
open Go.RowKit
section
variable {P : Program} {κ : Type} [DecidableEq κ]
structure KeyOk (P:Program) (kt:TypeId) (enc:κ→Value):Prop where
 under:∃ d,P.underlying kt=some d∧∀ x y,Instr.sameNow d (enc x) (enc y)=none
 check:∀ w em x,(Instr.checkKey em 10000 kt (enc x)).run P w=.ok () w
 eq:∀ w x y,(Op.equal kt (enc x) (enc y)).run P w=.ok (decide (x=y)) w
 same:∀ x,Instr.sameBits 10000 (enc x) (enc x)=true
def findI (x:κ):List (κ×Value)→Nat→Option (Nat×Value)
 | [],_=>none
 | p::r,i=>if x=p.1 then some (i,p.2) else findI x r (i+1)
def lookL (x:κ):List (κ×Value)→Option Value
 | []=>none
 | p::r=>if x=p.1 then some p.2 else lookL x r
theorem findI_look (x:κ):∀(L:List (κ×Value)) (i:Nat),(findI x L i).map (·.2)=lookL x L:=by
 intro L
 induction L with
 | nil=>intro i;rfl
 | cons p r ih=>intro i;rw[findI,lookL];split<;>simp[ih]
def Reads (enc:κ→Value) (es:List MapEntry) (L:List (κ×Value)):Prop:=es.map (fun e=>(e.key,e.val))=L.map (fun p=>(enc p.1,p.2))
theorem run_asking {kt:TypeId} {enc:κ→Value} (K:KeyOk P kt enc) (w:World) (x:κ):∀(es:List MapEntry) (L:List (κ×Value)) (i:Nat),Reads enc es L→(Instr.findAsking kt (enc x) es i).run P w=.ok (findI x L i) w:=by
 intro es
 induction es with
 | nil=>
  intro L i h
  cases L with
  | nil=>simp[Instr.findAsking,findI]
  | cons=>simp[Reads] at h
 | cons e es ih=>
  intro L i h
  cases L with
  | nil=>simp[Reads] at h
  | cons p r=>
   simp only[Reads,List.map_cons,List.cons.injEq,Prod.mk.injEq] at h
   obtain⟨⟨hk,hv⟩,hr⟩:=h
   rw[Instr.findAsking,Sem.run_bind,hk,K.eq,Result.andThen_ok,findI]
   by_cases hx:x=p.1
   ·simp[hx,hv]
   ·simp only[hx,decide_false,Bool.false_eq_true,if_false]
    exact ih r (i+1) hr
theorem run_find {kt:TypeId} {enc:κ→Value} (K:KeyOk P kt enc) (w:World) (x:κ) (es:List MapEntry) (L:List (κ×Value)) (h:Reads enc es L):(Instr.findKey kt (enc x) es).run P w=.ok (findI x L 0) w:=by
 obtain⟨d,hd,hn⟩:=K.under
 unfold Instr.findKey
 rw[Sem.run_bind,run_underlying hd,Result.andThen_ok]
 cases es with
 | nil=>
  cases L with
  | nil=>simp[Instr.findNow,findI]
  | cons=>simp[Reads] at h
 | cons e es=>
  cases L with
  | nil=>simp[Reads] at h
  | cons p r=>
   have h':=h
   simp only[Reads,List.map_cons,List.cons.injEq,Prod.mk.injEq] at h'
   rw[Instr.findNow,h'.1.1,hn]
   exact run_asking K w x _ _ 0 h
def MapF (enc:κ→Value) (w:World) (b:Nat) (f:κ→Option Value):Prop:=
 ∃ es clock L,w.heap[b]?=some (.map es clock)∧Reads enc es.toList L∧∀ y,lookL y L=f y
theorem MapF.lt {enc:κ→Value} {w:World} {b:Nat} {f:κ→Option Value} (h:MapF enc w b f):b<w.heap.size:=by
 obtain⟨es,cl,L,hb,_⟩:=h
 rcases Nat.lt_or_ge b w.heap.size with h1 | h1
 ·exact h1
 ·rw[Array.getElem?_eq_none h1] at hb;cases hb
theorem MapF.congr {enc:κ→Value} {w w':World} {b:Nat} {f:κ→Option Value} (h:MapF enc w b f) (hb:w'.heap[b]?=w.heap[b]?):MapF enc w' b f:=by
 obtain⟨es,cl,L,h1,h2⟩:=h
 exact⟨es,cl,L,by rw[hb];exact h1,h2⟩
theorem MapF.below {enc:κ→Value} {w w':World} {B b:Nat} {f:κ→Option Value} (h:MapF enc w b f) (hb:Below B w w') (hB:b<B):MapF enc w' b f:=h.congr (hb.block b hB)
theorem MapF.alloc {enc:κ→Value} {w:World} {b:Nat} {f:κ→Option Value} (h:MapF enc w b f) (o:Obj):MapF enc (w.alloc o) b f:=
 h.congr (Below.heap_alloc _ _ _ h.lt)
theorem MapF.grown {enc:κ→Value} {w w':World} {b:Nat} {f:κ→Option Value} {row:Option Nat} (h:MapF enc w b f) (hg:w.grownBy w' row) (hne:row≠some b):MapF enc w' b f:=
 h.congr (hg.block b h.lt (fun e=>hne e.symm))
theorem MapF.made (enc:κ→Value) (w:World):MapF enc (w.alloc (.map #[] 0)) w.heap.size (fun _=>none):=
 ⟨#[],0,[],heap_alloc_new w _,rfl,fun _=>rfl⟩
theorem findI_at (x:κ):∀(L:List (κ×Value)) (i j:Nat) (v:Value),findI x L i=some (j,v)→i≤j∧∃ p,L[j - i]?=some p∧p.1=x∧∀ u y,lookL y (L.set (j - i) (x,u))=if y=x then some u else lookL y L:=by
 intro L
 induction L with
 | nil=>intro i j v h;cases h
 | cons p r ih=>
  intro i j v h
  rw[findI] at h
  split at h
  ·rename_i hx
   injection h with h
   injection h with h1 h2
   subst h1
   refine⟨Nat.le_refl _,p,by simp,hx.symm,fun u y=>?_⟩
   rw[Nat.sub_self,List.set_cons_zero,lookL,lookL]
   dsimp only
   by_cases hy:y=x
   ·simp[hy]
   ·rw[if_neg hy,if_neg hy,if_neg (by rw[←hx];exact hy)]
  ·rename_i hx
   obtain⟨h1,q,h2,h3,h4⟩:=ih (i+1) j v h
   have hj:j - i=(j - (i+1))+1:=by omega
   refine⟨by omega,q,by rw[hj];simpa using h2,h3,fun u y=>?_⟩
   rw[hj,List.set_cons_succ,lookL,lookL,h4]
   by_cases hy:y=x
   ·subst hy;simp[hx]
   ·simp[hy]
theorem findI_none (x:κ):∀(L:List (κ×Value)) (i:Nat),findI x L i=none→∀ u y,lookL y (L++[(x,u)])=if y=x then some u else lookL y L:=by
 intro L
 induction L with
 | nil=>intro i _ u y;simp[lookL]
 | cons p r ih=>
  intro i h u y
  rw[findI] at h
  split at h
  ·cases h
  ·rename_i hx
   rw[List.cons_append,lookL,lookL,ih (i+1) h]
   by_cases hy:y=x
   ·subst hy;simp[hx]
   ·simp[hy]
end
end Go.Proofs.YtjakdikhdndlgaaGreatDoor
