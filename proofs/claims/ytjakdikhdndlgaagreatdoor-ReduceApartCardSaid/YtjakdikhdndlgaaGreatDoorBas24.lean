/- The set of the vertices to which the arcs of a graph lead,in plain Lean,and tools of the walk of reach. -/
import Derived.OrdersIn
import Derived.Test.YtjakdikhdndlgaaGreatDoorBas12
set_option maxRecDepth 100000
namespace Go.Proofs.YtjakdikhdndlgaaGreatDoor
open Go.RowKit
namespace Lx
theorem wpIn_of_wp {P:Program} {l n:Nat} {o:Oper} {a:Act} {w:World} {K:Act→World→Prop} {Q Q':Exit→Act→World→Prop} (hnd:∀ c,o.op≠.defer c) (hQ:∀ e a w,Q e a w→e=.normal) (h:o.wp P a w K Q):o.wpIn (Fence.wide.inRound l) n P a w K Q':=by
 unfold Oper.wpIn
 refine⟨fun _ _=>trivial,?_⟩
 rw[Oper.semAt_eq _ _ _ hnd]
 unfold Oper.wp at h
 generalize (execOp a.eval o).run P w=r at *
 cases r with
 | ok x w'=>
  cases x with
  | value v=>exact h
  | skip=>exact h
  | defer d=>exact h
  | enter f args=>
   refine⟨fun hd=>(by cases hd),CallsIn.inRound l (callsIn_wide.2 (Calls.mono h ?_))⟩
   intro e w'' he
   cases e with
   | returned v=>exact he
   | panicked c=>exact absurd (hQ _ _ _ he) (by simp)
   | outgrown=>obtain⟨a',w3,hq⟩:=he;exact absurd (hQ _ _ _ hq) (by simp)
  | row row args=>exact⟨fun hd=>(by cases hd),fun c cs _=>let ⟨v,w2,r,s⟩:=h c cs;⟨v,w2,r,stepsIn_wide.2 s⟩⟩
  | _=>exact h.elim
 | halt x w'=>
  cases x with
  | panic v=>exact absurd (hQ _ _ _ h) (by simp)
  | _=>exact h.elim
theorem anyIn_of_any {P:Program} {l n:Nat} {ops:Array Oper} {Q:Exit→Act→World→Prop} (hnd:∀(i:Nat) (o:Oper),ops[i]?=some o→∀ c,o.op≠.defer c):
  ∀(fuel:Nat) (listed:Array Bool) (a:Act) (w:World),wpAny P .any ops (fun e a w=>e=.normal∧Q .normal a w) fuel listed a w→wpAnyIn (Fence.wide.inRound l) n P .any ops Q fuel listed a w:=by
 intro fuel
 induction fuel with
 | zero=>intro listed a w h;exact⟨h.1,h.2.2⟩
 | succ fuel ih=>
  intro listed a w h
  refine⟨fun hr=>(h.1 hr).2,fun i hi=>?_⟩
  have h1:=h.2 i hi
  unfold wpOp at h1
  unfold wpOpIn
  cases ho:ops[i]? with
  | none=>rw[ho] at h1;exact ih _ _ _ h1
  | some o=>
   rw[ho] at h1
   dsimp only at h1 ⊢
   split
   ·rename_i hw
    rw[if_pos hw] at h1
    rcases h1 with h2 | ⟨_,a',w',h2,_⟩
    ·exact Oper.wpIn_mono (fun a w=>ih _ a w) (wpIn_of_wp (hnd i o ho) (fun e _ _ he=>he.1) h2)
    ·cases h2
   ·rename_i hw
    rw[if_neg hw] at h1
    exact⟨fun _ _=>trivial,ih _ _ _ h1⟩
def noDefer (l:List Oper):Bool:=l.all fun o=>match o.op with | .defer _=>false | _=>true
theorem regionIn {P:Program} {C:World→Prop} {hs:List Nat} {id r n:Nat} {l:List Oper} {Q:Exit→Act→World→Prop} {a:Act} {w:World} (hm:P.follows .mixedOrders=true) (hok:ok hs l.toArray=true) (hd:noDefer l=true) (hC:C w.drew)
  (h:lex P l.toArray C hs (fun a w=>Q .normal a w) 0 l a w.drew):(Code.region id l.toArray true).wpIn (Fence.wide.inRound r) n P Q a w:=by
 refine wpIn_region_any hm (anyIn_of_any (fun i o ho c hc=>?_) _ _ _ _ ?_)
 ·have hmem:o∈l:=by
   have:l[i]?=some o:=by simpa using ho
   exact List.mem_of_getElem? this
  have:=List.all_eq_true.1 hd o hmem
  rw[hc] at this
  cases this
 ·refine any_of_lex (C:=C) (hs:=hs) hok _ (List.range l.length) _ a _ hC (by simp) ?_ List.pairwise_lt_range ?_ (by simp) ?_
  ·intro i
   simp[Array.getD_eq_getD_getElem?,Array.getElem?_replicate]
   intro hi
   simp[hi]
  ·intro j o ho hl
   simp[Array.getD_eq_getD_getElem?,Array.getElem?_replicate] at hl
   split at hl<;>simp at hl
  ·have h1:=lexN_of_lex (P:=P) (ops:=l.toArray) (C:=C) (hs:=hs) (Q:=fun a w=>Q .normal a w) l 0 (fun m=>by simp)
   rw[h1,←List.range_eq_range'] at h
   have h2:(fun a w=>(fun e a w=>e=Exit.normal∧Q Exit.normal a w) Exit.normal a w)=fun a w=>Q Exit.normal a w:=by
    funext a w;simp
   rw[h2]
   exact h
end Lx
namespace Lx
theorem wpInW_of_wp {P:Program} {n:Nat} {o:Oper} {a:Act} {w:World} {K:Act→World→Prop} {Q Q':Exit→Act→World→Prop} (hnd:∀ c,o.op≠.defer c) (hQ:∀ e a w,Q e a w→e=.normal) (h:o.wp P a w K Q):o.wpIn Fence.wide n P a w K Q':=by
 unfold Oper.wpIn
 refine⟨fun _ _=>trivial,?_⟩
 rw[Oper.semAt_eq _ _ _ hnd]
 unfold Oper.wp at h
 generalize (execOp a.eval o).run P w=r at *
 cases r with
 | ok x w'=>
  cases x with
  | value v=>exact h
  | skip=>exact h
  | defer d=>exact h
  | enter f args=>
   refine⟨fun hd=>(by cases hd),(callsIn_wide.2 (Calls.mono h ?_))⟩
   intro e w'' he
   cases e with
   | returned v=>exact he
   | panicked c=>exact absurd (hQ _ _ _ he) (by simp)
   | outgrown=>obtain⟨a',w3,hq⟩:=he;exact absurd (hQ _ _ _ hq) (by simp)
  | row row args=>exact⟨fun hd=>(by cases hd),fun c cs _=>let ⟨v,w2,r,s⟩:=h c cs;⟨v,w2,r,stepsIn_wide.2 s⟩⟩
  | _=>exact h.elim
 | halt x w'=>
  cases x with
  | panic v=>exact absurd (hQ _ _ _ h) (by simp)
  | _=>exact h.elim
theorem anyInW_of_any {P:Program} {n:Nat} {ops:Array Oper} {Q:Exit→Act→World→Prop} (hnd:∀(i:Nat) (o:Oper),ops[i]?=some o→∀ c,o.op≠.defer c):
  ∀(fuel:Nat) (listed:Array Bool) (a:Act) (w:World),wpAny P .any ops (fun e a w=>e=.normal∧Q .normal a w) fuel listed a w→wpAnyIn Fence.wide n P .any ops Q fuel listed a w:=by
 intro fuel
 induction fuel with
 | zero=>intro listed a w h;exact⟨h.1,h.2.2⟩
 | succ fuel ih=>
  intro listed a w h
  refine⟨fun hr=>(h.1 hr).2,fun i hi=>?_⟩
  have h1:=h.2 i hi
  unfold wpOp at h1
  unfold wpOpIn
  cases ho:ops[i]? with
  | none=>rw[ho] at h1;exact ih _ _ _ h1
  | some o=>
   rw[ho] at h1
   dsimp only at h1 ⊢
   split
   ·rename_i hw
    rw[if_pos hw] at h1
    rcases h1 with h2 | ⟨_,a',w',h2,_⟩
    ·exact Oper.wpIn_mono (fun a w=>ih _ a w) (wpInW_of_wp (hnd i o ho) (fun e _ _ he=>he.1) h2)
    ·cases h2
   ·rename_i hw
    rw[if_neg hw] at h1
    exact⟨fun _ _=>trivial,ih _ _ _ h1⟩
end Lx
namespace Lx
theorem any_T {P:Program} {C C':World→Prop} {hs:List Nat} {Q:Exit→Act→World→Prop} {a:Act} {w:World} (n:Nat) (l1 l2:List Oper) (hn:l1.length=n) (hok:ok hs (l1++l2).toArray=true) (ht:tailOk n (l1++l2).toArray=true) (hC:C w)
  (h:lex P (l1++l2).toArray C hs (fun a w=>C' w∧lex P (l1++l2).toArray C' hs (fun a w=>Q .normal a w) n l2 a w) 0 l1 a w):wpAny P .any (l1++l2).toArray Q (l1++l2).toArray.size (Array.replicate (l1++l2).toArray.size false) a w:=by
 refine any_of_lexT (C:=C) (C':=C') (hs:=hs) (n:=n) hok ht _ (List.range' 0 n) (List.range' n l2.length) _ a _ hC (by simp[hn]) ?_ ?_ ?_ ?_ ?_ (by simp) ?_
 ·intro i
  simp[Array.getD_eq_getD_getElem?,Array.getElem?_replicate,hn]
  constructor
  ·intro hi
   have:i<n+l2.length:=by omega
   exact⟨this,by simp[this]⟩
  ·rintro⟨hi,_⟩
   omega
 ·have h1:=List.pairwise_lt_range (n:=n+l2.length)
  rw[List.range_eq_range',List.range'_append_1.symm] at h1
  simpa using h1
 ·intro i hi;simp at hi;exact hi
 ·intro i hi;simp at hi;exact hi.1
 ·intro j o ho hl
  simp[Array.getD_eq_getD_getElem?,Array.getElem?_replicate] at hl
  split at hl<;>simp at hl
 ·have e2:=lexN_of_lex (P:=P) (ops:=(l1++l2).toArray) (C:=C') (hs:=hs) (Q:=fun a w=>Q .normal a w) l2 n (fun m=>by rw[List.getElem?_toArray,List.getElem?_append_right (by omega)];congr 1;omega)
  rw[e2] at h
  have e1:=lexN_of_lexP (P:=P) (ops:=(l1++l2).toArray) (C:=C) (hs:=hs) (Q:=fun a w=>C' w∧lexN P (l1++l2).toArray C' hs (fun a w=>Q .normal a w) (List.range' n l2.length) a w) l1 0 (fun m hm=>by rw[Nat.zero_add,List.getElem?_toArray,List.getElem?_append_left hm])
  rw[e1,hn] at h
  exact h
theorem noDefer_at {l:List Oper} (hd:noDefer l=true):∀(i:Nat) (o:Oper),l.toArray[i]?=some o→∀ c,o.op≠.defer c:=by
 intro i o ho c hc
 have hmem:o∈l:=by
  have:l[i]?=some o:=by simpa using ho
  exact List.mem_of_getElem? this
 have:=List.all_eq_true.1 hd o hmem
 rw[hc] at this
 cases this
theorem regionTW {P:Program} {C C':World→Prop} {hs:List Nat} {id r:Nat} {l:List Oper} {Q:Exit→Act→World→Prop} {a:Act} {w:World} (n:Nat) (l1 l2:List Oper) (hl:l=l1++l2) (hn:l1.length=n) (hm:P.follows .mixedOrders=true) (hok:ok hs l.toArray=true) (ht:tailOk n l.toArray=true) (hd:noDefer l=true) (hC:C w.drew)
  (h:lex P l.toArray C hs (fun a w=>C' w∧lex P l.toArray C' hs (fun a w=>Q .normal a w) n l2 a w) 0 l1 a w.drew):(Code.region id l.toArray true).wpIn Fence.wide r P Q a w:=by
 subst hl
 refine wpIn_region_any hm (anyInW_of_any (noDefer_at hd) _ _ _ _ ?_)
 refine any_T (C:=C) (C':=C') (hs:=hs) n l1 l2 hn hok ht hC ?_
 have h2:(fun a w=>(fun e a w=>e=Exit.normal∧Q Exit.normal a w) Exit.normal a w)=fun a w=>Q Exit.normal a w:=by
  funext a w;simp
 rw[h2]
 exact h
theorem regionTIn {P:Program} {C C':World→Prop} {hs:List Nat} {id r q:Nat} {l:List Oper} {Q:Exit→Act→World→Prop} {a:Act} {w:World} (n:Nat) (l1 l2:List Oper) (hl:l=l1++l2) (hn:l1.length=n) (hm:P.follows .mixedOrders=true) (hok:ok hs l.toArray=true) (ht:tailOk n l.toArray=true) (hd:noDefer l=true) (hC:C w.drew)
  (h:lex P l.toArray C hs (fun a w=>C' w∧lex P l.toArray C' hs (fun a w=>Q .normal a w) n l2 a w) 0 l1 a w.drew):(Code.region id l.toArray true).wpIn (Fence.wide.inRound q) r P Q a w:=by
 subst hl
 refine wpIn_region_any hm (anyIn_of_any (noDefer_at hd) _ _ _ _ ?_)
 refine any_T (C:=C) (C':=C') (hs:=hs) n l1 l2 hn hok ht hC ?_
 have h2:(fun a w=>(fun e a w=>e=Exit.normal∧Q Exit.normal a w) Exit.normal a w)=fun a w=>Q Exit.normal a w:=by
  funext a w;simp
 rw[h2]
 exact h
end Lx
def GAt (w:World) (gb rb cap:Nat) (ext:List Value) (S:List Nat) (arcs:Int):Prop:=
 Blk w gb 155 [.bool true,.slice (some ⟨rb,0,none⟩) S.length cap,.int .i64 arcs]∧Blk w rb 79 (rowC S++ext)∧(∀ x∈S,Fit x)∧S.length≤512
theorem GAt.keep {w w':World} {gb rb cap:Nat} {ext:List Value} {S:List Nat} {arcs:Int} (h:GAt w gb rb cap ext S arcs) (hb:Below w.heap.size w w'):GAt w' gb rb cap ext S arcs:=⟨h.1.keep hb,h.2.1.keep hb,h.2.2⟩
theorem GAt.ne {w:World} {gb rb cap:Nat} {ext:List Value} {S:List Nat} {arcs:Int} (h:GAt w gb rb cap ext S arcs):gb≠rb:=by
 rintro rfl
 have h1:=h.1
 have h2:=h.2.1
 unfold Blk at h1 h2
 rw[h1] at h2
 simp at h2
theorem GAt.cells {w:World} {gb rb cap:Nat} {ext:List Value} {S:List Nat} {arcs:Int} (h:GAt w gb rb cap ext S arcs):w.cell? ⟨gb,0,none⟩=some (.bool true)∧w.cell? ⟨gb,1,none⟩=some (.slice (some ⟨rb,0,none⟩) S.length cap)∧w.cell? ⟨gb,2,none⟩=some (.int .i64 arcs)∧gb<w.heap.size:=
 ⟨h.1.cell rfl,h.1.cell rfl,h.1.cell rfl,h.1.lt⟩
theorem gvalid_any {gb rb cap:Nat} {ext:List Value} {S:List Nat} {arcs:Int} (w:World) (h:GAt w gb rb cap ext S arcs):Calls Tryz.prog 93 #[.pointer (some ⟨gb,0,none⟩)] w fun e w'=>e=.returned (.bool true)∧w=w':=by
 obtain⟨c0,_,_,c3⟩:=h.cells
 clear h
 go_enter Tryz.func93,Tryz.ntmps93
 go_wp2_with fail
 go_ret
 exact⟨rfl,rfl⟩
theorem ghas_any {gb rb cap:Nat} {ext:List Value} {S:List Nat} {arcs:Int} (v:Int) (w:World) (h:GAt w gb rb cap ext S arcs):Calls Tryz.prog 92 #[.pointer (some ⟨gb,0,none⟩),.int .i64 v] w fun e w'=>e=.returned (.bool (decide (0≤v∧v<(S.length:Int))))∧w=w':=by
 have HV:=Lib.hid (gvalid_any w h)
 obtain⟨_,c1,_,c3⟩:=h.cells
 clear h
 by_cases h0:0≤v
 ·have d0:decide (0≤v)=true:=decide_eq_true h0
  have HR:Eqn (decide (0≤v∧v<(S.length:Int))) (decide (v<(S.length:Int))):=by rw[Eqn];simp[h0]
  rw[HR.out]
  clear h0
  go_enter Tryz.func92,Tryz.ntmps92
  go_wp2_with fail
  refine HV.out.mono ?_
  rintro e w1 ⟨rfl,rfl⟩
  go_wp2_with fail
  go_ret
  exact⟨ret_bool (by first|rfl | simp),rfl⟩
 ·have d0:decide (0≤v)=false:=decide_eq_false h0
  have HR:Eqn (decide (0≤v∧v<(S.length:Int))) false:=by rw[Eqn];simp[h0]
  rw[HR.out]
  clear h0
  go_enter Tryz.func92,Tryz.ntmps92
  go_wp2_with fail
  refine HV.out.mono ?_
  rintro e w1 ⟨rfl,rfl⟩
  go_wp2_with fail
  go_ret
  exact⟨rfl,rfl⟩
theorem glen_any {gb rb cap:Nat} {ext:List Value} {S:List Nat} {arcs:Int} (w:World) (h:GAt w gb rb cap ext S arcs):Calls Tryz.prog 95 #[.pointer (some ⟨gb,0,none⟩)] w fun e w'=>e=.returned (.int .i64 S.length)∧w=w':=by
 have HV:=Lib.hid (gvalid_any w h)
 obtain⟨_,c1,_,c3⟩:=h.cells
 clear h
 go_enter Tryz.func95,Tryz.ntmps95
 go_wp2_with fail
 refine HV.out.mono ?_
 rintro e w1 ⟨rfl,rfl⟩
 go_wp2_with fail
 go_ret
 exact⟨rfl,rfl⟩
theorem ghasarc_any {gb rb cap:Nat} {ext:List Value} {S:List Nat} {arcs:Int} (a b:Int) (w:World) (h:GAt w gb rb cap ext S arcs):Calls Tryz.prog 47 #[.pointer (some ⟨gb,0,none⟩),.int .i64 a,.int .i64 b] w (RetPost (.bool (arcF S a b)) w.heap.size w):=by
 have HV:=Lib.hid (ghas_any a w h)
 obtain⟨_,c1,_,c3⟩:=h.cells
 unfold arcF
 by_cases ha:0≤a∧a<(S.length:Int)
 ·obtain⟨k,rfl⟩:∃ k:Nat,a=(k:Int):=⟨a.toNat,by omega⟩
  have hk:k<S.length:=by omega
  obtain⟨x,hx,_⟩:=drop_at (xs:=S) hk
  obtain⟨y0,y1,y2,y3,y4,y5,y6,y7,y8⟩:=row_cells h.2.1 hx
  have hgd:S.getD (k:Int).toNat 0=x:=by rw[Int.toNat_natCast,List.getD_eq_getElem?_getD,hx];rfl
  rw[hgd,decide_eq_true ha,Bool.true_and]
  rw[decide_eq_true ha] at HV
  have HHS:=Lib.hid (has_any x b w)
  unfold sV at HHS
  have j0:(k:Int)<(S.length:Int):=by omega
  clear h ha hgd hx
  go_enter Tryz.func47,Tryz.ntmps47
  go_wp2_with fail
  refine HV.out.mono ?_
  rintro e w1 ⟨rfl,rfl⟩
  go_wp2_with fail
  refine HHS.out.mono ?_
  rintro e w1 ⟨rfl,hb⟩
  have HB:=Lib.hid hb
  clear hb c1 c3 y0 y1 y2 y3 y4 y5 y6 y7 y8
  go_wp2_with fail
  go_ret
  exact⟨rfl,HB.out⟩
 ·rw[decide_eq_false ha,Bool.false_and]
  rw[decide_eq_false ha] at HV
  clear h ha
  go_enter Tryz.func47,Tryz.ntmps47
  go_wp2_with fail
  refine HV.out.mono ?_
  rintro e w1 ⟨rfl,rfl⟩
  go_wp2_with fail
  go_ret
  exact⟨rfl,Below.refl _ _⟩
theorem set_info:(Tryz.prog.info? 79).map (fun i=>(i.zero,i.size,i.bytes))=some (some (.agg #[.int .u64 0,.int .u64 0,.int .u64 0,.int .u64 0,.int .u64 0,.int .u64 0,.int .u64 0,.int .u64 0]),8,64):=by kernel_rfl
theorem made_sets:∀ n:Nat,(madeCells (Value.agg #[.int .u64 0,.int .u64 0,.int .u64 0,.int .u64 0,.int .u64 0,.int .u64 0,.int .u64 0,.int .u64 0]).cells (n * 8)).toList=rowC (List.replicate n 0):=by
 intro n
 apply List.ext_getElem?
 intro j
 have hz:(Value.agg #[.int .u64 0,.int .u64 0,.int .u64 0,.int .u64 0,.int .u64 0,.int .u64 0,.int .u64 0,.int .u64 0]).cells=#[.int .u64 0,.int .u64 0,.int .u64 0,.int .u64 0,.int .u64 0,.int .u64 0,.int .u64 0,.int .u64 0]:=by simp[Value.cells]
 rw[hz]
 by_cases hj:j<n * 8
 ·have h1:(rowC (List.replicate n 0))[j / 8 * 8+j % 8]?=some (sC 0 (j % 8)):=rowC_at (by rw[List.getElem?_replicate,if_pos (by omega)]) (Nat.mod_lt _ (by decide))
  rw[show j / 8 * 8+j % 8=j by omega] at h1
  rw[h1]
  have h2:∀ i,i<8→(#[Value.int .u64 0,.int .u64 0,.int .u64 0,.int .u64 0,.int .u64 0,.int .u64 0,.int .u64 0,.int .u64 0]:Array Value)[i]! = Value.int .u64 0:=by
   intro i hi
   match i,hi with
   | 0,_=>rfl
   | 1,_=>rfl
   | 2,_=>rfl
   | 3,_=>rfl
   | 4,_=>rfl
   | 5,_=>rfl
   | 6,_=>rfl
   | 7,_=>rfl
  simp only[madeCells,Array.toList_map,Array.toList_range,List.getElem?_map,List.getElem?_range hj,Option.map_some]
  unfold sC
  rw[wd_zero]
  exact congrArg some (h2 (j % 8) (Nat.mod_lt _ (by decide)))
 ·rw[List.getElem?_eq_none (by simp[madeCells];omega),List.getElem?_eq_none (by rw[rowC_len];simp;omega)]
def GNew (n:Int) (w:World) (e:Ending) (w':World):Prop:=
 if 0≤n∧n≤512 then ∃ gb rb,e=.returned (.tuple #[.pointer (some ⟨gb,0,none⟩),.int .i64 0])∧GAt w' gb rb n.toNat [] (List.replicate n.toNat 0) 0∧w.heap.size≤gb∧w.heap.size≤rb∧Below w.heap.size w w'
 else e=.returned (.tuple #[.pointer none,.int .i64 2])∧w=w'
theorem gnew_any (n:Int) (w:World):Calls Tryz.prog 44 #[.int .i64 n] w (GNew n w):=by
 by_cases h0:n<0
 ·have d0:decide (n<0)=true:=decide_eq_true h0
  have HG:Hid (∀ e w',(e=.returned (.tuple #[.pointer none,.int .i64 2])∧w=w')→GNew n w e w'):=Lib.hid (fun e w' h=>by unfold GNew;rw[if_neg (by omega)];exact h)
  clear h0
  go_enter Tryz.func44,Tryz.ntmps44
  go_wp2_with fail
  refine bodyPost_ret (v:=.tuple #[.pointer none,.int .i64 2]) (by simp[results,Tryz.results44,go_sem]) rfl (HG.out _ _ ⟨rfl,rfl⟩)
 have d0:decide (n<0)=false:=decide_eq_false h0
 by_cases h1:512<n
 ·have d1:decide (512<n)=true:=decide_eq_true h1
  have HG:Hid (∀ e w',(e=.returned (.tuple #[.pointer none,.int .i64 2])∧w=w')→GNew n w e w'):=Lib.hid (fun e w' h=>by unfold GNew;rw[if_neg (by omega)];exact h)
  clear h0 h1
  go_enter Tryz.func44,Tryz.ntmps44
  go_wp2_with fail
  refine bodyPost_ret (v:=.tuple #[.pointer none,.int .i64 2]) (by simp[results,Tryz.results44,go_sem]) rfl (HG.out _ _ ⟨rfl,rfl⟩)
 have d1:decide (512<n)=false:=decide_eq_false h1
 obtain⟨m,rfl⟩:∃ m:Nat,n=(m:Int):=⟨n.toNat,by omega⟩
 have hm:m≤512:=by omega
 have HG:Hid (∀ e w',(∃ gb rb,e=.returned (.tuple #[.pointer (some ⟨gb,0,none⟩),.int .i64 0])∧GAt w' gb rb m [] (List.replicate m 0) 0∧w.heap.size≤gb∧w.heap.size≤rb∧Below w.heap.size w w')→GNew m w e w'):=Lib.hid (fun e w' h=>by unfold GNew;rw[if_pos (by omega)];exact h)
 obtain⟨i0,hi,hz0,hz1,hz2⟩:=info_parts set_info
 clear h0 h1
 go_enter Tryz.func44,Tryz.ntmps44
 go_wp2_with (at_make;refine wpList_make_full _ rfl _ _ 153 rfl w.heap.size 79 i0 (.agg #[.int .u64 0,.int .u64 0,.int .u64 0,.int .u64 0,.int .u64 0,.int .u64 0,.int .u64 0,.int .u64 0]) 8 Tryz.underlying153 hi hz0 hz1 .i64 .i64 _ _ m rfl rfl rfl rfl (by rw[hz2];omega) (by unfold maxLen;omega) (Nat.le_refl _) ?_;intro w2 hown hgrow;rw[made_sets] at hown;have HO:=Lib.hid (And.intro hown ((Below.refl w.heap.size w).grown hgrow (Nat.le_refl _) (fun g hg=>by cases hg)));clear hown hgrow)
 have hbl:=(blk_of_own HO.out.1).1
 have hsz:=HO.out.2.size
 have hlt:=hbl.lt
 refine bodyPost_ret (v:=.tuple #[.pointer (some ⟨w2.heap.size,0,none⟩),.int .i64 0]) (by simp[results,Tryz.results44,go_sem]) rfl (HG.out _ _ ⟨w2.heap.size,w.heap.size,rfl,⟨?_,by rw[List.append_nil];exact hbl.alloc _,?_,?_⟩,hsz,Nat.le_refl _,HO.out.2.alloc hsz _⟩)
 ·rw[List.length_replicate];exact blk_new w2 [.bool true,.slice (some ⟨w.heap.size,0,none⟩) m m,.int .i64 0] _
 ·intro x hx
  obtain⟨_,rfl⟩:=List.mem_replicate.1 hx
  exact fit_zero
 ·simpa using hm
end Go.Proofs.YtjakdikhdndlgaaGreatDoor
namespace Go.Proofs.YtjakdikhdndlgaaGreatDoor
open Go.RowKit Go.Shelf Go.ChangeShapes Go.WideShapes Go.ChangeAt Go.Deep Go.Joins
inductive Rch (S:List Nat) (v:Nat):Nat→Prop
 | refl:Rch S v v
 | step {a b:Nat}:Rch S v a→(S.getD a 0).testBit b=true→Rch S v b
def InG (S:List Nat):Prop:=∀ y∈S,∀ b,y.testBit b=true→b<S.length
theorem setOf_ex (p:Nat→Prop):∀ N,∃ F:Nat,∀ b,F.testBit b=true↔b<N∧p b
 | 0=>⟨0,fun b=>by simp⟩
 | N+1=>by
  obtain⟨F,hF⟩:=setOf_ex p N
  by_cases h:p N
  ·refine⟨F ||| 2 ^ N,fun b=>?_⟩
   rw[Nat.testBit_or,Bool.or_eq_true,hF,bit_tb,decide_eq_true_eq]
   constructor
   ·rintro(⟨h1,h2⟩ | rfl)
    ·exact⟨by omega,h2⟩
    ·exact⟨by omega,h⟩
   ·rintro⟨h1,h2⟩
    by_cases hb:N=b
    ·exact .inr hb
    ·exact .inl ⟨by omega,h2⟩
  ·refine⟨F,fun b=>?_⟩
   rw[hF]
   constructor
   ·rintro⟨h1,h2⟩;exact⟨by omega,h2⟩
   ·rintro⟨h1,h2⟩
    refine⟨?_,h2⟩
    rcases Nat.lt_or_ge b N with h3 | h3
    ·exact h3
    ·have:b=N:=by omega
     subst this;exact absurd h2 h
noncomputable def reachM (S:List Nat) (v:Nat):Nat:=Classical.choose (setOf_ex (Rch S v) 512)
theorem reachM_tb {S:List Nat} {v b:Nat}:(reachM S v).testBit b=true↔b<512∧Rch S v b:=Classical.choose_spec (setOf_ex (Rch S v) 512) b
theorem reachM_fit (S:List Nat) (v:Nat):Fit (reachM S v):=fun i hi=>by
 rw[←Bool.not_eq_true,reachM_tb];omega
theorem rch_lt {S:List Nat} {v b:Nat} (hI:InG S) (hv:v<S.length) (h:Rch S v b):b<S.length:=by
 cases h with
 | refl=>exact hv
 | @step a b h1 h2=>
  rw[List.getD_eq_getElem?_getD] at h2
  cases ha:S[a]? with
  | none=>rw[ha] at h2;simp at h2
  | some y=>rw[ha] at h2;exact hI y (List.mem_of_getElem? ha) _ h2
def stepG (S L:List Nat):Nat:=L.foldl (fun a w=>a ||| S.getD w 0) 0
theorem stepG_snoc (S L:List Nat) (x:Nat):stepG S (L++[x])=stepG S L ||| S.getD x 0:=by unfold stepG;rw[List.foldl_append];rfl
theorem stepG_tb (S:List Nat) (b:Nat):∀ L:List Nat,(stepG S L).testBit b=true↔∃ w,w∈L∧(S.getD w 0).testBit b=true:=by
 intro L
 have key:∀(L:List Nat) (acc:Nat),(L.foldl (fun a w=>a ||| S.getD w 0) acc).testBit b=true↔acc.testBit b=true∨∃ w,w∈L∧(S.getD w 0).testBit b=true:=by
  intro L
  induction L with
  | nil=>intro acc;simp
  | cons x r ih=>
   intro acc
   rw[List.foldl_cons,ih,Nat.testBit_or,Bool.or_eq_true]
   constructor
   ·rintro((h | h) | ⟨w,h1,h2⟩)
    ·exact .inl h
    ·exact .inr ⟨x,by simp,h⟩
    ·exact .inr ⟨w,by simp[h1],h2⟩
   ·rintro(h | ⟨w,h1,h2⟩)
    ·exact .inl (.inl h)
    ·rcases List.mem_cons.1 h1 with rfl | h1
     ·exact .inl (.inr h2)
     ·exact .inr ⟨w,h1,h2⟩
 unfold stepG
 rw[key]
 simp
theorem getD_fit {S:List Nat} (hF:∀ x∈S,Fit x) (k:Nat):Fit (S.getD k 0):=by
 rw[List.getD_eq_getElem?_getD]
 cases h:S[k]? with
 | none=>exact fit_zero
 | some y=>exact hF y (List.mem_of_getElem? h)
theorem stepG_fit {S:List Nat} (hF:∀ x∈S,Fit x) (L:List Nat):Fit (stepG S L):=fun i hi=>by
 rw[←Bool.not_eq_true,stepG_tb]
 rintro⟨w,_,h⟩
 rw[getD_fit hF w i hi] at h
 cases h
def RInv (S:List Nat) (v F T:Nat):Prop:=Fit F∧Fit T∧F.testBit v=true∧(∀ b,F.testBit b=true→Rch S v b)∧(∀ b,T.testBit b=true→F.testBit b=true) ∧
 (∀ a b,F.testBit a=true→T.testBit a=false→(S.getD a 0).testBit b=true→F.testBit b=true)
theorem rinv_start (S:List Nat) {v:Nat} (hv:v<512):RInv S v (2 ^ v) (2 ^ v):=by
 have h:Fit (2 ^ v):=fun i hi=>by rw[bit_tb];simp;omega
 refine⟨h,h,by rw[bit_tb];simp,fun b hb=>?_,fun _ h=>h,fun a b h1 h2=>by rw[h1] at h2;cases h2⟩
 rw[bit_tb,decide_eq_true_eq] at hb
 subst hb;exact .refl
theorem rinv_next {S:List Nat} {v F T:Nat} (hF:∀ x∈S,Fit x) (h:RInv S v F T):RInv S v (F ||| mi (stepG S (mem T)) F) (mi (stepG S (mem T)) F):=by
 obtain⟨h1,h2,h3,h4,h5,h6⟩:=h
 have hN:=mi_lt F (stepG_fit hF (mem T))
 refine⟨or_lt h1 hN,hN,by rw[Nat.testBit_or,h3];rfl,fun b hb=>?_,fun b hb=>by rw[Nat.testBit_or,hb,Bool.or_true],fun a b ha hna hb=>?_⟩
 ·rw[Nat.testBit_or,Bool.or_eq_true] at hb
  rcases hb with hb | hb
  ·exact h4 b hb
  ·rw[mi_tb,Bool.and_eq_true,stepG_tb] at hb
   obtain⟨⟨w,hw,hwb⟩,_⟩:=hb
   exact .step (h4 w (h5 w (mem_tb hw))) hwb
 ·rw[Nat.testBit_or,Bool.or_eq_true] at ha ⊢
  rw[hna] at ha
  rcases ha with ha | ha
  ·by_cases hT:T.testBit a=true
   ·by_cases hFb:F.testBit b=true
    ·exact .inl hFb
    ·right
     rw[mi_tb,Bool.and_eq_true,stepG_tb]
     exact⟨⟨a,(mem_iff h2).2 hT,hb⟩,by simpa using hFb⟩
   ·exact .inl (h6 a b ha (by simpa using hT) hb)
  ·cases ha
theorem rinv_end {S:List Nat} {v F:Nat} (h:RInv S v F 0):F=reachM S v:=by
 obtain⟨h1,h2,h3,h4,h5,h6⟩:=h
 have hc:∀ b,Rch S v b→F.testBit b=true:=by
  intro b hb
  induction hb with
  | refl=>exact h3
  | step _ hab ih=>exact h6 _ _ ih (Nat.zero_testBit _) hab
 apply Nat.eq_of_testBit_eq
 intro b
 rw[Bool.eq_iff_iff,reachM_tb]
 constructor
 ·intro hb
  refine⟨?_,h4 b hb⟩
  rcases Nat.lt_or_ge b 512 with h | h
  ·exact h
  ·rw[h1 b h] at hb;cases hb
 ·rintro⟨_,hb⟩;exact hc b hb
def rk (M F T:Nat):Nat:=M - F+(if T=0 then 0 else 1)
theorem rk_next {M F T X:Nat} (hM:M=2 ^ 512) (hX:Fit X) (hF:Fit F) (hT:T≠0):rk M (F ||| mi X F) (mi X F)<rk M F T:=by
 have hlt:=Nat.lt_pow_two_of_testBit (n:=512) (F ||| mi X F) (fun i hi=>or_lt hF (mi_lt F hX) i hi)
 rw[←hM] at hlt
 clear hM
 unfold rk
 rw[if_neg hT]
 by_cases h0:mi X F=0
 ·rw[h0,if_pos rfl,Nat.or_zero];omega
 ·rw[if_neg h0]
  have h1:F≤F ||| mi X F:=Nat.left_le_or
  have h2:F≠F ||| mi X F:=by
   intro e
   refine h0 (Nat.eq_of_testBit_eq fun i=>?_)
   rw[Nat.zero_testBit]
   cases hb:(mi X F).testBit i with
   | false=>rfl
   | true=>
    have h3:=hb
    rw[mi_tb,Bool.and_eq_true] at h3
    have h4:(F ||| mi X F).testBit i=true:=by rw[Nat.testBit_or,hb,Bool.or_true]
    rw[←e] at h4
    rw[h4] at h3
    simp at h3
  omega
theorem of_one (v:Nat) (hv:v<512) (g:Nat) (W:World) (h:W.cell? ⟨g,0,none⟩=some (.int .i64 (v:Int))) (hg:g<W.heap.size):Calls Tryz.prog 37 #[.slice (some ⟨g,0,none⟩) 1 1] W (RetPost (.tuple #[sV (2 ^ v),.int .i64 0]) W.heap.size W):=by
 have:=of_any (some ⟨g,0,none⟩) 1 1 W [(v:Int)] (by decide) ⟨rfl,fun _=>⟨g,0,rfl,hg,fun k x hk=>by
  cases k with
  | zero=>simp at hk;subst hk;simpa[intV] using h
  | succ k=>simp at hk⟩⟩
 have e:ofF [(v:Int)]=(2 ^ v,0):=by
  unfold ofF
  rw[show ofGo 0 [(v:Int)]=some (2 ^ v) by
   rw[ofGo,if_pos (by omega),ofGo,Nat.zero_or,Int.toNat_natCast]]
 rw[e] at this
 exact this
end Go.Proofs.YtjakdikhdndlgaaGreatDoor
