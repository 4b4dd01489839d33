/- Lemmas of the proof, part 12. Conditions: none. -/
import Derived.Deep.WholeRow
import Derived.Test.YtjakdikhdndlgaaGreatDoorBas11
set_option maxRecDepth 100000
set_option maxHeartbeats 2000000
namespace Go.Proofs.YtjakdikhdndlgaaGreatDoor
open Go.RowKit
def stGo:Option Int→List Int→Bool
 | _,[]=>true
 | prev,x::r=>if stF x=false∨notUp prev x=true then false else stGo (some x) r
theorem stGo_iff:∀(l:List Int) (p:Option Int),stGo p l=true↔(∀ x∈l,stF x=true∧(∀ q,p=some q→q<x))∧l.Pairwise (·<·):=by
 intro l
 induction l with
 | nil=>intro p;simp[stGo]
 | cons x r ih=>
  intro p
  rw[stGo]
  by_cases hb:stF x=false∨notUp p x=true
  ·rw[if_pos hb]
   refine⟨fun h=>(by cases h),fun h=>?_⟩
   obtain⟨h1,h3⟩:=h.1 x (by simp)
   rcases hb with hb | hb
   ·rw[h1] at hb;cases hb
   ·cases p with
    | none=>cases hb
    | some q=>have:=h3 q rfl;simp[notUp] at hb;omega
  ·rw[if_neg hb,ih]
   have hs:stF x=true:=by
    cases h:stF x with
    | true=>rfl
    | false=>exact absurd (.inl h) hb
   have hxp:∀ q,p=some q→q<x:=by
    rintro q rfl
    have:¬notUp (some q) x=true:=fun h=>hb (.inr h)
    simp[notUp] at this
    exact this
   constructor
   ·rintro⟨h1,h2⟩
    refine⟨fun y hy=>?_,List.pairwise_cons.2 ⟨fun y hy=>(h1 y hy).2 x rfl,h2⟩⟩
    rcases List.mem_cons.1 hy with rfl | hy
    ·exact⟨hs,hxp⟩
    ·obtain⟨g1,g3⟩:=h1 y hy
     exact⟨g1,fun q hq=>Int.lt_trans (hxp q hq) (g3 x rfl)⟩
   ·rintro⟨h1,h2⟩
    obtain⟨h3,h4⟩:=List.pairwise_cons.1 h2
    refine⟨fun y hy=>?_,h4⟩
    obtain⟨g1,_⟩:=h1 y (by simp[hy])
    exact⟨g1,fun q hq=>(by cases hq;exact h3 y hy)⟩
theorem stGo_ok (l:List Int):stGo none l=stOk l:=by
 rw[Bool.eq_iff_iff,stGo_iff,stOk,Bool.and_eq_true,inc_cmpF,List.all_eq_true]
 constructor
 ·rintro⟨h1,h2⟩
  exact⟨fun x hx=>(h1 x hx).1,h2⟩
 ·rintro⟨h1,h2⟩
  exact⟨fun x hx=>⟨h1 x hx,fun q hq=>(by cases hq)⟩,h2⟩
def onF:List (Int×Int)→Int→Int
 | [],_=>0
 | x::r,n=>if x.1=n then x.2 else onF r n
def bpF (x:R5) (l:List (Int×Int)):Bool:=!decide (onF l x.a=0)&&(!decide (onF l x.b=0)&&(decide (x.d≤onF l x.a)&&(decide (onF l x.a≤x.e)&&decide (onF l x.b=wrap64 (onF l x.a+x.c)))))
def lossB (n ch:Int) (l:List (Int×Int)) (x:R5):Bool:=decide (x.a=n)&&(decide (onF l x.b=ch)&&(decide (x.d≤ch)&&decide (ch≤x.e)))
def lossGo (n ch:Int) (l:List (Int×Int)):Int→List R5→Int
 | s,[]=>s
 | s,x::r=>lossGo n ch l (if lossB n ch l x then wrap64 (s+x.c) else s) r
def bcF (loads:List R5) (x:R4) (l:List (Int×Int)):Bool:=!decide (onF l x.a=0)&&(decide (x.c≤onF l x.a)&&(decide (onF l x.a≤x.d)&&decide (x.b<lossGo x.a (onF l x.a) l 0 loads)))
def bdF (all:Bool) (l:List (Int×Int)) (d:Dom):Bool:=(decide (onF l d.st=0)&&all)||(!decide (onF l d.st=0)&&!hasL d.chs (onF l d.st))
def okF (ds:List Dom) (r:Rul) (l:List (Int×Int)) (all:Bool):Bool:=
 ds.all (fun d=>!bdF all l d)&&(l.all (fun x=>inD ds x.1)&&(r.pairs.all (fun x=>!bpF x l)&&r.caps.all (fun x=>!bcF r.loads x l)))
def vlGo:Option Int→List (Int×Int)→Bool
 | _,[]=>true
 | prev,x::r=>if stF x.1=false∨x.2<2∨51<x.2∨notUp prev x.1=true then false else vlGo (some x.1) r
def fineF (ds:List Dom) (r:Rul) (l:List (Int×Int)):Bool:=vlGo none l&&okF ds r l true
theorem ron_any (A:Option Addr) (n c:Nat) (x:Int) (w:World) (l:List (Int×Int)) (hn:n≤9223372036854775807) (hl:RowS 2 chC w w.heap.size A n l):
  Calls Tryz.prog 64 #[.slice A n c,.int .i64 x] w fun e w'=>e=.returned (.int .i64 (onF l x))∧w=w':=by
 have Hl:=Lib.hid hl
 have Hlen:=Eqn.mk hl.1
 clear hl
 go_enter Tryz.func64,Tryz.ntmps64
 go_wp2_with fail
 go_loopw [5] (fun i wr=>∃ k:Nat,k≤n∧i=.int .i64 k∧Eqn (onF l x) (onF (l.drop k) x)∧w=wr) (fun i _=>n - (intOf i).toNat)
 case atStart=>exact⟨0,Nat.zero_le _,rfl,rfl,rfl⟩
 case round=>
  obtain⟨k,hk,rfl,HR,rfl⟩:=hrel
  by_cases hlt:k<n
  ·obtain⟨p,hp,hpd⟩:=drop_at (xs:=l) (k:=k) (by rw[Hlen.out];exact hlt)
   obtain⟨b,off,hA,hbl,hc⟩:=Hl.out.2 (by omega)
   subst hA
   have c0:=hc k p hp 0 (by omega)
   have c1:=hc k p hp 1 (by omega)
   simp only[chC,Nat.add_zero] at c0 c1
   have HR2:=HR.out
   rw[hpd,onF] at HR2
   have HRR:=Eqn.mk HR2
   have j0:(k:Int)<(n:Int):=by omega
   clear hc hp hpd HR HR2
   by_cases he:p.1=x
   ·have HE:=Eqn.mk (HRR.out.trans (if_pos he))
    have hd:(p.1 == x)=true:=by simpa using he
    clear HRR he
    go_wp2_with fail
    go_ret
    exact⟨ret_int HE.out.symm,rfl⟩
   ·have HE:=Eqn.mk (HRR.out.trans (if_neg he))
    have hd:(p.1 == x)=false:=by simpa using he
    clear HRR he
    go_wp2_with fail
    go_roundw
    case rel=>exact⟨k+1,by omega,by go_num,HE,trivial⟩
    case measure=>simp[intOf];omega
  ·obtain rfl:k=n:=by omega
   go_wp2_with fail
   go_ret
   exact⟨ret_int (by rw[HR.out,drop_end (by rw[Hlen.out];omega)];rfl),rfl⟩
theorem rbp_any (x:R5) (A:Option Addr) (n c:Nat) (w:World) (l:List (Int×Int)) (hn:n≤9223372036854775807) (hl:RowS 2 chC w w.heap.size A n l):
  Calls Tryz.prog 100 #[x.val,.slice A n c] w (RetPost (.bool (bpF x l)) w.heap.size w):=by
 obtain⟨x0,x1,x2,x3,x4⟩:=x
 obtain⟨W0,hW0⟩:∃ W0,W0=w.alloc (.cells #[.int .i64 x0,.int .i64 x1,.int .i64 x2,.int .i64 x3,.int .i64 x4] 67):=⟨_,rfl⟩
 have hB0:Below w.heap.size w W0:=by rw[hW0];exact(Below.refl _ w).alloc (Nat.le_refl _) _
 have hX:Blk W0 w.heap.size 67 [.int .i64 x0,.int .i64 x1,.int .i64 x2,.int .i64 x3,.int .i64 x4]:=by rw[hW0];exact blk_new w _ _
 have q0:W0.cell? ⟨w.heap.size,0,none⟩=some (.int .i64 x0):=hX.cell rfl
 have q1:W0.cell? ⟨w.heap.size,1,none⟩=some (.int .i64 x1):=hX.cell rfl
 have q2:W0.cell? ⟨w.heap.size,2,none⟩=some (.int .i64 x2):=hX.cell rfl
 have q3:W0.cell? ⟨w.heap.size,3,none⟩=some (.int .i64 x3):=hX.cell rfl
 have q4:W0.cell? ⟨w.heap.size,4,none⟩=some (.int .i64 x4):=hX.cell rfl
 have q5:=hX.lt
 have HON:Hid (∀ i:Int,Calls Tryz.prog 64 #[.slice A n c,.int .i64 i] W0.drew fun e w'=>e=.returned (.int .i64 (onF l i))∧W0.drew=w'):=Lib.hid (fun i=>ron_any A n c i W0.drew l hn (hl.keep hB0.drew))
 have HB0:=Lib.hid hB0.drew
 have HF:Eqn (bpF ⟨x0,x1,x2,x3,x4⟩ l) (!decide (onF l x0=0)&&(!decide (onF l x1=0)&&(decide (x3≤onF l x0)&&(decide (onF l x0≤x4)&&decide (onF l x1=wrap64 (onF l x0+x2)))))):=rfl
 generalize bpF ⟨x0,x1,x2,x3,x4⟩ l=R at *
 have HO0:=Lib.hid (HON.out x0)
 have HO1:=Lib.hid (HON.out x1)
 generalize onF l x0=a at *
 generalize onF l x1=b at *
 unfold R5.val
 dsimp only
 clear hB0 hX HON hl
 go_enter Tryz.func100,Tryz.ntmps100
 go_wp2_with fail
 rw[←hW0]
 clear hW0
 refine Lx.region (C:=fun X=>X.cell? ⟨w.heap.size,1,none⟩=some (.int .i64 x1)) (hs:=[6]) (by kernel_rfl) (by kernel_rfl) q1 ?_
 repeat' (first|((first|refine Lx.ln (fun K hK=>?_) | (first|(refine Lx.lp (v:=?_) ?_ (fun K hK=>?_);rotate_left 1;intro w' hCw;try dsimp only at hCw) | (refine Lx.lr (v:=?_) ?_ (fun K hK=>?_);rotate_left 1));go_simp;first|done | with_reducible rfl);go_simp;refine hK _ ?_;clear hK K) | (refine Lx.le (fun K hK=>?_);go_simp;(first|(go_at_call 64;first|(refine HO0.out.mono ?_;rintro e w1 ⟨rfl,rfl⟩;clear HO0) | (refine HO1.out.mono ?_;rintro e w1 ⟨rfl,rfl⟩)));refine hK _ _ (q1) ?_;clear hK K))
 all_goals (refine Lx.lex_nil ?_)
 clear HO1
 have hj:∀ i v,W0.cell? ⟨w.heap.size,i,none⟩=some v→W0.drew.cell? ⟨w.heap.size,i,none⟩=some v:=fun i v h=>h
 replace q0:=hj _ _ q0
 replace q1:=hj _ _ q1
 replace q2:=hj _ _ q2
 replace q3:=hj _ _ q3
 replace q4:=hj _ _ q4
 have q6:w.heap.size<W0.drew.heap.size:=q5
 clear hj q5
 generalize W0.drew=W1 at *
 by_cases h1:a=0
 ·have hd:(a != 0)=false:=by simpa using h1
  have HV:Eqn R false:=by rw[Eqn,HF.out];simp[h1]
  clear h1 HF
  go_wp2_with fail
  go_ret
  exact⟨ret_bool HV.out.symm,HB0.out⟩
 have hd:(a != 0)=true:=by simpa using h1
 have hb:(!decide (a=0))=true:=by simp[h1]
 rw[hb] at HF
 by_cases h2:b=0
 ·have hd2:(b != 0)=false:=by simpa using h2
  have HV:Eqn R false:=by rw[Eqn,HF.out];simp[h2]
  clear h1 hb h2 HF
  go_wp2_with fail
  go_ret
  exact⟨ret_bool HV.out.symm,HB0.out⟩
 have hd2:(b != 0)=true:=by simpa using h2
 have hb2:(!decide (b=0))=true:=by simp[h2]
 rw[hb2] at HF
 clear h1 hb h2 hb2
 cases h3:decide (x3≤a) with
 | false=>
  rw[h3] at HF
  go_wp2_with fail
  go_ret
  exact⟨ret_bool HF.out.symm,HB0.out⟩
 | true=>
  rw[h3] at HF
  cases h4:decide (a≤x4) with
  | false=>
   rw[h4] at HF
   go_wp2_with fail
   go_ret
   exact⟨ret_bool HF.out.symm,HB0.out⟩
  | true=>
   rw[h4] at HF
   go_wp2_with fail
   go_ret
   exact⟨ret_bool (by rw[HF.out];first|rfl | simp),HB0.out⟩
end Go.Proofs.YtjakdikhdndlgaaGreatDoor
namespace Go.Proofs.YtjakdikhdndlgaaGreatDoor
open Go.RowKit Go.Shelf
inductive Ent
 | blk (g t:Nat) (s:List Value)
 | row (v:Value) (t size n:Nat) (xs:List Value)
def Ent.dst:Ent→Option Nat
 | .blk g _ _=>some g
 | .row v _ _ _ _=>v.ownBlock
def Ent.holds (B:Nat) (W:World):Ent→Prop
 | .blk g t s=>Blk W g t s
 | .row v t size n xs=>W.ownsRow B t size v n xs
theorem Ent.cells {B:Nat} {W:World} {e:Ent} (h:e.holds B W) {g:Nat} (hg:e.dst=some g):∃ c t,W.heap[g]?=some (.cells c t (0,0)):=by
 cases e with
 | blk g' t s=>cases hg;exact⟨_,_,h⟩
 | row v t size n xs=>
  rcases h.2 with ⟨rfl,_⟩ | ⟨g',cap,cur,rfl,_,h3,_⟩
  ·cases hg
  ·cases hg;exact⟨_,_,h3⟩
theorem Ent.lt {B:Nat} {W:World} {e:Ent} (h:e.holds B W) {g:Nat} (hg:e.dst=some g):g<W.heap.size:=by
 obtain⟨c,t,h⟩:=Ent.cells h hg
 exact(Array.getElem?_eq_some_iff.1 h).1
theorem Ent.same {B:Nat} {W X:World} {e:Ent} (h:e.holds B W) (hs:∀ g,e.dst=some g→X.heap[g]?=W.heap[g]?):e.holds B X:=by
 cases e with
 | blk g' t s=>exact(hs _ rfl).trans h
 | row v t size n xs=>
  refine⟨h.1,?_⟩
  rcases h.2 with h1 | ⟨g,cap,cur,rfl,h2,h3,h4⟩
  ·exact .inl h1
  ·exact .inr ⟨g,cap,cur,rfl,h2,(hs g rfl).trans h3,h4⟩
theorem Ent.mono {B B':Nat} {W:World} {e:Ent} (h:e.holds B W) (hB:B'≤B):e.holds B' W:=by
 cases e with
 | blk g' t s=>exact h
 | row v t size n xs=>exact own_low h hB
structure Hp (w u W:World) (L:List Ent) (ds:List Nat):Prop where
 below:Below w.heap.size w W
 since:KeepsOthers u W
 all:∀ e∈L,e.holds w.heap.size W
 low:∀ e∈L,∀ g,e.dst=some g→w.heap.size≤g
 apart:L.Pairwise fun a b=>∀ g,a.dst=some g→b.dst≠some g
 marks:∀ D∈ds,w.heap.size≤D∧W.heap[D]?=some (.deferred (some []))
 nodup:ds.Nodup
theorem grownBy_cell (W:World) (g o:Nat) (v:Value):W.grownBy (W.setCell ⟨g,o,none⟩ v) (some g):=
 ⟨rfl,rfl,rfl,by simp[World.setCell],fun k _ hne=>Below.heap_setCell _ _ _ _ (fun e=>hne (by rw[e]))⟩
theorem Hp.start (w:World):Hp w w w [] []:=⟨Below.refl _ _,KeepsOthers.refl _,fun _ h=>(by cases h),fun _ h=>(by cases h),List.Pairwise.nil,fun _ h=>(by cases h),List.Pairwise.nil⟩
section
variable {w u W X : World} {L : List Ent} {ds : List Nat}
theorem Hp.rebase (h:Hp w u W L ds):Hp w W W L ds:=⟨h.below,KeepsOthers.refl _,h.all,h.low,h.apart,h.marks,h.nodup⟩
theorem Hp.sub {L':List Ent} (h:Hp w u W L ds) (hs:L'.Sublist L):Hp w u W L' ds:=
 ⟨h.below,h.since,fun e he=>h.all e (hs.subset he),fun e he=>h.low e (hs.subset he),h.apart.sublist hs,h.marks,h.nodup⟩
theorem Hp.perm {L':List Ent} (h:Hp w u W L ds) (hs:L.Perm L'):Hp w u W L' ds:=by
 refine⟨h.below,h.since,fun e he=>h.all e (hs.mem_iff.2 he),fun e he=>h.low e (hs.mem_iff.2 he),?_,h.marks,h.nodup⟩
 exact(hs.pairwise_iff (fun {a b} hab g hb ha=>hab g ha hb)).1 h.apart
theorem Hp.blk (h:Hp w u W L ds) (i:Nat) {g t:Nat} {s:List Value} (hi:L[i]?=some (.blk g t s)):Blk W g t s:=h.all _ (List.mem_of_getElem? hi)
theorem Hp.row (h:Hp w u W L ds) (i:Nat) {v:Value} {t size n:Nat} {xs:List Value} (hi:L[i]?=some (.row v t size n xs)):W.ownsRow w.heap.size t size v n xs:=h.all _ (List.mem_of_getElem? hi)
theorem Hp.c (h:Hp w u W L ds) (i k:Nat) {g t:Nat} {s:List Value} {v:Value} (hi:L[i]?=some (.blk g t s)) (hk:s[k]?=some v):W.cell? ⟨g,k,none⟩=some v:=(h.blk i hi).cell hk
theorem Hp.f (h:Hp w u W L ds) (i:Nat) {g t:Nat} {s:List Value} (hi:L[i]?=some (.blk g t s)):∀ o,W.frozen? ⟨g,o,none⟩=false:=(h.blk i hi).frozen
theorem Hp.lt (h:Hp w u W L ds) (i:Nat) {g t:Nat} {s:List Value} (hi:L[i]?=some (.blk g t s)):g<W.heap.size:=(h.blk i hi).lt
theorem Hp.ne (h:Hp w u W L ds) (i j:Nat) {e e':Ent} (hi:L[i]?=some e) (hj:L[j]?=some e') (hij:i≠j) {g:Nat} (hg:e.dst=some g):e'.dst≠some g:=by
 obtain⟨h1,e1⟩:=List.getElem?_eq_some_iff.1 hi
 obtain⟨h2,e2⟩:=List.getElem?_eq_some_iff.1 hj
 rcases Nat.lt_or_ge i j with hlt | hge
 ·have:=List.pairwise_iff_getElem.1 h.apart i j h1 h2 hlt
  rw[e1,e2] at this
  exact this g hg
 ·have:=List.pairwise_iff_getElem.1 h.apart j i h2 h1 (by omega)
  rw[e1,e2] at this
  exact fun hg'=>this g hg' hg
theorem Hp.upd (h:Hp w u W L ds) (i:Nat) {e e':Ent} (hi:L[i]?=some e) (hg:W.grownBy X e.dst) (he:e'.holds w.heap.size X) (hd:∀ g,e'.dst=some g→e.dst=some g∨W.heap.size≤g):Hp w u X (L.set i e') ds:=by
 have hmem:=List.mem_of_getElem? hi
 have hlow:=h.low e hmem
 have hk:∀ j e2,L[j]?=some e2→j≠i→∀ g,e2.dst=some g→X.heap[g]?=W.heap[g]?:=by
  intro j e2 hj hne g hg2
  exact hg.block g (Ent.lt (h.all e2 (List.mem_of_getElem? hj)) hg2) (fun e3=>h.ne j i hj hi hne hg2 e3.symm)
 have hilt:=(List.getElem?_eq_some_iff.1 hi).1
 refine⟨h.below.grown hg h.below.size hlow,h.since.trans (KeepsOthers.of_grownBy hg fun j o hj ho=>?_),?_,?_,?_,fun D hD=>⟨(h.marks D hD).1,?_⟩,h.nodup⟩
 ·obtain⟨c,t,hc⟩:=Ent.cells (h.all e hmem) hj
  rw[hc] at ho;cases ho;rfl
 ·intro e2 he2
  obtain⟨j,hj⟩:=List.getElem?_of_mem he2
  rw[List.getElem?_set] at hj
  split at hj
  ·cases hj;exact he
  ·rename_i hne
   exact Ent.same (h.all e2 (List.mem_of_getElem? hj)) (hk j e2 hj (fun e=>hne e.symm))
 ·intro e2 he2 g hg2
  obtain⟨j,hj⟩:=List.getElem?_of_mem he2
  rw[List.getElem?_set] at hj
  split at hj
  ·cases hj
   rcases hd g hg2 with h1 | h1
   ·exact hlow g h1
   ·exact Nat.le_trans h.below.size h1
  ·exact h.low e2 (List.mem_of_getElem? hj) g hg2
 ·rw[List.pairwise_iff_getElem]
  intro a b ha hb hab g hga hgb
  rw[List.length_set] at ha hb
  have hda:∀ j (hj:j<L.length),j≠i→∀ g,e'.dst=some g→(L[j]).dst≠some g:=by
   intro j hj hne g h1 h2
   have hj':L[j]?=some L[j]:=List.getElem?_eq_getElem hj
   rcases hd g h1 with h3 | h3
   ·exact h.ne i j hi hj' (Ne.symm hne) h3 h2
   ·have:=Ent.lt (h.all _ (List.mem_of_getElem? hj')) h2
    omega
  rw[List.getElem_set] at hga hgb
  split at hga
  ·rename_i ia
   rw[if_neg (by omega)] at hgb
   exact hda b hb (by omega) g hga hgb
  ·rename_i ia
   split at hgb
   ·exact hda a ha (by omega) g hgb hga
   ·exact List.pairwise_iff_getElem.1 h.apart a b ha hb hab g hga hgb
 ·obtain⟨h1,h2⟩:=h.marks D hD
  refine(hg.block D (Array.getElem?_eq_some_iff.1 h2).1 (fun e3=>?_)).trans h2
  obtain⟨c,t,hc⟩:=Ent.cells (h.all e hmem) e3.symm
  rw[hc] at h2;cases h2
theorem Hp.set (h:Hp w u W L ds) (i o:Nat) (v:Value) {g t:Nat} {s:List Value} (hi:L[i]?=some (.blk g t s)):Hp w u (W.setCell ⟨g,o,none⟩ v) (L.set i (.blk g t (s.set o v))) ds:=
 h.upd i hi (grownBy_cell W g o v) ((h.blk i hi).set_ o v) (fun _ hg'=>.inl hg')
theorem Hp.keep (h:Hp w u W L ds) (hb:Below W.heap.size W X):Hp w u X L ds:=
 ⟨h.below.trans (hb.mono h.below.size),h.since.trans ⟨hb.size,fun k _ hk _=>(hb.block k (Array.getElem?_eq_some_iff.1 hk).1).trans hk⟩,fun e he=>Ent.same (h.all e he) (fun g hg=>hb.block g (Ent.lt (h.all e he) hg)),h.low,h.apart,
  fun D hD=>⟨(h.marks D hD).1,(hb.block D (Array.getElem?_eq_some_iff.1 (h.marks D hD).2).1).trans (h.marks D hD).2⟩,h.nodup⟩
theorem Hp.drew (h:Hp w u W L ds):Hp w u W.drew L ds:=h.keep (Below.refl _ _).drew
theorem Hp.push (h:Hp w u W L ds) (hb:Below W.heap.size W X) {e:Ent} (he:e.holds W.heap.size X) (hl:∀ g,e.dst=some g→W.heap.size≤g):Hp w u X (L++[e]) ds:=by
 have hk:=h.keep hb
 refine⟨hk.below,hk.since,?_,?_,?_,hk.marks,hk.nodup⟩
 ·intro e2 he2
  rcases List.mem_append.1 he2 with h1 | h1
  ·exact hk.all e2 h1
  ·rw[List.mem_singleton] at h1;subst h1;exact Ent.mono he h.below.size
 ·intro e2 he2 g hg
  rcases List.mem_append.1 he2 with h1 | h1
  ·exact hk.low e2 h1 g hg
  ·rw[List.mem_singleton] at h1;subst h1;exact Nat.le_trans h.below.size (hl g hg)
 ·rw[List.pairwise_append]
  refine⟨hk.apart,List.pairwise_singleton _ _,fun a ha b hb' g hga hgb=>?_⟩
  rw[List.mem_singleton] at hb'
  subst hb'
  have:=Ent.lt (h.all a ha) hga
  have:=hl g hgb
  omega
theorem perm_in (F E:List Ent) (b:Ent):((F++E)++[b]).Perm ((F++[b])++E):=by
 rw[List.append_assoc,List.append_assoc];exact List.Perm.append_left F List.perm_append_comm
theorem Hp.pushBlk (h:Hp w u W L ds) (hb:Below W.heap.size W X) {g t:Nat} {s:List Value} (he:Blk X g t s) (hl:W.heap.size≤g):Hp w u X (L++[.blk g t s]) ds:=h.push hb he (fun _ e=>by cases e;exact hl)
theorem Hp.pushRow (h:Hp w u W L ds) (hb:Below W.heap.size W X) {v:Value} {t size n:Nat} {xs:List Value} (he:X.ownsRow W.heap.size t size v n xs):Hp w u X (L++[.row v t size n xs]) ds:=h.push (e:=.row v t size n xs) hb he (fun g hg=>own_ge he g hg)
theorem Hp.alloc (h:Hp w u W L ds) (s:List Value) (t:Nat):Hp w u (W.alloc (.cells s.toArray t)) (L++[.blk W.heap.size t s]) ds:=
 h.pushBlk ((Below.refl _ W).alloc (Nat.le_refl _) _) (blk_new W s t) (Nat.le_refl _)
theorem Hp.alloc0 (h:Hp w u W L ds) (o:Obj):Hp w u (W.alloc o) L ds:=h.keep ((Below.refl _ W).alloc (Nat.le_refl _) _)
theorem Hp.nil (h:Hp w u W L ds) (t size:Nat):Hp w u W (L++[.row (.slice none 0 0) t size 0 []]) ds:=h.pushRow (Below.refl _ _) ⟨by simp,.inl ⟨rfl,rfl⟩⟩
theorem Hp.grow (h:Hp w u W L ds) (i:Nat) {v v':Value} {t size n n':Nat} {xs ys:List Value} (hi:L[i]?=some (.row v t size n xs)) (hg:W.grownBy X v.ownBlock) (ho:X.ownsRow w.heap.size t size v' n' ys) (hat:v'.ownBlock=v.ownBlock∨v'.ownBlock=some W.heap.size):
  Hp w u X (L.set i (.row v' t size n' ys)) ds:=by
 refine h.upd i hi hg ho (fun g hg'=>?_)
 have hg':v'.ownBlock=some g:=hg'
 rcases hat with e | e
 ·exact .inl (show v.ownBlock=some g from by rw[←e];exact hg')
 ·rw[e] at hg';cases hg';exact .inr (Nat.le_refl _)
theorem Hp.form (h:Hp w u W L ds) (i:Nat) {v:Value} {t size n:Nat} {xs:List Value} (hi:L[i]?=some (.row v t size n xs)):∃ A c,v=.slice A n c:=by
 rcases(h.row i hi).2 with ⟨rfl,rfl⟩ | ⟨g,cap,_,rfl,_⟩
 ·exact⟨none,0,rfl⟩
 ·exact⟨_,cap,rfl⟩
theorem Hp.at (h:Hp w u W L ds) (i k:Nat) {v:Value} {t size n:Nat} {xs:List Value} {x:Value} (hi:L[i]?=some (.row v t size n xs)) (hk:xs[k]?=some x):
  ∃ g c,v=.slice (some ⟨g,0,none⟩) n c∧W.cell? ⟨g,k,none⟩=some x∧(∀ o,W.frozen? ⟨g,o,none⟩=false)∧g<W.heap.size:=by
 obtain⟨h1,⟨_,h2⟩ | ⟨g,cap,cur,rfl,_,h3,_,_,_,h4⟩⟩:=h.row i hi
 ·have:=(List.getElem?_eq_some_iff.1 hk).1
  rw[h1,h2] at this
  omega
 ·refine⟨g,cap,rfl,?_,fun o=>by simp[World.frozen?,h3],(Array.getElem?_eq_some_iff.1 h3).1⟩
  have hlt:=(List.getElem?_eq_some_iff.1 hk).1
  rw[←h4,List.getElem?_take,if_pos (by rw[←h1];exact hlt)] at hk
  simp[World.cell?,h3] at hk ⊢
  exact hk
theorem Hp.setRow (h:Hp w u W L ds) (i o:Nat) (v:Value) {g c t size n:Nat} {xs:List Value} (hi:L[i]?=some (.row (.slice (some ⟨g,0,none⟩) n c) t size n xs)):
  Hp w u (W.setCell ⟨g,o,none⟩ v) (L.set i (.row (.slice (some ⟨g,0,none⟩) n c) t size n (xs.set o v))) ds:=by
 refine h.upd i hi (grownBy_cell W g o v) ?_ (fun _ hg'=>.inl hg')
 obtain⟨h1,h2⟩:=h.row i hi
 refine⟨by rw[List.length_set];exact h1,?_⟩
 rcases h2 with ⟨h3,_⟩ | ⟨g',cap,cur,h3,h4,h5,h6,h7,h8,h9⟩
 ·cases h3
 ·injection h3 with h3 _ hc
  injection h3 with h3
  injection h3 with h3
  subst h3 hc
  refine .inr ⟨g,c,cur.setIfInBounds o v,rfl,h4,?_,h6,h7,by simp[h8],?_⟩
  ·simp[World.setCell,Array.getElem?_modify,h5]
  ·rw[Array.toList_setIfInBounds,List.take_set,h9]
theorem Hp.mark (h:Hp w u W L ds) {D:Nat} (hD:W.heap[D]?=some (.deferred (some []))) (h5:w.heap.size≤D) (hn:∀ E∈ds,E<D):Hp w u W L (D::ds):=by
 refine⟨h.below,h.since,h.all,h.low,h.apart,fun E hE=>?_,List.nodup_cons.2 ⟨fun h=>by have:=hn D h;omega,h.nodup⟩⟩
 rcases List.mem_cons.1 hE with rfl | hE
 ·exact⟨h5,hD⟩
 ·exact h.marks E hE
theorem Hp.turn (h:Hp w u W L ds) {B:Nat} {row:Option Nat} (hg:W.grownBy X row) (hr:∀ r,row=some r→B≤r∧∃ o:Obj,W.heap[r]?=some o∧o.isCells=false) (hB:w.heap.size≤B) (hds:∀ D∈ds,D<B):Hp w X X L ds:=by
 refine⟨h.below.grown hg h.below.size (fun k e=>Nat.le_trans hB (hr k e).1),KeepsOthers.refl _,fun e he=>Ent.same (h.all e he) (fun g hg'=>?_),h.low,h.apart,fun D hD=>⟨(h.marks D hD).1,?_⟩,h.nodup⟩
 ·refine hg.block g (Ent.lt (h.all e he) hg') (fun e3=>?_)
  obtain⟨c,t,hc⟩:=Ent.cells (h.all e he) hg'
  obtain⟨_,o,ho,hc'⟩:=hr g e3.symm
  rw[hc] at ho;cases ho;cases hc'
 ·refine(hg.block D (Array.getElem?_eq_some_iff.1 (h.marks D hD).2).1 (fun e3=>?_)).trans (h.marks D hD).2
  have:=(hr D e3.symm).1
  have:=hds D hD
  omega
end
def marksOf (ds:List Nat):List Deferred:=ds.map fun D=>{ target:=.collected D,args:=#[] }
theorem hp_leaves {F:Fence} {n:Nat} {fn:Func} {tmps:Array Value} {R:Ending→World→Prop} {w:World} {L:List Ent} (hE:∀ X,Hp w X X L []→LeavesIn F n Tryz.prog fn tmps R [] .returning X):∀(ds:List Nat) (u W:World),Hp w u W L ds→LeavesInM F n Tryz.prog fn tmps R (marksOf ds) .returning W:=by
 intro ds
 induction ds with
 | nil=>intro u W h;exact hE W h.rebase
 | cons D r ih=>
  intro u W h
  obtain⟨h1,h2⟩:=h.marks D (by simp)
  have hn':=List.nodup_cons.1 h.nodup
  refine⟨by simp,.inl ⟨D,_,rfl,run_takeDeferred h2,?_⟩⟩
  refine ih (W.putObj D (.deferred none)) _ ⟨h.below.trans (belowK_b (w:=w) (Nat.le_refl _) W D _ _ h1 h2 rfl rfl),KeepsOthers.refl _,fun e he=>Ent.same (h.all e he) (fun g hg=>World.putObj_heap_other ?_),h.low,h.apart,fun E hE'=>⟨(h.marks E (by simp[hE'])).1,?_⟩,hn'.2⟩
  ·rintro rfl
   obtain⟨c,t,hc⟩:=Ent.cells (h.all e he) hg
   rw[hc] at h2;cases h2
  ·rw[World.putObj_heap_other (fun e=>hn'.1 (by rw[←e];exact hE'))]
   exact(h.marks E (by simp[hE'])).2
section
variable {α σ : Type} {w W w0 : World} {ds : List Nat} {g : Operand} {ps : Array Tmp} {assign body : Code} {Q : Exit → Act → World → Prop} {a : Act} {n gf : Nat} {lb : Array Value} {encs : α → Array Value} {S Sp : List α → Prop} {N n₀ Bn t0 : Nat} {s0 : List Value}
def hpEnd (w:World) (Lf:σ→List Ent) (ds:List Nat) (R:List α→σ→Prop) (Rx:Code→List α→σ→Prop) (xs:List α) (X:World):Exit→Act→World→Prop
 | .normal,_,Y=>∃ s,R xs s∧Hp w X Y (Lf s) ds
 | .ret,_,Y=>∃ s,Rx .ret xs s∧Hp w X Y (Lf s) ds
 | .exit id,_,Y=>∃ s,Rx (.exit id) xs s∧Hp w X Y (Lf s) ds
 | .goto t,_,Y=>∃ s,Rx (.goto t) xs s∧Hp w X Y (Lf s) ds
 | .panic _,_,_=>False
 | .outgrown,_,_=>False
theorem hp_own {B:Nat} (hB:w.heap.size≤B) (hds:∀ D∈ds,D<B) (Lf:σ→List Ent) (R:List α→σ→Prop):OwnFrom B (fun pre X=>∃ s,R pre s∧Hp w X X (Lf s) ds):=
 fun _ _ _ _ ⟨s,h1,h2⟩ hg hr=>⟨s,h1,h2.turn hg hr hB hds⟩
theorem hp_keep1 {X Y:World} {u:World} {L L':List Ent} {i:Nat} (hn:n₀≤w.heap.size) (h:Hp w u X L ds) (h':Hp w X Y L' ds) (hi:L[i]?=some (.blk Bn t0 s0)) (hi':L'[i]?=some (.blk Bn t0 s0)):Keep1 n₀ Bn X Y:=
 ⟨⟨h'.below.os.trans h.below.os.symm,h'.below.tape.trans h.below.tape.symm,h'.below.output.trans h.below.output.symm,h'.since.size,fun k hk=>(h'.below.block k (by omega)).trans (h.below.block k (by omega)).symm⟩,(h'.blk i hi').trans (h.blk i hi).symm⟩
theorem hp_range (Lf:σ→List Ent) (R:List α→σ→Prop) (Rx:Code→List α→σ→Prop) (iB:Nat) (a₁:α→Act) (h1:1≤n) (hg:a.eval g=.func (.func gf) #[] lb) (eg:∀ args w,(callFunc gf args).run Tryz.prog w=.ok (.enter gf args) w)
  (hseq:SeqStopsK Fence.wide (n - 1) Tryz.prog gf lb encs (Keep1 n₀ Bn) S Sp N w0) (hw0:w0=W) (hn:n₀≤w.heap.size) (hps:∀ x,(encs x).size=ps.size) {u:World} (s:σ) (h0:R [] s) (hH:Hp w u W (Lf s) ds) (hiB:∀ s,(Lf s)[iB]?=some (.blk Bn t0 s0))
  (hassign:∀(l:Nat) (x:α) (W:World) (K:Act→World→Prop),K (a₁ x) W→assign.wpIn (Fence.wide.inRound l) (n - 1 - 1) Tryz.prog (Exit.then K (fun _ _ _=>False)) { tmps:=(ps.zip (encs x)).foldl (fun t (p,v)=>t.setIfInBounds p v) a.tmps,defers:=[] } W)
  (hbody:∀(l:Nat) (pre:List α) (x:α) (X:World) (s:σ),(∃ r,X.heap[l]?=some (.loop r))→R pre s→Hp w X X (Lf s) ds→pre.length<N→body.wpIn (Fence.wide.inRound l) (n - 1 - 1) Tryz.prog (hpEnd w Lf ds R Rx (pre++[x]) X) (a₁ x) X)
  (hdone:∀(D:Nat) (xs:List α) (X:World) (s:σ),S xs→R xs s→Hp w X X (Lf s) (D::ds)→Q .normal { a with defers:={ target:=.collected D,args:=#[] }::a.defers } X)
  (hstop:∀(D:Nat) (c:Code) (pre:List α) (X:World) (s:σ),Sp pre→Rx c pre s→Hp w X X (Lf s) (D::ds)→c.wpIn Fence.wide n Tryz.prog Q { a with defers:={ target:=.collected D,args:=#[] }::a.defers } X):
  (Code.rangeFunc g ps assign body).wpIn Fence.wide n Tryz.prog Q a W:=by
 subst hw0
 have hB:=hH.below.size
 have hds:∀ D∈ds,D<w0.heap.size:=fun D hD=>(Array.getElem?_eq_some_iff.1 (hH.marks D hD).2).1
 have hbn:Bn<w0.heap.size:=hH.lt iB (hiB s)
 refine wpIn_rangeFunc_ownH (Kp:=Keep1 n₀ Bn) rfl h1 hg trivial eg hseq keep1_t (keep1_b (by omega) hbn) (Below.refl _ _) hps
  (fun pre X=>∃ s,R pre s∧Hp w X X (Lf s) ds) (fun c pre X=>∃ s,Rx c pre s∧Hp w X X (Lf s) ds) (hp_own hB hds Lf R) (fun c=>hp_own hB hds Lf (Rx c)) ⟨s,h0,hH.rebase⟩ (fun x a' _=>a'=a₁ x) (fun x a' _ _ _ _ h _ _=>h)
  ?_ ?_ ?_ ?_
 ·rintro l pre x X K hI hK
  exact hassign l x X K (hK _ X (KeepsFrom.refl _ _) ⟨Below.refl _ _,rfl⟩ hI rfl)
 ·rintro l pre x a' X hl hrec ⟨s,hR,hX⟩ rfl hlen
  refine wpIn_mono (hbody l pre x X s hrec hR hX hlen) ?_
  intro e a' Y he
  cases e with
  | normal=>obtain⟨s',h2,h3⟩:=he;exact⟨h3.since.from _,hp_keep1 hn hX h3 (hiB s) (hiB s'),s',h2,h3.rebase⟩
  | ret=>obtain⟨s',h2,h3⟩:=he;exact⟨h3.since.from _,s',h2,h3.rebase⟩
  | exit id=>obtain⟨s',h2,h3⟩:=he;exact⟨h3.since.from _,s',h2,h3.rebase⟩
  | goto t=>obtain⟨s',h2,h3⟩:=he;exact⟨h3.since.from _,s',h2,h3.rebase⟩
  | panic c=>exact he.elim
  | outgrown=>exact he.elim
 ·rintro D xs X hD hS ⟨s,hR,hX⟩ hK
  exact hdone D xs X s hS hR (hX.mark hK (by omega) (fun E hE=>by have:=hds E hE;omega))
 ·rintro D c pre X hD hS ⟨s,hR,hX⟩ hK
  exact hstop D c pre X s hS hR (hX.mark hK (by omega) (fun E hE=>by have:=hds E hE;omega))
end
end Go.Proofs.YtjakdikhdndlgaaGreatDoor
namespace Go.Proofs.YtjakdikhdndlgaaGreatDoor
open Go.RowKit
def rowC (S:List Nat):List Value:=flat 8 sC S
theorem rowC_cons (x:Nat) (r:List Nat):rowC (x::r)=sL x++rowC r:=rfl
theorem rowC_len (S:List Nat):(rowC S).length=S.length * 8:=by
 induction S with
 | nil=>rfl
 | cons x r ih=>rw[rowC_cons,List.length_append,ih,List.length_cons];simp[sL];omega
theorem rowC_at {S:List Nat} {k x:Nat} (h:S[k]?=some x) {j:Nat} (hj:j<8):(rowC S)[k * 8+j]?=some (sC x j):=flat_at 8 sC S k x h j hj
def setAt (W:World) (g o S:Nat):World:=
 (((((((W.setCell ⟨g,o,none⟩ (.int .u64 (wd S 0))).setCell ⟨g,o+1,none⟩ (.int .u64 (wd S 1))).setCell ⟨g,o+2,none⟩ (.int .u64 (wd S 2))).setCell ⟨g,o+3,none⟩ (.int .u64 (wd S 3))).setCell ⟨g,o+4,none⟩ (.int .u64 (wd S 4))).setCell ⟨g,o+5,none⟩ (.int .u64 (wd S 5))).setCell ⟨g,o+6,none⟩ (.int .u64 (wd S 6))).setCell ⟨g,o+7,none⟩ (.int .u64 (wd S 7))
theorem rowC_set:∀(S:List Nat) (k T x:Nat),S[k]?=some x →
  ((((((((rowC S).set (k * 8) (.int .u64 (wd T 0))).set (k * 8+1) (.int .u64 (wd T 1))).set (k * 8+2) (.int .u64 (wd T 2))).set (k * 8+3) (.int .u64 (wd T 3))).set (k * 8+4) (.int .u64 (wd T 4))).set (k * 8+5) (.int .u64 (wd T 5))).set (k * 8+6) (.int .u64 (wd T 6))).set (k * 8+7) (.int .u64 (wd T 7))=rowC (S.set k T):=by
 intro S
 induction S with
 | nil=>intro k T x h;simp at h
 | cons y r ih=>
  intro k T x h
  cases k with
  | zero=>rw[List.set_cons_zero,rowC_cons,rowC_cons];simp[sL]
  | succ k=>
   simp at h
   rw[List.set_cons_succ,rowC_cons,rowC_cons,←ih k T x h]
   have e:∀(l:List Value) (j:Nat) (v:Value),(sL y++l).set ((k+1) * 8+j) v=sL y++l.set (k * 8+j) v:=by
    intro l j v
    rw[List.set_append_right _ _ (by simp[sL];omega)]
    congr 2
    simp[sL];omega
   have e0:∀(l:List Value) (v:Value),(sL y++l).set ((k+1) * 8) v=sL y++l.set (k * 8) v:=fun l v=>e l 0 v
   rw[e0,e,e,e,e,e,e,e]
theorem rowE_set (S:List Nat) (ext:List Value) (k T x:Nat) (h:S[k]?=some x):
  ((((((((rowC S++ext).set (k * 8) (.int .u64 (wd T 0))).set (k * 8+1) (.int .u64 (wd T 1))).set (k * 8+2) (.int .u64 (wd T 2))).set (k * 8+3) (.int .u64 (wd T 3))).set (k * 8+4) (.int .u64 (wd T 4))).set (k * 8+5) (.int .u64 (wd T 5))).set (k * 8+6) (.int .u64 (wd T 6))).set (k * 8+7) (.int .u64 (wd T 7))=rowC (S.set k T)++ext:=by
 have hk:k<S.length:=(List.getElem?_eq_some_iff.1 h).1
 have e:∀(l:List Value) (j:Nat) (v:Value),l.length=S.length * 8→j<8→(l++ext).set (k * 8+j) v=l.set (k * 8+j) v++ext:=by
  intro l j v hl hj
  rw[List.set_append_left _ _ (by omega)]
 have e0:∀(l:List Value) (v:Value),l.length=S.length * 8→(l++ext).set (k * 8) v=l.set (k * 8) v++ext:=fun l v hl=>e l 0 v hl (by decide)
 have hl:=rowC_len S
 rw[e0 _ _ hl,e _ _ _ (by simp[hl]) (by decide),e _ _ _ (by simp[hl]) (by decide),e _ _ _ (by simp[hl]) (by decide),e _ _ _ (by simp[hl]) (by decide),e _ _ _ (by simp[hl]) (by decide),e _ _ _ (by simp[hl]) (by decide),e _ _ _ (by simp[hl]) (by decide),rowC_set S k T x h]
theorem Blk.setRow {W:World} {g t k T x:Nat} {ext:List Value} {S:List Nat} (h:Blk W g t (rowC S++ext)) (hk:S[k]?=some x):Blk (setAt W g (k * 8) T) g t (rowC (S.set k T)++ext):=by
 rw[←rowE_set S ext k T x hk]
 unfold setAt
 exact(((((((h.set_ (k * 8) (.int .u64 (wd T 0))).set_ (k * 8+1) (.int .u64 (wd T 1))).set_ (k * 8+2) (.int .u64 (wd T 2))).set_ (k * 8+3) (.int .u64 (wd T 3))).set_ (k * 8+4) (.int .u64 (wd T 4))).set_ (k * 8+5) (.int .u64 (wd T 5))).set_ (k * 8+6) (.int .u64 (wd T 6))).set_ (k * 8+7) (.int .u64 (wd T 7))
theorem Blk.otherAt {W:World} {g t g' o T:Nat} {s:List Value} (h:Blk W g t s) (hne:g'≠g):Blk (setAt W g' o T) g t s:=by
 unfold setAt
 exact(((((((h.other _ _ hne).other _ _ hne).other _ _ hne).other _ _ hne).other _ _ hne).other _ _ hne).other _ _ hne).other _ _ hne
theorem grown_setAt (W:World) (g o T:Nat):W.grownBy (setAt W g o T) (some g):=by
 unfold setAt
 have h:∀(X:World) (i:Nat) (v:Value),W.grownBy X (some g)→W.grownBy (X.setCell ⟨g,i,none⟩ v) (some g):=by
  intro X i v hX
  refine⟨hX.os,hX.tape,hX.output,by simpa using hX.size,fun k hk hne=>?_⟩
  rw[Below.heap_setCell _ _ _ _ (fun e=>hne (by rw[e]))]
  exact hX.block k hk hne
 exact h _ _ _ (h _ _ _ (h _ _ _ (h _ _ _ (h _ _ _ (h _ _ _ (h _ _ _ (h _ _ _ ⟨rfl,rfl,rfl,Nat.le_refl _,fun _ _ _=>rfl⟩)))))))
theorem rowE_at {S:List Nat} {ext:List Value} {k x:Nat} (h:S[k]?=some x) {j:Nat} (hj:j<8):(rowC S++ext)[k * 8+j]?=some (sC x j):=by
 have h1:=rowC_at h hj
 rw[List.getElem?_append_left (List.getElem?_eq_some_iff.1 h1).1]
 exact h1
theorem row_cells {w:World} {rb t k x:Nat} {ext:List Value} {S:List Nat} (h:Blk w rb t (rowC S++ext)) (hk:S[k]?=some x):
  w.cell? ⟨rb,k * 8,none⟩=some (.int .u64 (wd x 0))∧w.cell? ⟨rb,k * 8+1,none⟩=some (.int .u64 (wd x 1))∧w.cell? ⟨rb,k * 8+2,none⟩=some (.int .u64 (wd x 2))∧w.cell? ⟨rb,k * 8+3,none⟩=some (.int .u64 (wd x 3)) ∧
  w.cell? ⟨rb,k * 8+4,none⟩=some (.int .u64 (wd x 4))∧w.cell? ⟨rb,k * 8+5,none⟩=some (.int .u64 (wd x 5))∧w.cell? ⟨rb,k * 8+6,none⟩=some (.int .u64 (wd x 6))∧w.cell? ⟨rb,k * 8+7,none⟩=some (.int .u64 (wd x 7))∧rb<w.heap.size:=
 ⟨h.cell (rowE_at hk (j:=0) (by decide)),h.cell (rowE_at hk (j:=1) (by decide)),h.cell (rowE_at hk (j:=2) (by decide)),h.cell (rowE_at hk (j:=3) (by decide)),h.cell (rowE_at hk (j:=4) (by decide)),h.cell (rowE_at hk (j:=5) (by decide)),h.cell (rowE_at hk (j:=6) (by decide)),h.cell (rowE_at hk (j:=7) (by decide)),h.lt⟩
def arcF (S:List Nat) (a b:Int):Bool:=decide (0≤a∧a<(S.length:Int))&&hasS (S.getD a.toNat 0) b
end Go.Proofs.YtjakdikhdndlgaaGreatDoor
namespace Go.Proofs.YtjakdikhdndlgaaGreatDoor
open Go.RowKit Go.Shelf
theorem grownBy_set8 (W:World) (g S:Nat):W.grownBy (set8 W g S) (some g):=grown_setAt W g 0 S
section
variable {w u W X : World} {L : List Ent} {ds : List Nat}
theorem Hp.set8 (h:Hp w u W L ds) (i S:Nat) {g t T:Nat} (hi:L[i]?=some (.blk g t (tabL 8 (sC T)))):Hp w u (set8 W g S) (L.set i (.blk g t (tabL 8 (sC S)))) ds:=
 h.upd i hi (grownBy_set8 W g S) ((h.blk i hi).set8 S) (fun _ hg'=>.inl hg')
theorem Hp.allocS (h:Hp w u W L ds) (S t:Nat):Hp w u (W.alloc (.cells (sL S).toArray t)) (L++[.blk W.heap.size t (tabL 8 (sC S))]) ds:=h.alloc (sL S) t
theorem Hp.alloc1 (h:Hp w u W L ds) (v:Value) (t:Nat):Hp w u (W.alloc (.cells #[v] t)) (L++[.blk W.heap.size t [v]]) ds:=h.alloc [v] t
theorem Hp.setI (h:Hp w u W L ds) (i k:Nat) (x:Int) {g t:Nat} {D:List Int} (hi:L[i]?=some (.blk g t (D.map intV))):Hp w u (W.setCell ⟨g,k,none⟩ (.int .i64 x)) (L.set i (.blk g t ((D.set k x).map intV))) ds:=by
 rw[List.map_set];exact h.set i k _ hi
theorem Hp.cI (h:Hp w u W L ds) (i k:Nat) {g t:Nat} {D:List Int} {x:Int} (hi:L[i]?=some (.blk g t (D.map intV))) (hk:D[k]?=some x):W.cell? ⟨g,k,none⟩=some (.int .i64 x):=h.c i k hi (by rw[List.getElem?_map,hk];rfl)
theorem Hp.made (h:Hp w u W L ds) {g t n:Nat} (hown:X.ownsRow w.heap.size t 1 (.slice (some ⟨g,0,none⟩) n n) n ((List.replicate n (0:Int)).map intV)) (hg:W.grownBy X none) (hl:W.heap.size≤g):Hp w u X (L++[.blk g t ((List.replicate n (0:Int)).map intV)]) ds:=
 h.pushBlk ⟨hg.os,hg.tape,hg.output,hg.size,fun k hk=>hg.block k hk (by simp)⟩ (blk_of_own hown).1 hl
end
theorem made_ints (n:Nat):(madeCells (Value.int .i64 0).cells (n * 1)).toList=(List.replicate n 0).map intV:=by
 apply List.ext_getElem?
 intro j
 by_cases hj:j<n
 ·simp[madeCells,Value.cells,hj,intV,Nat.mod_one]
 ·rw[List.getElem?_eq_none (by simp[madeCells];omega),List.getElem?_eq_none (by simp;omega)]
end Go.Proofs.YtjakdikhdndlgaaGreatDoor
namespace Go.Proofs.YtjakdikhdndlgaaGreatDoor
open Go.RowKit
def lostStep (O:List Int) (X:List Int) (r:R5):List Int:=
 if r.d≤O.getD r.a.toNat 0∧O.getD r.a.toNat 0≤r.e∧O.getD r.b.toNat 0=O.getD r.a.toNat 0 then X.set r.a.toNat (wrap64 (X.getD r.a.toNat 0+r.c)) else X
def lostF (O:List Int) (l:List R5):List Int:=l.foldl (lostStep O) (List.replicate 512 0)
theorem lostF_take {O:List Int} {l:List R5} {k:Nat} {r:R5} (h:l[k]?=some r):lostF O (l.take (k+1))=lostStep O (lostF O (l.take k)) r:=by unfold lostF;rw[List.take_add_one,h,List.foldl_append];rfl
theorem lostF_len (O:List Int) (l:List R5):(lostF O l).length=512:=by
 have:∀(l:List R5) (X:List Int),(l.foldl (lostStep O) X).length=X.length:=by
  intro l
  induction l with
  | nil=>intro X;rfl
  | cons r q ih=>intro X;rw[List.foldl_cons,ih];unfold lostStep;split<;>simp
 unfold lostF;rw[this,List.length_replicate]
theorem arr512:(∀ w,(zeroValue 89).run Tryz.prog w=.ok (.agg (Array.replicate 512 (.int .i64 0))) w)∧(Tryz.prog.info? 89).map (·.size)=some 512:=zero_of_info (by kernel_rfl)
theorem grownBy_setRow (W:World) (g:Nat) (R:Array Value):W.grownBy (W.setRow g R) (some g):=
 ⟨rfl,rfl,rfl,by simp[World.setRow],fun k _ hne=>by
  have:¬g=k:=fun e=>hne (by rw[e])
  simp[World.setRow,Array.getElem?_modify,this]⟩
theorem losses_any (A:Option Addr) (n c g:Nat) (O:List Int) (l:List R5) (w:World) (hn:n≤100000) (hl:RowS 5 R5.cell w w.heap.size A n l) (hO:Blk w g 89 (O.map intV)) (hOl:O.length=512)
  (hr:∀ r∈l,(0≤r.a∧r.a<512)∧0≤r.b∧r.b<512):
  Calls Tryz.prog 126 #[.slice A n c,.pointer (some ⟨g,0,none⟩)] w (RetPost (.agg ((lostF O l).map intV).toArray) w.heap.size w):=by
 obtain⟨Z,hZ⟩:∃ Z:Array Value,Z=Array.replicate 512 (.int .i64 0):=⟨_,rfl⟩
 have hz:=arr512.1
 rw[←hZ] at hz
 have HZ:=Eqn.mk hZ
 clear hZ
 go_enter Tryz.func126,Tryz.ntmps126
 go_upto_region 2 with fail
 have hP0:Hp w w ((w.alloc (.cells Z 89)).alloc (.cells Z 89)) [.blk w.heap.size 89 Z.toList,.blk (w.heap.size+1) 89 ((lostF O (l.take 0)).map intV)] []:=by
  have h:=((Hp.start w).alloc Z.toList 89).alloc Z.toList 89
  rw[World.size_alloc] at h
  simp only[Array.toArray_toList] at h
  have e:Z.toList=(lostF O (l.take 0)).map intV:=by rw[HZ.out];unfold lostF;rw[List.take_zero,List.foldl_nil,List.map_replicate,Array.toList_replicate];rfl
  rw[←e];exact h
 have HP0:=Lib.hid hP0
 have HL:=Lib.hid hl
 have HO:=Lib.hid hO
 have HOL:=Lib.hid hOl
 have HR:=Lib.hid hr
 have HAL:Hid (l.length=n):=Lib.hid hl.1
 have HLF:=Lib.hid (lostF_len O)
 have HZS:Hid (Z.size=512):=Lib.hid (by rw[HZ.out,Array.size_replicate])
 obtain⟨V0,hV0⟩:∃ V0,V0=(w.alloc (.cells Z 89)).alloc (.cells Z 89):=⟨_,rfl⟩
 rw[←hV0] at HP0 ⊢
 clear hV0 hP0 hl hO hOl hr hz HZ
 go_wp2_with fail
 go_loopw [11] (fun i wr=>∃ k:Nat,k≤n∧i=.int .i64 k∧Hp w w wr [.blk w.heap.size 89 Z.toList,.blk (w.heap.size+1) 89 ((lostF O (l.take k)).map intV)] []) (fun i _=>n - (intOf i).toNat)
 case atStart=>exact⟨0,Nat.zero_le _,rfl,HP0.out⟩
 case round=>
  clear HP0
  obtain⟨k,hk,rfl,hP⟩:=hrel
  have HP:=Lib.hid hP
  by_cases hlt:k<n
  ·have j0:(k:Int)<(n:Int):=by omega
   obtain⟨r,hr⟩:∃ r,l[k]?=some r:=⟨_,List.getElem?_eq_getElem (by rw[HAL.out];exact hlt)⟩
   have HST:=Eqn.mk (lostF_take (O:=O) hr)
   have HXL:=Lib.hid (HLF.out (l.take k))
   obtain⟨⟨ha0,ha1⟩,hb0,hb1⟩:=HR.out r (List.mem_of_getElem? hr)
   obtain⟨b,off,rfl,hbw,hcell⟩:=(HL.out.below hP.below).2 (by omega)
   have y0:wr.cell? ⟨b,off+k * 5,none⟩=some (.int .i64 r.a):=hcell k r hr 0 (by decide)
   have y1:wr.cell? ⟨b,off+k * 5+1,none⟩=some (.int .i64 r.b):=hcell k r hr 1 (by decide)
   have y2:wr.cell? ⟨b,off+k * 5+2,none⟩=some (.int .i64 r.c):=hcell k r hr 2 (by decide)
   have y3:wr.cell? ⟨b,off+k * 5+3,none⟩=some (.int .i64 r.d):=hcell k r hr 3 (by decide)
   have y4:wr.cell? ⟨b,off+k * 5+4,none⟩=some (.int .i64 r.e):=hcell k r hr 4 (by decide)
   obtain⟨ra,rb,rc,rd,re⟩:=r
   dsimp only at ha0 ha1 hb0 hb1 y0 y1 y2 y3 y4
   obtain⟨a',rfl⟩:∃ a':Nat,ra=(a':Int):=⟨ra.toNat,(Int.toNat_of_nonneg ha0).symm⟩
   obtain⟨b',rfl⟩:∃ b':Nat,rb=(b':Int):=⟨rb.toNat,(Int.toNat_of_nonneg hb0).symm⟩
   generalize lostF O (l.take k)=X at *
   obtain⟨oa,hoa⟩:∃ z,O[a']?=some z:=⟨_,List.getElem?_eq_getElem (by rw[HOL.out];omega)⟩
   obtain⟨ob,hob⟩:∃ z,O[b']?=some z:=⟨_,List.getElem?_eq_getElem (by rw[HOL.out];omega)⟩
   obtain⟨xa,hxa⟩:∃ z,X[a']?=some z:=⟨_,List.getElem?_eq_getElem (by rw[HXL.out];omega)⟩
   have hOB:=HO.out.keep hP.below
   have cOa:=hOB.cell (i:=a') (show (O.map intV)[a']?=some (.int .i64 oa) by rw[List.getElem?_map,hoa];rfl)
   have cOb:=hOB.cell (i:=b') (show (O.map intV)[b']?=some (.int .i64 ob) by rw[List.getElem?_map,hob];rfl)
   have cX:=hP.cI 1 a' rfl hxa
   have fX:=hP.f 1 rfl
   have lX:=hP.lt 1 rfl
   have HXA:=Lib.hid hxa
   have HLS:Eqn (lostStep O X ⟨(a':Int),(b':Int),rc,rd,re⟩) (if rd≤oa∧oa≤re∧ob=oa then X.set a' (wrap64 (xa+rc)) else X):=by
    rw[Eqn];unfold lostStep
    simp only[Int.toNat_natCast,List.getD_eq_getElem?_getD,hoa,hob,hxa,Option.getD_some]
   have hP1:=HP.out.alloc [.int .i64 (a':Int),.int .i64 (b':Int),.int .i64 rc,.int .i64 rd,.int .i64 re] 69
   obtain⟨V1,hV1⟩:∃ V1,V1=wr.alloc (.cells #[.int .i64 (a':Int),.int .i64 (b':Int),.int .i64 rc,.int .i64 rd,.int .i64 re] 69):=⟨_,rfl⟩
   rw[←hV1] at hP1
   have HP1:=Lib.hid hP1
   have HHB:=Lib.hid hOB
   clear hcell hr hP hOB cOa cOb cX fX lX
   go_upto_region 5 with fail
   rw[←hV1]
   have hV1':=hV1
   clear hV1
   have hB1:Below wr.heap.size wr V1:=by rw[hV1'];exact(Below.refl _ wr).alloc (Nat.le_refl _) _
   have hOB1:=HHB.out.keep hB1
   clear hbw hxa y0 y1 y2 y3 y4 hV1'
   have cOa:=hOB1.cell (i:=a') (show (O.map intV)[a']?=some (.int .i64 oa) by rw[List.getElem?_map,hoa];rfl)
   have cOb:=hOB1.cell (i:=b') (show (O.map intV)[b']?=some (.int .i64 ob) by rw[List.getElem?_map,hob];rfl)
   have cX:=hP1.cI 1 a' rfl HXA.out
   have fX:=hP1.f 1 rfl
   have lX:=hP1.lt 1 rfl
   have q0:=hP1.c 2 0 rfl rfl
   have q1:=hP1.c 2 1 rfl rfl
   have q2:=hP1.c 2 2 rfl rfl
   have q3:=hP1.c 2 3 rfl rfl
   have q4:=hP1.c 2 4 rfl rfl
   have lq:=hP1.lt 2 rfl
   have lg:=hOB1.lt
   clear hP1 hOB1 hoa hob hB1
   generalize wr.heap.size=p7 at *
   refine Lx.region (C:=fun _=>True) (hs:=[]) (by kernel_rfl) (by kernel_rfl) trivial ?_
   repeat' (first|((first|refine Lx.ln (fun K hK=>?_) | (first|(refine Lx.lp (v:=?_) ?_ (fun K hK=>?_);rotate_left 1;intro w' hCw;try dsimp only at hCw) | (refine Lx.lr (v:=?_) ?_ (fun K hK=>?_);rotate_left 1));go_simp;first|done | with_reducible rfl);go_simp;refine hK _ ?_;clear hK K) | (refine Lx.le (fun K hK=>?_);go_simp;(first|skip | skip);refine hK _ _ (trivial) ?_;clear hK K) | (refine Lx.lex_cases rfl rfl rfl (fun hgd K hK=>?_) (fun hgd K hK=>?_)<;>(try simp only[decide_eq_true_eq,decide_eq_false_iff_not] at hgd)<;>(first|(exfalso;omega) | (go_simp;refine hK _ ?_;clear hK K))))
   all_goals (refine Lx.lex_nil ?_)
   have HBT:=Lib.hid (fun W=>betw_any oa rd re W)
   by_cases h1:rd≤oa∧oa≤re
   ·have hb1:betwF oa rd re=true:=by unfold betwF;rw[decide_eq_true h1.1,decide_eq_true h1.2];rfl
    rw[hb1] at HBT
    by_cases h2:ob=oa
    ·subst h2
     rw[if_pos ⟨h1.1,h1.2,rfl⟩] at HLS
     clear h1 hb1
     go_wp2_with fail
     refine Lx.region (C:=fun _=>True) (hs:=[]) (by kernel_rfl) (by kernel_rfl) trivial ?_
     repeat' (first|((first|refine Lx.ln (fun K hK=>?_) | (first|(refine Lx.lp (v:=?_) ?_ (fun K hK=>?_);rotate_left 1;intro w' hCw;try dsimp only at hCw) | (refine Lx.lr (v:=?_) ?_ (fun K hK=>?_);rotate_left 1));go_simp;first|done | with_reducible rfl);go_simp;refine hK _ ?_;clear hK K) | (refine Lx.le (fun K hK=>?_);go_simp;(first|(go_at_call 103;refine(HBT.out _).mono ?_;rintro e w3 ⟨rfl,rfl⟩) | skip);refine hK _ _ (trivial) ?_;clear hK K) | (refine Lx.lex_cases rfl rfl rfl (fun hgd K hK=>?_) (fun hgd K hK=>?_)<;>(try simp only[decide_eq_true_eq,decide_eq_false_iff_not] at hgd)<;>(first|(exfalso;omega) | (go_simp;refine hK _ ?_;clear hK K))))
     all_goals (refine Lx.lex_nil ?_)
     go_wp2_with fail
     refine Lx.region (C:=fun _=>True) (hs:=[]) (by kernel_rfl) (by kernel_rfl) trivial ?_
     repeat' (first|((first|refine Lx.ln (fun K hK=>?_) | (first|(refine Lx.lp (v:=?_) ?_ (fun K hK=>?_);rotate_left 1;intro w' hCw;try dsimp only at hCw) | (refine Lx.lr (v:=?_) ?_ (fun K hK=>?_);rotate_left 1));go_simp;first|done | with_reducible rfl);go_simp;refine hK _ ?_;clear hK K) | (refine Lx.le (fun K hK=>?_);go_simp;(first|skip | skip);refine hK _ _ (trivial) ?_;clear hK K) | (refine Lx.lex_cases rfl rfl rfl (fun hgd K hK=>?_) (fun hgd K hK=>?_)<;>(try simp only[decide_eq_true_eq,decide_eq_false_iff_not] at hgd)<;>(first|(exfalso;omega) | (go_simp;refine hK _ ?_;clear hK K))))
     all_goals (refine Lx.lex_nil ?_)
     go_wp2_with fail
     go_roundw
     case rel=>exact⟨k+1,hlt,by go_num,by rw[HST.out,HLS.out];exact((HP1.out.drew.drew.drew.setI 1 a' _ rfl).sub (by simp))⟩
     case measure=>simp[intOf];omega
    ·have h3:((ob:Int) == oa)=false:=by simpa using h2
     rw[if_neg (fun h=>h2 h.2.2)] at HLS
     clear h1 hb1
     go_wp2_with fail
     refine Lx.region (C:=fun _=>True) (hs:=[]) (by kernel_rfl) (by kernel_rfl) trivial ?_
     repeat' (first|((first|refine Lx.ln (fun K hK=>?_) | (first|(refine Lx.lp (v:=?_) ?_ (fun K hK=>?_);rotate_left 1;intro w' hCw;try dsimp only at hCw) | (refine Lx.lr (v:=?_) ?_ (fun K hK=>?_);rotate_left 1));go_simp;first|done | with_reducible rfl);go_simp;refine hK _ ?_;clear hK K) | (refine Lx.le (fun K hK=>?_);go_simp;(first|(go_at_call 103;refine(HBT.out _).mono ?_;rintro e w3 ⟨rfl,rfl⟩) | skip);refine hK _ _ (trivial) ?_;clear hK K) | (refine Lx.lex_cases rfl rfl rfl (fun hgd K hK=>?_) (fun hgd K hK=>?_)<;>(try simp only[decide_eq_true_eq,decide_eq_false_iff_not] at hgd)<;>(first|(exfalso;omega) | (go_simp;refine hK _ ?_;clear hK K))))
     all_goals (refine Lx.lex_nil ?_)
     go_wp2_with fail
     go_roundw
     case rel=>exact⟨k+1,hlt,by go_num,by rw[HST.out,HLS.out];exact HP1.out.drew.drew.sub (by simp)⟩
     case measure=>simp[intOf];omega
   ·have hb1:betwF oa rd re=false:=by
     unfold betwF
     rw[←Bool.not_eq_true,Bool.and_eq_true,decide_eq_true_eq,decide_eq_true_eq];exact h1
    rw[hb1] at HBT
    rw[if_neg (fun h=>h1 ⟨h.1,h.2.1⟩)] at HLS
    clear h1 hb1
    go_wp2_with fail
    refine Lx.region (C:=fun _=>True) (hs:=[]) (by kernel_rfl) (by kernel_rfl) trivial ?_
    repeat' (first|((first|refine Lx.ln (fun K hK=>?_) | (first|(refine Lx.lp (v:=?_) ?_ (fun K hK=>?_);rotate_left 1;intro w' hCw;try dsimp only at hCw) | (refine Lx.lr (v:=?_) ?_ (fun K hK=>?_);rotate_left 1));go_simp;first|done | with_reducible rfl);go_simp;refine hK _ ?_;clear hK K) | (refine Lx.le (fun K hK=>?_);go_simp;(first|(go_at_call 103;refine(HBT.out _).mono ?_;rintro e w3 ⟨rfl,rfl⟩) | skip);refine hK _ _ (trivial) ?_;clear hK K) | (refine Lx.lex_cases rfl rfl rfl (fun hgd K hK=>?_) (fun hgd K hK=>?_)<;>(try simp only[decide_eq_true_eq,decide_eq_false_iff_not] at hgd)<;>(first|(exfalso;omega) | (go_simp;refine hK _ ?_;clear hK K))))
    all_goals (refine Lx.lex_nil ?_)
    go_wp2_with fail
    go_roundw
    case rel=>exact⟨k+1,hlt,by go_num,by rw[HST.out,HLS.out];exact HP1.out.drew.drew.sub (by simp)⟩
    case measure=>simp[intOf];omega
  ·obtain rfl:k=n:=by omega
   rw[List.take_of_length_le (by rw[HAL.out];exact Nat.le_refl _)] at HP
   have HLL:=Lib.hid (HLF.out l)
   clear hP
   go_upto_region 9 with fail
   have hsz:(Tryz.prog.info? 89).map (·.size)=some (((lostF O l).map intV).toArray).size:=by rw[arr512.2];simp[HLL.out]
   have hb1:wr.heap[w.heap.size+1]?=some (.cells ((lostF O l).map intV).toArray 89 (0,0)):=HP.out.blk 1 rfl
   have hb0:wr.heap[w.heap.size]?=some (.cells Z.toList.toArray 89 (0,0)):=HP.out.blk 0 rfl
   have HZL:Hid (Z.toList.toArray.size=(((lostF O l).map intV).toArray).size):=Lib.hid (by simp[HLL.out,HZS.out])
   have H1:=Lib.hid hsz
   have HB0:=Lib.hid hb0
   have HB1:=Lib.hid hb1
   have HBL:=Lib.hid HP.out.below
   have HA1:Hid ((((lostF O l).map intV).toArray).all (·.oneCell')=true):=Lib.hid (by simp[intV,Value.oneCell'])
   generalize ((lostF O l).map intV).toArray=R at *
   generalize Z.toList.toArray=Z' at *
   clear hsz hb0 hb1 HP
   go_wp2_with (first
    | (refine wpList_load_row rfl 89 _ rfl (w.heap.size+1) rfl _ R (0,0) _ HB1.out Tryz.underlying89 rfl H1.out ?_)
    | (refine wpList_store_row rfl 89 _ _ rfl w.heap.size R rfl rfl _ Z' HB0.out H1.out HZL.out HA1.out ?_))
   have hrow:(wr.setRow w.heap.size R).heap[w.heap.size]?=some (.cells R 89 (0,0)):=by simp[World.setRow,Array.getElem?_modify,HB0.out]
   refine bodyPost_ret (v:=.agg R) (results_cell_row (p:=4) Tryz.results126 _ _ w.heap.size _ R (0,0) _ rfl hrow Tryz.underlying89 rfl H1.out) rfl ⟨rfl,?_⟩
   exact HBL.out.grown (grownBy_setRow wr w.heap.size R) HBL.out.size (fun g hg=>by cases hg;exact Nat.le_refl _)
theorem vlGo_cons (prev:Option Int) (x:Int×Int) (r:List (Int×Int)):vlGo prev (x::r)=if stF x.1&&betwF x.2 2 51&&!notUp prev x.1 then vlGo (some x.1) r else false:=by
 rw[vlGo]
 unfold betwF
 by_cases h:stF x.1=false∨x.2<2∨51<x.2∨notUp prev x.1=true
 ·rw[if_pos h,if_neg]
  rw[Bool.and_eq_true,Bool.and_eq_true,Bool.and_eq_true,decide_eq_true_eq,decide_eq_true_eq]
  rintro⟨⟨h1,h2,h3⟩,h4⟩
  rcases h with h | h | h | h
  ·rw[h] at h1;cases h1
  ·omega
  ·omega
  ·rw[h] at h4;cases h4
 ·rw[if_neg h,if_pos]
  rw[Bool.and_eq_true,Bool.and_eq_true,Bool.and_eq_true,decide_eq_true_eq,decide_eq_true_eq]
  simp only[not_or,Bool.not_eq_false] at h
  refine⟨⟨h.1,by omega,by omega⟩,?_⟩
  have:=h.2.2.2
  cases hu:notUp prev x.1 with
  | false=>rfl
  | true=>exact absurd hu this
theorem pvl_any (A:Option Addr) (n c:Nat) (w:World) (l:List (Int×Int)) (hn:n≤9223372036854775807) (hl:RowS 2 chC w w.heap.size A n l):
  Calls Tryz.prog 56 #[.slice A n c] w (RetPost (.bool (vlGo none l)) w.heap.size w):=by
 have Hl:=Lib.hid hl
 have Hlen:=Eqn.mk hl.1
 have HIS:=Lib.hid (fun x W=>isSt_any x W)
 have HBT:=Lib.hid (fun x W=>betw_any x 2 51 W)
 clear hl
 go_enter Tryz.func56,Tryz.ntmps56
 go_wp2_with fail
 go_loopw [7] (fun i wr=>∃ k:Nat,k≤n∧i=.int .i64 k∧Eqn (vlGo none l) (vlGo (prevOf Prod.fst l k) (l.drop k))∧Below w.heap.size w wr) (fun i _=>n - (intOf i).toNat)
 case atStart=>exact⟨0,Nat.zero_le _,rfl,rfl,Below.refl _ _⟩
 case round=>
  obtain⟨k,hk,rfl,HR,hB⟩:=hrel
  have HB:=Lib.hid hB
  have hbs:=hB.size
  by_cases hlt:k<n
  ·have j0:(k:Int)<(n:Int):=by omega
   obtain⟨x,hx,hxd⟩:=drop_at (xs:=l) (k:=k) (by rw[Hlen.out];exact hlt)
   obtain⟨b,off,hA,hbl,hc⟩:=(Hl.out.below hB).2 (by omega)
   subst hA
   have HR2:=HR.out
   rw[hxd,vlGo_cons] at HR2
   have hnx:prevOf Prod.fst l (k+1)=some x.1:=by rw[prevOf_succ,hx];rfl
   rw[←hnx] at HR2
   have c0:wr.cell? ⟨b,off+k * 2,none⟩=some (.int .i64 x.1):=hc k x hx 0 (by omega)
   have c1:wr.cell? ⟨b,off+k * 2+1,none⟩=some (.int .i64 x.2):=hc k x hx 1 (by omega)
   have HPV:Hid (0<k→∃ q:Int,wr.cell? ⟨b,off+(k - 1) * 2,none⟩=some (.int .i64 q)∧notUp (prevOf Prod.fst l k) x.1=decide (x.1≤q)):=Lib.hid (fun h0=>by
    obtain⟨q,hq,_⟩:=drop_at (xs:=l) (k:=k - 1) (by rw[Hlen.out];omega)
    refine⟨q.1,hc (k - 1) q hq 0 (by omega),?_⟩
    unfold prevOf;rw[if_neg (by omega),hq];rfl)
   have HP0:Hid (k=0→notUp (prevOf Prod.fst l k) x.1=false):=Lib.hid (fun h=>by subst h;rfl)
   obtain⟨xs,xc⟩:=x
   dsimp only at *
   have HRR:=Lib.hid HR2
   obtain⟨V1,hV1⟩:∃ V1,V1=wr.alloc (.cells #[.int .i64 xs,.int .i64 xc] 75):=⟨_,rfl⟩
   have hP1:=(Hp.start wr).alloc [.int .i64 xs,.int .i64 xc] 75
   have hbw:b<wr.heap.size:=by omega
   rw[show ([.int .i64 xs,.int .i64 xc]:List Value).toArray=#[.int .i64 xs,.int .i64 xc] from rfl,←hV1] at hP1
   have HP1:=Lib.hid hP1
   clear hc hx hxd HR HR2 hB hnx
   go_upto_region 4 with fail
   rw[←hV1]
   clear hV1 c0 c1
   have HB1:=Lib.hid (HB.out.trans (hP1.below.mono hbs))
   have q0:=hP1.c 0 0 rfl rfl
   have q1:=hP1.c 0 1 rfl rfl
   have l1:=hP1.lt 0 rfl
   have hbv:b<V1.heap.size:=by have:=hP1.below.size;omega
   have HIS1:=HIS.out xs V1
   have HBT1:=HBT.out xc V1
   clear hP1
   generalize hs:stF xs=s1 at *
   generalize hb:betwF xc 2 51=s2 at *
   clear hs hb
   cases s1 with
   | false=>
    have HV:Hid (vlGo none l=false):=Lib.hid (HRR.out.trans (if_neg (by simp)))
    have HIS2:=Lib.hid HIS1
    clear HRR HIS1 HBT1
    generalize wr.heap.size=p4 at *
    go_wp2_with fail
    refine HIS2.out.mono ?_
    rintro e w1 ⟨rfl,rfl⟩
    go_wp2_with fail
    go_ret
    exact⟨ret_bool HV.out.symm,HB1.out⟩
   | true=>
    cases s2 with
    | false=>
     have HV:Hid (vlGo none l=false):=Lib.hid (HRR.out.trans (if_neg (by simp)))
     have HIS2:=Lib.hid HIS1
     have HBT2:=Lib.hid HBT1
     clear HRR HIS1 HBT1
     generalize wr.heap.size=p4 at *
     go_wp2_with fail
     refine HIS2.out.mono ?_
     rintro e w1 ⟨rfl,rfl⟩
     go_wp2_with fail
     refine HBT2.out.mono ?_
     rintro e w1 ⟨rfl,rfl⟩
     go_wp2_with fail
     go_ret
     exact⟨ret_bool HV.out.symm,HB1.out⟩
    | true=>
     have HIS2:=Lib.hid HIS1
     have HBT2:=Lib.hid HBT1
     clear HIS1 HBT1
     by_cases h0:0<k
     ·obtain⟨q,hq,hu⟩:=HPV.out h0
      have hq1:V1.cell? ⟨b,off+(k - 1) * 2,none⟩=some (.int .i64 q):=(HP1.out.below.cell (p:=⟨b,off+(k - 1) * 2,none⟩) hbw).trans hq
      clear hq
      obtain⟨k',hk'⟩:∃ k',k - 1=k':=⟨_,rfl⟩
      rw[hk'] at hq1
      have k1:decide ((0:Int)<(k:Int))=true:=decide_eq_true (by omega)
      have k5:decide (0<k)=true:=decide_eq_true h0
      have e1:IntKind.i64.wrap ((k:Int) - 1)=(k':Int):=by rw[IntWalk.i64_in _ (by omega)];omega
      have e3:(k:Int) - 1=(k':Int):=by omega
      have e9:IntKind.i64.wrap (k':Int)=(k':Int):=by rw[IntWalk.i64_in _ (by omega)]
      have e4:(0:Int)≤(k':Int):=by omega
      have e5:(k':Int)<(n:Int):=by omega
      by_cases b3:xs≤q
      ·have HV:Hid (vlGo none l=false):=Lib.hid (HRR.out.trans (if_neg (by rw[hu,decide_eq_true b3];simp)))
       clear HRR hk' hu
       generalize wr.heap.size=p4 at *
       go_wp2_with fail
       refine HIS2.out.mono ?_
       rintro e w1 ⟨rfl,rfl⟩
       go_wp2_with fail
       refine HBT2.out.mono ?_
       rintro e w1 ⟨rfl,rfl⟩
       go_wp2_with fail
       refine Lx.region (C:=fun _=>True) (hs:=[]) (by kernel_rfl) (by kernel_rfl) trivial ?_
       repeat' (first|((first|refine Lx.ln (fun K hK=>?_) | (first|(refine Lx.lp (v:=?_) ?_ (fun K hK=>?_);rotate_left 1;intro w' hCw;try dsimp only at hCw) | (refine Lx.lr (v:=?_) ?_ (fun K hK=>?_);rotate_left 1));go_simp;first|done | with_reducible rfl);go_simp;refine hK _ ?_;clear hK K) | (refine Lx.le (fun K hK=>?_);go_simp;(first|skip | skip);refine hK _ _ (trivial) ?_;clear hK K) | (refine Lx.lex_cases rfl rfl rfl (fun hgd K hK=>?_) (fun hgd K hK=>?_)<;>(try simp only[decide_eq_true_eq,decide_eq_false_iff_not] at hgd)<;>(first|(exfalso;omega) | (go_simp;refine hK _ ?_;clear hK K))))
       all_goals (refine Lx.lex_nil ?_)
       go_wp2_with fail
       go_ret
       exact⟨ret_bool HV.out.symm,HB1.out.drew⟩
      ·have HV:Hid (vlGo none l=vlGo (prevOf Prod.fst l (k+1)) (l.drop (k+1))):=Lib.hid (HRR.out.trans (if_pos (by rw[hu,decide_eq_false b3];rfl)))
       clear HRR hk' hu
       generalize wr.heap.size=p4 at *
       go_wp2_with fail
       refine HIS2.out.mono ?_
       rintro e w1 ⟨rfl,rfl⟩
       go_wp2_with fail
       refine HBT2.out.mono ?_
       rintro e w1 ⟨rfl,rfl⟩
       go_wp2_with fail
       refine Lx.region (C:=fun _=>True) (hs:=[]) (by kernel_rfl) (by kernel_rfl) trivial ?_
       repeat' (first|((first|refine Lx.ln (fun K hK=>?_) | (first|(refine Lx.lp (v:=?_) ?_ (fun K hK=>?_);rotate_left 1;intro w' hCw;try dsimp only at hCw) | (refine Lx.lr (v:=?_) ?_ (fun K hK=>?_);rotate_left 1));go_simp;first|done | with_reducible rfl);go_simp;refine hK _ ?_;clear hK K) | (refine Lx.le (fun K hK=>?_);go_simp;(first|skip | skip);refine hK _ _ (trivial) ?_;clear hK K) | (refine Lx.lex_cases rfl rfl rfl (fun hgd K hK=>?_) (fun hgd K hK=>?_)<;>(try simp only[decide_eq_true_eq,decide_eq_false_iff_not] at hgd)<;>(first|(exfalso;omega) | (go_simp;refine hK _ ?_;clear hK K))))
       all_goals (refine Lx.lex_nil ?_)
       clear e1 e3 e9 e4 e5 k1 k5
       go_wp2_with fail
       go_roundw
       case rel=>exact⟨k+1,hlt,by go_num,HV.out,HB1.out.drew⟩
       case measure=>simp[intOf];omega
     ·have hk0:k=0:=by omega
      have hu:=HP0.out hk0
      have HV:Hid (vlGo none l=vlGo (prevOf Prod.fst l (k+1)) (l.drop (k+1))):=Lib.hid (HRR.out.trans (if_pos (by rw[hu];rfl)))
      have k1:decide ((0:Int)<(k:Int))=false:=decide_eq_false (by omega)
      have k5:decide (0<k)=false:=decide_eq_false h0
      clear HRR hk0 hu
      generalize wr.heap.size=p4 at *
      go_wp2_with fail
      refine HIS2.out.mono ?_
      rintro e w1 ⟨rfl,rfl⟩
      go_wp2_with fail
      refine HBT2.out.mono ?_
      rintro e w1 ⟨rfl,rfl⟩
      go_wp2_with fail
      refine Lx.region (C:=fun _=>True) (hs:=[]) (by kernel_rfl) (by kernel_rfl) trivial ?_
      repeat' (first|((first|refine Lx.ln (fun K hK=>?_) | (first|(refine Lx.lp (v:=?_) ?_ (fun K hK=>?_);rotate_left 1;intro w' hCw;try dsimp only at hCw) | (refine Lx.lr (v:=?_) ?_ (fun K hK=>?_);rotate_left 1));go_simp;first|done | with_reducible rfl);go_simp;refine hK _ ?_;clear hK K) | (refine Lx.le (fun K hK=>?_);go_simp;(first|skip | skip);refine hK _ _ (trivial) ?_;clear hK K) | (refine Lx.lex_cases rfl rfl rfl (fun hgd K hK=>?_) (fun hgd K hK=>?_)<;>(try simp only[decide_eq_true_eq,decide_eq_false_iff_not] at hgd)<;>(first|(exfalso;omega) | (go_simp;refine hK _ ?_;clear hK K))))
      all_goals (refine Lx.lex_nil ?_)
      clear k1 k5
      go_wp2_with fail
      go_roundw
      case rel=>exact⟨k+1,hlt,by go_num,HV.out,HB1.out.drew⟩
      case measure=>simp[intOf];omega
  ·obtain rfl:k=n:=by omega
   have HV:Hid (vlGo none l=true):=Lib.hid (by rw[HR.out,List.drop_of_length_le (by rw[Hlen.out];exact Nat.le_refl _)];rfl)
   clear hB HR
   go_wp2_with fail
   go_ret
   exact⟨ret_bool HV.out.symm,HB.out⟩
end Go.Proofs.YtjakdikhdndlgaaGreatDoor
