/- Lemmas of the proof, part 2. Conditions: none. -/
import Derived.KernelRfl
import Derived.IntWalk
import Derived.Test.YtjakdikhdndlgaaGreatDoorBas01
set_option maxRecDepth 100000
set_option maxHeartbeats 2000000
namespace Go.Proofs.YtjakdikhdndlgaaGreatDoor
open Go.RowKit
theorem own_fresh {W:World} {base e size n:Nat} {v:Value} {xs:List Value} (h:W.ownsRow base e size v n xs) {k:Nat} (hk:W.heap.size≤k):some k≠v.ownBlock:=by
 rcases h.2 with ⟨rfl,_⟩ | ⟨g',cap,cur,rfl,_,hgb,_⟩
 ·simp[Value.ownBlock]
 ·intro e'
  simp[Value.ownBlock] at e'
  have:=(Array.getElem?_eq_some_iff.1 hgb).1
  omega
def sameL:List Int→List Int→Bool
 | [],[]=>true
 | x::r,y::s=>if x=y then sameL r s else false
 | _,_=>false
theorem sameL_refl (l:List Int):sameL l l=true:=by induction l with | nil=>rfl | cons x r ih=>simp[sameL,ih]
theorem sameL_iff:∀(a b:List Int),sameL a b=true↔a=b:=by
 intro a
 induction a with
 | nil=>intro b;cases b<;>simp[sameL]
 | cons x r ih=>
  intro b
  cases b with
  | nil=>simp[sameL]
  | cons y s=>
   rw[sameL]
   by_cases h:x=y
   ·rw[if_pos h,ih,h];simp
   ·rw[if_neg h];simp[h]
theorem sameL_len {a b:List Int} (h:a.length≠b.length):sameL a b=false:=by
 cases hs:sameL a b with
 | false=>rfl
 | true=>exact absurd (congrArg List.length ((sameL_iff a b).1 hs)) h
theorem sameInts_any (A B:Option Addr) (n c m d:Nat) (w:World) (D:Nat) (a b:List Int) (hn:n≤100000) (ha:Row1 intV w D A n a) (hb:Row1 intV w D B m b):
  Calls Tryz.prog 17 #[.slice A n c,.slice B m d] w fun e w'=>e=.returned (.bool (sameL a b))∧Below D w w':=by
 have Ha:=Lib.hid ha
 have Hb:=Lib.hid hb
 have Hla:=Eqn.mk ha.1
 have Hlb:=Eqn.mk hb.1
 clear ha hb
 by_cases hnm:n=m
 ·subst hnm
  go_enter Tryz.func17,Tryz.ntmps17
  go_wp2_with fail
  go_loopw [5] (fun i wr=>∃ k:Nat,k≤n∧i=.int .i64 k∧Eqn (sameL a b) (sameL (a.drop k) (b.drop k))∧Below D w wr) (fun i _=>n - (intOf i).toNat)
  case atStart=>exact⟨0,Nat.zero_le _,rfl,rfl,Below.refl _ _⟩
  case round=>
   obtain⟨k,hk,rfl,HE,hB⟩:=hrel
   have HB:=Lib.hid hB
   by_cases hlt:k<n
   ·obtain⟨x,hx,hxd⟩:=drop_at (xs:=a) (k:=k) (by rw[Hla.out];exact hlt)
    obtain⟨y,hy,hyd⟩:=drop_at (xs:=b) (k:=k) (by rw[Hlb.out];exact hlt)
    obtain⟨b1,o1,hA,hl1,hc1⟩:=(Ha.out.below hB).2 (by omega)
    obtain⟨b2,o2,hB2,hl2,hc2⟩:=(Hb.out.below hB).2 (by omega)
    subst hA hB2
    have c1:=hc1 k x hx
    have c2:=hc2 k y hy
    simp only[intV] at c1 c2
    have HE2:=HE.out
    rw[hxd,hyd,sameL] at HE2
    have j0:(k:Int)<(n:Int):=by omega
    clear hc1 hc2 hx hy hxd hyd HE hB
    by_cases he:x=y
    ·have HV:=Eqn.mk (HE2.trans (if_pos he))
     have hd:(x == y)=true:=by simpa using he
     have hd2:(x != y)=false:=by simpa using he
     clear HE2 he
     go_wp2_with fail
     refine Lx.region (C:=fun _=>True) (hs:=[]) (by kernel_rfl) (by kernel_rfl) trivial ?_
     repeat' (first|((first|refine Lx.ln (fun K hK=>?_) | (first|(refine Lx.lp (v:=?_) ?_ (fun K hK=>?_);rotate_left 1;intro w' hCw;try dsimp only at hCw) | (refine Lx.lr (v:=?_) ?_ (fun K hK=>?_);rotate_left 1));go_simp;first|done | with_reducible rfl);go_simp;refine hK _ ?_;clear hK K) | (refine Lx.le (fun K hK=>?_);go_simp;(first|fail | skip);refine hK _ _ (trivial) ?_;clear hK K) | (refine Lx.lex_cases rfl rfl rfl (fun hgd K hK=>?_) (fun hgd K hK=>?_)<;>(try simp only[decide_eq_true_eq,decide_eq_false_iff_not] at hgd)<;>(first|(exfalso;omega) | (go_simp;refine hK _ ?_;clear hK K))))
     all_goals (refine Lx.lex_nil ?_)
     go_wp2_with fail
     go_roundw
     case rel=>exact⟨k+1,by omega,by go_num,HV,HB.out.drew⟩
     case measure=>simp[intOf];omega
    ·have HV:=Eqn.mk (HE2.trans (if_neg he))
     have hd:(x == y)=false:=by simpa using he
     have hd2:(x != y)=true:=by simpa using he
     clear HE2 he
     go_wp2_with fail
     refine Lx.region (C:=fun _=>True) (hs:=[]) (by kernel_rfl) (by kernel_rfl) trivial ?_
     repeat' (first|((first|refine Lx.ln (fun K hK=>?_) | (first|(refine Lx.lp (v:=?_) ?_ (fun K hK=>?_);rotate_left 1;intro w' hCw;try dsimp only at hCw) | (refine Lx.lr (v:=?_) ?_ (fun K hK=>?_);rotate_left 1));go_simp;first|done | with_reducible rfl);go_simp;refine hK _ ?_;clear hK K) | (refine Lx.le (fun K hK=>?_);go_simp;(first|fail | skip);refine hK _ _ (trivial) ?_;clear hK K) | (refine Lx.lex_cases rfl rfl rfl (fun hgd K hK=>?_) (fun hgd K hK=>?_)<;>(try simp only[decide_eq_true_eq,decide_eq_false_iff_not] at hgd)<;>(first|(exfalso;omega) | (go_simp;refine hK _ ?_;clear hK K))))
     all_goals (refine Lx.lex_nil ?_)
     go_wp2_with fail
     go_ret
     exact⟨ret_bool HV.out.symm,HB.out.drew⟩
   ·have HV:Eqn (sameL a b) true:=by rw[Eqn,HE.out,drop_end (by rw[Hla.out];omega),drop_end (by rw[Hlb.out];omega)];rfl
    clear HE hB
    go_wp2_with fail
    go_ret
    exact⟨ret_bool HV.out.symm,HB.out⟩
 ·have HV:=Eqn.mk (sameL_len (a:=a) (b:=b) (by rw[Hla.out,Hlb.out];exact hnm))
  have hne:((n:Int) != (m:Int))=true:=by simp;omega
  go_enter Tryz.func17,Tryz.ntmps17
  go_wp2_with fail
  go_ret
  exact⟨ret_bool HV.out.symm,Below.refl _ _⟩
structure R5 where
 a:Int
 b:Int
 c:Int
 d:Int
 e:Int
deriving DecidableEq
structure R4 where
 a:Int
 b:Int
 c:Int
 d:Int
deriving DecidableEq
structure Dom where
 st:Int
 adr:Option Addr
 len:Nat
 cap:Nat
 chs:List Int
def R5.cell (x:R5):Nat→Value
 | 0=>.int .i64 x.a
 | 1=>.int .i64 x.b
 | 2=>.int .i64 x.c
 | 3=>.int .i64 x.d
 | _=>.int .i64 x.e
def R5.val (x:R5):Value:=.agg #[.int .i64 x.a,.int .i64 x.b,.int .i64 x.c,.int .i64 x.d,.int .i64 x.e]
def R4.cell (x:R4):Nat→Value
 | 0=>.int .i64 x.a
 | 1=>.int .i64 x.b
 | 2=>.int .i64 x.c
 | _=>.int .i64 x.d
def R4.val (x:R4):Value:=.agg #[.int .i64 x.a,.int .i64 x.b,.int .i64 x.c,.int .i64 x.d]
def Dom.cell (x:Dom):Nat→Value
 | 0=>.int .i64 x.st
 | _=>.slice x.adr x.len x.cap
def Dom.val (x:Dom):Value:=.agg #[.int .i64 x.st,.slice x.adr x.len x.cap]
def DomsAt (w:World) (D:Nat) (A:Option Addr) (n:Nat) (ds:List Dom):Prop:=RowS 2 Dom.cell w D A n ds∧∀ d∈ds,Row1 intV w D d.adr d.len d.chs
theorem DomsAt.below {w w':World} {D:Nat} {A:Option Addr} {n:Nat} {ds:List Dom} (h:DomsAt w D A n ds) (hb:Below D w w'):DomsAt w' D A n ds:=⟨h.1.below hb,fun b hm=>(h.2 b hm).below hb⟩
theorem DomsAt.up {w:World} {D D':Nat} {A:Option Addr} {n:Nat} {ds:List Dom} (h:DomsAt w D A n ds) (hD:D≤D'):DomsAt w D' A n ds:=⟨h.1.up hD,fun b hm=>(h.2 b hm).up hD⟩
theorem DomsAt.keep {w w':World} {A:Option Addr} {n:Nat} {ds:List Dom} (h:DomsAt w w.heap.size A n ds) (hb:Below w.heap.size w w'):DomsAt w' w'.heap.size A n ds:=(h.below hb).up hb.size
def Dom.say (d:Dom):Int×List Int:=(d.st,d.chs)
structure Rul where
 pairs:List R5
 loads:List R5
 caps:List R4
deriving DecidableEq
def stF (n:Int):Bool:=decide (0≤n)&&decide (n≤511)
def spF (lo hi:Int):Bool:=decide (2≤lo)&&decide (lo≤hi)&&decide (hi≤51)
def goodP (x:R5):Bool:=stF x.a&&stF x.b&&decide (x.a<x.b)&&(decide (-1≤x.c)&&decide (x.c≤1))&&spF x.d x.e
def goodL (x:R5):Bool:=stF x.a&&stF x.b&&!decide (x.a=x.b)&&(decide (1≤x.c)&&decide (x.c≤1073741824))&&spF x.d x.e
def goodC (x:R4):Bool:=stF x.a&&(decide (0≤x.b)&&decide (x.b≤1099511627776))&&spF x.c x.d
def cmpF (x y:Int):Int:=if x<y then -1 else if y<x then 1 else 0
def orL5:List Int→Int
 | []=>0
 | x::r=>if x≠0 then x else orL5 r
def cmp5 (x y:R5):Int:=orL5 [cmpF x.a y.a,cmpF x.b y.b,cmpF x.c y.c,cmpF x.d y.d,cmpF x.e y.e]
def cmp4 (x y:R4):Int:=orL5 [cmpF x.a y.a,cmpF x.b y.b,cmpF x.c y.c,cmpF x.d y.d]
def incF {α:Type} (cmp:α→α→Int):List α→Bool
 | []=>true
 | x::r=>match r with | []=>true | y::_=>if 0≤cmp x y then false else incF cmp r
def rulesF (r:Rul):Bool:=decide (r.pairs.length≤4096)&&r.pairs.all goodP&&incF cmp5 r.pairs&&decide (r.loads.length≤1024)&&r.loads.all goodL&&incF cmp5 r.loads&&decide (r.caps.length≤1024)&&r.caps.all goodC&&incF cmp4 r.caps
def lessL:List Int→List Int→Bool
 | x::r,y::s=>if x≠y then decide (x<y) else lessL r s
 | _,_=>false
def R5.nums (x:R5):List Int:=[x.a,x.b,x.c,x.d,x.e]
def R4.nums (x:R4):List Int:=[x.a,x.b,x.c,x.d]
theorem orL_less:∀(l:List (Int×Int)),decide (0≤orL5 (l.map fun p=>cmpF p.1 p.2))=!lessL (l.map (·.1)) (l.map (·.2)):=by
 intro l
 induction l with
 | nil=>rfl
 | cons p r ih=>
  simp only[List.map_cons,orL5,lessL]
  by_cases h:p.1=p.2
  ·have h0:cmpF p.1 p.2=0:=by unfold cmpF;rw[h];simp
   rw[h0,if_neg (by simp),if_neg (by simp[h]),ih]
  ·rw[if_pos h]
   by_cases h2:p.1<p.2
   ·have h0:cmpF p.1 p.2=-1:=by unfold cmpF;simp[h2]
    rw[h0,if_pos (by decide)]
    simp[h2]
   ·have h0:cmpF p.1 p.2=1:=by unfold cmpF;rw[if_neg h2,if_pos (by omega)]
    rw[h0,if_pos (by decide)]
    simp;omega
theorem cmp5_less (x y:R5):decide (0≤cmp5 x y)=!lessL x.nums y.nums:=orL_less [(x.a,y.a),(x.b,y.b),(x.c,y.c),(x.d,y.d),(x.e,y.e)]
theorem cmp4_less (x y:R4):decide (0≤cmp4 x y)=!lessL x.nums y.nums:=orL_less [(x.a,y.a),(x.b,y.b),(x.c,y.c),(x.d,y.d)]
def goF {α:Type} (good:α→Bool) (nums:α→List Int):Option α→List α→Bool
 | _,[]=>true
 | prev,x::r=>if good x&&(match prev with | none=>true | some y=>lessL (nums y) (nums x)) then goF good nums (some x) r else false
theorem goF_eq {α:Type} (good:α→Bool) (nums:α→List Int) (cmp:α→α→Int) (hc:∀ x y,decide (0≤cmp x y)=!lessL (nums x) (nums y)):
  ∀(l:List α) (x:α),goF good nums (some x) l=(l.all good&&incF cmp (x::l)):=by
 intro l
 induction l with
 | nil=>intro x;rfl
 | cons y r ih=>
  intro x
  rw[goF,ih,List.all_cons,incF]
  have h:=hc x y
  by_cases hg:good y=true
  ·by_cases hl:lessL (nums x) (nums y)=true
   ·rw[hl] at h
    have h2:¬0≤cmp x y:=by simpa using h
    simp[hg,hl,h2]
   ·have hl':lessL (nums x) (nums y)=false:=by simpa using hl
    rw[hl'] at h
    have h2:0≤cmp x y:=by simpa using h
    simp[hg,hl',h2]
  ·simp[hg]
theorem goF_none {α:Type} (good:α→Bool) (nums:α→List Int) (cmp:α→α→Int) (hc:∀ x y,decide (0≤cmp x y)=!lessL (nums x) (nums y)) (l:List α):goF good nums none l=(l.all good&&incF cmp l):=by
 cases l with
 | nil=>rfl
 | cons x r=>rw[goF,goF_eq good nums cmp hc,List.all_cons];by_cases h:good x=true<;>simp[h]
def rulesR (r:Rul):Bool:=if 4096<r.pairs.length∨1024<r.loads.length∨1024<r.caps.length then false else goF goodP R5.nums none r.pairs&&goF goodL R5.nums none r.loads&&goF goodC R4.nums none r.caps
theorem rules_eq (r:Rul):rulesR r=rulesF r:=by
 unfold rulesR rulesF
 rw[goF_none _ _ _ cmp5_less,goF_none _ _ _ cmp5_less,goF_none _ _ _ cmp4_less]
 by_cases h1:r.pairs.length≤4096
 ·by_cases h2:r.loads.length≤1024
  ·by_cases h3:r.caps.length≤1024
   ·rw[if_neg (by omega)]
    simp[h1,h2,h3,Bool.and_assoc]
   ·rw[if_pos (by omega)];simp[h3]
  ·rw[if_pos (by omega)];simp[h2]
 ·rw[if_pos (by omega)];simp[h1]
theorem isNaN_any (x:Int) (w:World):Calls Tryz.prog 124 #[.int .i64 x] w fun e w'=>e=.returned (.bool false)∧w=w':=by
 have h:(x != x)=false:=by simp
 go_enter Tryz.func124,Tryz.ntmps124
 go_wp2
 go_ret
 exact⟨rfl,rfl⟩
theorem compare_any (x y:Int) (w:World):Calls Tryz.prog 78 #[.int .i64 x,.int .i64 y] w fun e w'=>e=.returned (.int .i64 (cmpF x y))∧w=w':=by
 unfold cmpF
 by_cases h1:x<y
 ·rw[if_pos h1]
  go_enter Tryz.func78,Tryz.ntmps78
  go_wp2_with (go_at_call 124;refine(isNaN_any _ _).mono ?_;rintro e w' ⟨rfl,rfl⟩)
  go_ret
  exact⟨rfl,rfl⟩
 ·rw[if_neg h1]
  by_cases h2:y<x
  ·rw[if_pos h2]
   go_enter Tryz.func78,Tryz.ntmps78
   go_wp2_with (go_at_call 124;refine(isNaN_any _ _).mono ?_;rintro e w' ⟨rfl,rfl⟩)
   go_ret
   exact⟨rfl,rfl⟩
  ·rw[if_neg h2]
   go_enter Tryz.func78,Tryz.ntmps78
   go_wp2_with (go_at_call 124;refine(isNaN_any _ _).mono ?_;rintro e w' ⟨rfl,rfl⟩)
   go_ret
   exact⟨rfl,rfl⟩
theorem orS_any (A:Option Addr) (n c:Nat) (w:World) (D:Nat) (l:List Int) (hn:n≤100000) (hl:Row1 intV w D A n l):
  Calls Tryz.prog 129 #[.slice A n c] w fun e w'=>e=.returned (.int .i64 (orL5 l))∧w=w':=by
 have Hl:=Lib.hid hl
 have Hlen:=Eqn.mk hl.1
 clear hl
 go_enter Tryz.func129,Tryz.ntmps129
 go_wp2
 go_loop [8] (fun i=>∃ k:Nat,k≤n∧i=.int .i64 k∧Eqn (orL5 l) (orL5 (l.drop k))) (fun i=>n - (intOf i).toNat)
 case atStart=>exact⟨0,Nat.zero_le _,rfl,rfl⟩
 case round=>
  obtain⟨k,hk,rfl,HR⟩:=hrel
  by_cases hlt:k<n
  ·obtain⟨p,hp,hpd⟩:=drop_at (xs:=l) (k:=k) (by rw[Hlen.out];exact hlt)
   obtain⟨b,off,rfl,hbl,hc⟩:=Hl.out.2 (by omega)
   have c0:=hc k p hp
   simp only[intV] at c0
   have HR':Eqn (orL5 l) (if p≠0 then p else orL5 (l.drop (k+1))):=by
    have:=HR.out;rw[hpd,orL5] at this;exact this
   have j0:(k:Int)<(n:Int):=by omega
   clear hc hp hpd HR
   by_cases he:p=0
   ·have hd:(p != 0)=false:=by simpa using he
    have HR2:Eqn (orL5 l) (orL5 (l.drop (k+1))):=by rw[Eqn,HR'.out,if_neg (by simpa using he)]
    clear he HR'
    go_wp2
    go_round
    case rel=>exact⟨k+1,by omega,by go_num,HR2⟩
    case measure=>simp[intOf];omega
   ·have hd:(p != 0)=true:=by simpa using he
    have HR2:Eqn (orL5 l) p:=by rw[Eqn,HR'.out,if_pos he]
    clear he HR'
    go_wp2
    go_ret
    exact⟨ret_int HR2.out.symm,rfl⟩
  ·have HR2:Eqn (orL5 l) 0:=by rw[Eqn,HR.out,drop_end (by rw[Hlen.out];omega)];rfl
   clear HR
   go_wp2
   go_ret
   exact⟨ret_int HR2.out.symm,rfl⟩
def betwF (n lo hi:Int):Bool:=decide (lo≤n)&&decide (n≤hi)
theorem betw_any (n lo hi:Int) (w:World):Calls Tryz.prog 103 #[.int .i64 n,.int .i64 lo,.int .i64 hi] w fun e w'=>e=.returned (.bool (betwF n lo hi))∧w=w':=by
 unfold betwF
 by_cases h1:lo≤n
 ·go_enter Tryz.func103,Tryz.ntmps103
  go_wp2
  go_ret
  exact⟨ret_bool (by first|(simp;omega) | simp[h1]),rfl⟩
 ·go_enter Tryz.func103,Tryz.ntmps103
  go_wp2
  go_ret
  exact⟨ret_bool (by first|(simp;omega) | simp[h1]),rfl⟩
theorem isSt_any (n:Int) (w:World):Calls Tryz.prog 102 #[.int .i64 n] w fun e w'=>e=.returned (.bool (stF n))∧w=w':=by
 have HB:=Lib.hid (betw_any n 0 511 w)
 have hs:betwF n 0 511=stF n:=rfl
 rw[hs] at HB
 generalize stF n=r at *
 clear hs
 go_enter Tryz.func102,Tryz.ntmps102
 go_wp2_with fail
 refine HB.out.mono ?_
 rintro e w' ⟨rfl,rfl⟩
 go_wp2_with fail
 go_ret
 exact⟨rfl,rfl⟩
theorem isRg_any (lo hi:Int) (w:World):Calls Tryz.prog 128 #[.int .i64 lo,.int .i64 hi] w fun e w'=>e=.returned (.bool (spF lo hi))∧w=w':=by
 unfold spF
 by_cases h1:2≤lo
 ·by_cases h2:lo≤hi
  ·go_enter Tryz.func128,Tryz.ntmps128
   go_wp2
   go_ret
   exact⟨ret_bool (by first|(simp;omega) | simp[h1,h2]),rfl⟩
  ·go_enter Tryz.func128,Tryz.ntmps128
   go_wp2
   go_ret
   exact⟨ret_bool (by first|(simp;omega) | simp[h1,h2]),rfl⟩
 ·go_enter Tryz.func128,Tryz.ntmps128
  go_wp2
  go_ret
  exact⟨ret_bool (by first|(simp;omega) | simp[h1]),rfl⟩
theorem goodP_any (x:R5) (w:World):Calls Tryz.prog 115 #[x.val] w (RetPost (.bool (goodP x)) w.heap.size w):=by
 obtain⟨a,b,c,d,f⟩:=x
 have HB:Hid (Below w.heap.size w (w.alloc (.cells #[.int .i64 a,.int .i64 b,.int .i64 c,.int .i64 d,.int .i64 f] 67))):=Lib.hid ((Below.refl _ w).alloc (Nat.le_refl _) _)
 unfold R5.val goodP
 dsimp only
 have HC0:=Lib.hid (fun W=>isSt_any a W)
 generalize stF a=t0 at *
 have HC1:=Lib.hid (fun W=>isSt_any b W)
 generalize stF b=t1 at *
 have HC3:=Lib.hid (fun W=>betw_any c (-1) 1 W)
 unfold betwF at HC3
 generalize (decide (-1≤c)&&decide (c≤1))=t3 at *
 have HC4:=Lib.hid (fun W=>isRg_any d f W)
 generalize spF d f=t4 at *
 go_enter Tryz.func115,Tryz.ntmps115
 go_wp2_with fail
 refine(HC0.out _).mono ?_
 rintro e w1 ⟨rfl,rfl⟩
 cases t0 with
 | false=>
  clear HC0 HC1 HC3 HC4
  go_wp2_with fail
  go_ret
  exact⟨ret_bool (by first|rfl | (simp;done) | (have:=HCC.out;simp;intros;omega) | (simp[HCC.out];done)),HB.out⟩
 | true=>
  go_wp2_with fail
  refine(HC1.out _).mono ?_
  rintro e w1 ⟨rfl,rfl⟩
  cases t1 with
  | false=>
   clear HC1 HC3 HC4
   go_wp2_with fail
   go_ret
   exact⟨ret_bool (by first|rfl | (simp;done) | (have:=HCC.out;simp;intros;omega) | (simp[HCC.out];done)),HB.out⟩
  | true=>
   by_cases hc:a<b
   ·have HCC:=Lib.hid hc
    go_wp2_with fail
    refine(HC3.out _).mono ?_
    rintro e w1 ⟨rfl,rfl⟩
    cases t3 with
    | false=>
     clear HC3 HC4
     go_wp2_with fail
     go_ret
     exact⟨ret_bool (by first|rfl | (simp;done) | (have:=HCC.out;simp;intros;omega) | (simp[HCC.out];done)),HB.out⟩
    | true=>
     go_wp2_with fail
     refine(HC4.out _).mono ?_
     rintro e w1 ⟨rfl,rfl⟩
     go_wp2_with fail
     go_ret
     exact⟨ret_bool (by first|rfl | (simp;done) | (have:=HCC.out;simp;intros;omega) | (simp[HCC.out];done)),HB.out⟩
   ·have HCC:=Lib.hid hc
    go_wp2_with fail
    go_ret
    exact⟨ret_bool (by first|rfl | (simp;done) | (have:=HCC.out;simp;intros;omega) | (simp[HCC.out];done)),HB.out⟩
theorem goodL_any (x:R5) (w:World):Calls Tryz.prog 118 #[x.val] w (RetPost (.bool (goodL x)) w.heap.size w):=by
 obtain⟨a,b,c,d,f⟩:=x
 have HB:Hid (Below w.heap.size w (w.alloc (.cells #[.int .i64 a,.int .i64 b,.int .i64 c,.int .i64 d,.int .i64 f] 69))):=Lib.hid ((Below.refl _ w).alloc (Nat.le_refl _) _)
 unfold R5.val goodL
 dsimp only
 have HC0:=Lib.hid (fun W=>isSt_any a W)
 generalize stF a=t0 at *
 have HC1:=Lib.hid (fun W=>isSt_any b W)
 generalize stF b=t1 at *
 have HC3:=Lib.hid (fun W=>betw_any c (1) 1073741824 W)
 unfold betwF at HC3
 generalize (decide (1≤c)&&decide (c≤1073741824))=t3 at *
 have HC4:=Lib.hid (fun W=>isRg_any d f W)
 generalize spF d f=t4 at *
 go_enter Tryz.func118,Tryz.ntmps118
 go_wp2_with fail
 refine(HC0.out _).mono ?_
 rintro e w1 ⟨rfl,rfl⟩
 cases t0 with
 | false=>
  clear HC0 HC1 HC3 HC4
  go_wp2_with fail
  go_ret
  exact⟨ret_bool (by first|rfl | (simp;done) | (have:=HCC.out;simp;intros;omega) | (simp[HCC.out];done)),HB.out⟩
 | true=>
  go_wp2_with fail
  refine(HC1.out _).mono ?_
  rintro e w1 ⟨rfl,rfl⟩
  cases t1 with
  | false=>
   clear HC1 HC3 HC4
   go_wp2_with fail
   go_ret
   exact⟨ret_bool (by first|rfl | (simp;done) | (have:=HCC.out;simp;intros;omega) | (simp[HCC.out];done)),HB.out⟩
  | true=>
   by_cases hc:a=b
   ·have HCC:=Lib.hid hc
    have hc2:(a != b)=false:=by simp[hc]
    clear hc
    go_wp2_with fail
    go_ret
    exact⟨ret_bool (by first|rfl | (simp;done) | (have:=HCC.out;simp;intros;omega) | (simp[HCC.out];done)),HB.out⟩
   ·have HCC:=Lib.hid hc
    have hc2:(a != b)=true:=by simp[hc]
    clear hc
    go_wp2_with fail
    refine(HC3.out _).mono ?_
    rintro e w1 ⟨rfl,rfl⟩
    cases t3 with
    | false=>
     clear HC3 HC4
     go_wp2_with fail
     go_ret
     exact⟨ret_bool (by first|rfl | (simp;done) | (have:=HCC.out;simp;intros;omega) | (simp[HCC.out];done)),HB.out⟩
    | true=>
     go_wp2_with fail
     refine(HC4.out _).mono ?_
     rintro e w1 ⟨rfl,rfl⟩
     go_wp2_with fail
     go_ret
     exact⟨ret_bool (by first|rfl | (simp;done) | (have:=HCC.out;simp;intros;omega) | (simp[HCC.out];done)),HB.out⟩
theorem goodC_any (x:R4) (w:World):Calls Tryz.prog 121 #[x.val] w (RetPost (.bool (goodC x)) w.heap.size w):=by
 obtain⟨a,b,c,d⟩:=x
 have HB:Hid (Below w.heap.size w (w.alloc (.cells #[.int .i64 a,.int .i64 b,.int .i64 c,.int .i64 d] 71))):=Lib.hid ((Below.refl _ w).alloc (Nat.le_refl _) _)
 unfold R4.val goodC
 dsimp only
 have HC0:=Lib.hid (fun W=>isSt_any a W)
 generalize stF a=t0 at *
 have HC1:=Lib.hid (fun W=>betw_any b (0) 1099511627776 W)
 unfold betwF at HC1
 generalize (decide (0≤b)&&decide (b≤1099511627776))=t1 at *
 have HC2:=Lib.hid (fun W=>isRg_any c d W)
 generalize spF c d=t2 at *
 go_enter Tryz.func121,Tryz.ntmps121
 go_wp2_with fail
 refine(HC0.out _).mono ?_
 rintro e w1 ⟨rfl,rfl⟩
 cases t0 with
 | false=>
  clear HC0 HC1 HC2
  go_wp2_with fail
  go_ret
  exact⟨ret_bool (by first|rfl | (simp;done) | (have:=HCC.out;simp;intros;omega) | (simp[HCC.out];done)),HB.out⟩
 | true=>
  go_wp2_with fail
  refine(HC1.out _).mono ?_
  rintro e w1 ⟨rfl,rfl⟩
  cases t1 with
  | false=>
   clear HC1 HC2
   go_wp2_with fail
   go_ret
   exact⟨ret_bool (by first|rfl | (simp;done) | (have:=HCC.out;simp;intros;omega) | (simp[HCC.out];done)),HB.out⟩
  | true=>
   go_wp2_with fail
   refine(HC2.out _).mono ?_
   rintro e w1 ⟨rfl,rfl⟩
   go_wp2_with fail
   go_ret
   exact⟨ret_bool (by first|rfl | (simp;done) | (have:=HCC.out;simp;intros;omega) | (simp[HCC.out];done)),HB.out⟩
theorem incF_cons {α:Type} (cmp:α→α→Int) (x y:α) (r:List α):incF cmp (x::y::r)=if 0≤cmp x y then false else incF cmp (y::r):=by rw[incF]
theorem cmpPr_any (x y:R5) (w:World):Calls Tryz.prog 117 #[x.val,y.val] w (RetPost (.int .i64 (cmp5 x y)) w.heap.size w):=by
 obtain⟨a0,a1,a2,a3,a4⟩:=x
 obtain⟨b0,b1,b2,b3,b4⟩:=y
 unfold R5.val cmp5
 dsimp only
 have HC:=Lib.hid (fun x y W=>compare_any x y W)
 have HO:Hid (∀ W:World,Calls Tryz.prog 129 #[.slice (some ⟨W.heap.size,0,none⟩) 5 5] (W.alloc (.cells #[.int .i64 (cmpF a0 b0),.int .i64 (cmpF a1 b1),.int .i64 (cmpF a2 b2),.int .i64 (cmpF a3 b3),.int .i64 (cmpF a4 b4)] 3)).drew fun e w'=>e=.returned (.int .i64 (orL5 [cmpF a0 b0,cmpF a1 b1,cmpF a2 b2,cmpF a3 b3,cmpF a4 b4]))∧(W.alloc (.cells #[.int .i64 (cmpF a0 b0),.int .i64 (cmpF a1 b1),.int .i64 (cmpF a2 b2),.int .i64 (cmpF a3 b3),.int .i64 (cmpF a4 b4)] 3)).drew=w'):=Lib.hid (fun W=>orS_any _ 5 5 _ (W.heap.size+1) [cmpF a0 b0,cmpF a1 b1,cmpF a2 b2,cmpF a3 b3,cmpF a4 b4] (by omega) (row1_new W intV 3 [cmpF a0 b0,cmpF a1 b1,cmpF a2 b2,cmpF a3 b3,cmpF a4 b4]))
 generalize orL5 [cmpF a0 b0,cmpF a1 b1,cmpF a2 b2,cmpF a3 b3,cmpF a4 b4]=res at *
 obtain⟨W0,hW0⟩:∃ W0,W0=(w.alloc (.cells #[.int .i64 a0,.int .i64 a1,.int .i64 a2,.int .i64 a3,.int .i64 a4] 67)).alloc (.cells #[.int .i64 b0,.int .i64 b1,.int .i64 b2,.int .i64 b3,.int .i64 b4] 67):=⟨_,rfl⟩
 have HB:Hid (Below w.heap.size w W0):=Lib.hid (by rw[hW0];exact((Below.refl _ w).alloc (Nat.le_refl _) _).alloc (by simp) _)
 have HW:Hid (W0.cell? ⟨w.heap.size,0,none⟩=some (.int .i64 a0)∧W0.cell? ⟨w.heap.size,1,none⟩=some (.int .i64 a1)∧W0.cell? ⟨w.heap.size,2,none⟩=some (.int .i64 a2)∧W0.cell? ⟨w.heap.size,3,none⟩=some (.int .i64 a3)∧W0.cell? ⟨w.heap.size,4,none⟩=some (.int .i64 a4)∧W0.cell? ⟨w.heap.size+1,0,none⟩=some (.int .i64 b0)∧W0.cell? ⟨w.heap.size+1,1,none⟩=some (.int .i64 b1)∧W0.cell? ⟨w.heap.size+1,2,none⟩=some (.int .i64 b2)∧W0.cell? ⟨w.heap.size+1,3,none⟩=some (.int .i64 b3)∧W0.cell? ⟨w.heap.size+1,4,none⟩=some (.int .i64 b4)):=Lib.hid (by rw[hW0];refine⟨?_,?_,?_,?_,?_,?_,?_,?_,?_,?_⟩<;>simp[go_sem])
 have hs0:W0.heap.size=w.heap.size+2:=by rw[hW0];simp
 have HA:Hid (∀ o,(W0.alloc o).cell? ⟨w.heap.size,0,none⟩=some (.int .i64 a0)∧(W0.alloc o).cell? ⟨w.heap.size,1,none⟩=some (.int .i64 a1)∧(W0.alloc o).cell? ⟨w.heap.size,2,none⟩=some (.int .i64 a2)∧(W0.alloc o).cell? ⟨w.heap.size,3,none⟩=some (.int .i64 a3)∧(W0.alloc o).cell? ⟨w.heap.size,4,none⟩=some (.int .i64 a4)∧(W0.alloc o).cell? ⟨w.heap.size+1,0,none⟩=some (.int .i64 b0)∧(W0.alloc o).cell? ⟨w.heap.size+1,1,none⟩=some (.int .i64 b1)∧(W0.alloc o).cell? ⟨w.heap.size+1,2,none⟩=some (.int .i64 b2)∧(W0.alloc o).cell? ⟨w.heap.size+1,3,none⟩=some (.int .i64 b3)∧(W0.alloc o).cell? ⟨w.heap.size+1,4,none⟩=some (.int .i64 b4)):=Lib.hid (fun o=>by
  have hb:=(Below.refl W0.heap.size W0).alloc (Nat.le_refl _) o
  obtain⟨c0,c1,c2,c3,c4,c5,c6,c7,c8,c9⟩:=HW.out
  exact⟨(hb.cell (p:=⟨w.heap.size,0,none⟩) (by dsimp only;omega)).trans c0,(hb.cell (p:=⟨w.heap.size,1,none⟩) (by dsimp only;omega)).trans c1,(hb.cell (p:=⟨w.heap.size,2,none⟩) (by dsimp only;omega)).trans c2,(hb.cell (p:=⟨w.heap.size,3,none⟩) (by dsimp only;omega)).trans c3,(hb.cell (p:=⟨w.heap.size,4,none⟩) (by dsimp only;omega)).trans c4,(hb.cell (p:=⟨w.heap.size+1,0,none⟩) (by dsimp only;omega)).trans c5,(hb.cell (p:=⟨w.heap.size+1,1,none⟩) (by dsimp only;omega)).trans c6,(hb.cell (p:=⟨w.heap.size+1,2,none⟩) (by dsimp only;omega)).trans c7,(hb.cell (p:=⟨w.heap.size+1,3,none⟩) (by dsimp only;omega)).trans c8,(hb.cell (p:=⟨w.heap.size+1,4,none⟩) (by dsimp only;omega)).trans c9⟩)
 have HS0:=Lib.hid hs0
 clear hs0
 go_enter Tryz.func117,Tryz.ntmps117
 go_wp2_with fail
 rw[←hW0]
 clear hW0
 refine Lx.region (C:=fun w'=>w'.cell? ⟨w.heap.size,0,none⟩=some (.int .i64 a0)∧w'.cell? ⟨w.heap.size,1,none⟩=some (.int .i64 a1)∧w'.cell? ⟨w.heap.size,2,none⟩=some (.int .i64 a2)∧w'.cell? ⟨w.heap.size,3,none⟩=some (.int .i64 a3)∧w'.cell? ⟨w.heap.size,4,none⟩=some (.int .i64 a4)∧w'.cell? ⟨w.heap.size+1,0,none⟩=some (.int .i64 b0)∧w'.cell? ⟨w.heap.size+1,1,none⟩=some (.int .i64 b1)∧w'.cell? ⟨w.heap.size+1,2,none⟩=some (.int .i64 b2)∧w'.cell? ⟨w.heap.size+1,3,none⟩=some (.int .i64 b3)∧w'.cell? ⟨w.heap.size+1,4,none⟩=some (.int .i64 b4)) (hs:=[1,3,6,8,11,13,16,18,21,23]) (by kernel_rfl) (by kernel_rfl) (by exact HW.out) ?_
 repeat' (first|((first|refine Lx.ln (fun K hK=>?_) | (first|(refine Lx.lp (v:=?_) ?_ (fun K hK=>?_);rotate_left 1;intro w' hCw;try dsimp only at hCw) | (refine Lx.lr (v:=?_) ?_ (fun K hK=>?_);rotate_left 1));go_simp;first|done | with_reducible rfl);go_simp;refine hK _ ?_;clear hK K) | (refine Lx.le (fun K hK=>?_);go_simp;(first|(go_at_call 78;refine(HC.out _ _ _).mono ?_;rintro e w' ⟨rfl,rfl⟩) | (go_at_call 129;refine(HO.out _).mono ?_;rintro e w' ⟨rfl,rfl⟩) | skip);refine hK _ _ (by first|exact HW.out | exact HA.out _) ?_;clear hK K))
 all_goals (refine Lx.lex_nil ?_)
 go_wp2_with fail
 go_ret
 exact⟨rfl,(HB.out.alloc (by have:=HS0.out;omega) _).drew⟩
theorem cmpLd_any (x y:R5) (w:World):Calls Tryz.prog 120 #[x.val,y.val] w (RetPost (.int .i64 (cmp5 x y)) w.heap.size w):=by
 obtain⟨a0,a1,a2,a3,a4⟩:=x
 obtain⟨b0,b1,b2,b3,b4⟩:=y
 unfold R5.val cmp5
 dsimp only
 have HC:=Lib.hid (fun x y W=>compare_any x y W)
 have HO:Hid (∀ W:World,Calls Tryz.prog 129 #[.slice (some ⟨W.heap.size,0,none⟩) 5 5] (W.alloc (.cells #[.int .i64 (cmpF a0 b0),.int .i64 (cmpF a1 b1),.int .i64 (cmpF a2 b2),.int .i64 (cmpF a3 b3),.int .i64 (cmpF a4 b4)] 3)).drew fun e w'=>e=.returned (.int .i64 (orL5 [cmpF a0 b0,cmpF a1 b1,cmpF a2 b2,cmpF a3 b3,cmpF a4 b4]))∧(W.alloc (.cells #[.int .i64 (cmpF a0 b0),.int .i64 (cmpF a1 b1),.int .i64 (cmpF a2 b2),.int .i64 (cmpF a3 b3),.int .i64 (cmpF a4 b4)] 3)).drew=w'):=Lib.hid (fun W=>orS_any _ 5 5 _ (W.heap.size+1) [cmpF a0 b0,cmpF a1 b1,cmpF a2 b2,cmpF a3 b3,cmpF a4 b4] (by omega) (row1_new W intV 3 [cmpF a0 b0,cmpF a1 b1,cmpF a2 b2,cmpF a3 b3,cmpF a4 b4]))
 generalize orL5 [cmpF a0 b0,cmpF a1 b1,cmpF a2 b2,cmpF a3 b3,cmpF a4 b4]=res at *
 obtain⟨W0,hW0⟩:∃ W0,W0=(w.alloc (.cells #[.int .i64 a0,.int .i64 a1,.int .i64 a2,.int .i64 a3,.int .i64 a4] 69)).alloc (.cells #[.int .i64 b0,.int .i64 b1,.int .i64 b2,.int .i64 b3,.int .i64 b4] 69):=⟨_,rfl⟩
 have HB:Hid (Below w.heap.size w W0):=Lib.hid (by rw[hW0];exact((Below.refl _ w).alloc (Nat.le_refl _) _).alloc (by simp) _)
 have HW:Hid (W0.cell? ⟨w.heap.size,0,none⟩=some (.int .i64 a0)∧W0.cell? ⟨w.heap.size,1,none⟩=some (.int .i64 a1)∧W0.cell? ⟨w.heap.size,2,none⟩=some (.int .i64 a2)∧W0.cell? ⟨w.heap.size,3,none⟩=some (.int .i64 a3)∧W0.cell? ⟨w.heap.size,4,none⟩=some (.int .i64 a4)∧W0.cell? ⟨w.heap.size+1,0,none⟩=some (.int .i64 b0)∧W0.cell? ⟨w.heap.size+1,1,none⟩=some (.int .i64 b1)∧W0.cell? ⟨w.heap.size+1,2,none⟩=some (.int .i64 b2)∧W0.cell? ⟨w.heap.size+1,3,none⟩=some (.int .i64 b3)∧W0.cell? ⟨w.heap.size+1,4,none⟩=some (.int .i64 b4)):=Lib.hid (by rw[hW0];refine⟨?_,?_,?_,?_,?_,?_,?_,?_,?_,?_⟩<;>simp[go_sem])
 have hs0:W0.heap.size=w.heap.size+2:=by rw[hW0];simp
 have HA:Hid (∀ o,(W0.alloc o).cell? ⟨w.heap.size,0,none⟩=some (.int .i64 a0)∧(W0.alloc o).cell? ⟨w.heap.size,1,none⟩=some (.int .i64 a1)∧(W0.alloc o).cell? ⟨w.heap.size,2,none⟩=some (.int .i64 a2)∧(W0.alloc o).cell? ⟨w.heap.size,3,none⟩=some (.int .i64 a3)∧(W0.alloc o).cell? ⟨w.heap.size,4,none⟩=some (.int .i64 a4)∧(W0.alloc o).cell? ⟨w.heap.size+1,0,none⟩=some (.int .i64 b0)∧(W0.alloc o).cell? ⟨w.heap.size+1,1,none⟩=some (.int .i64 b1)∧(W0.alloc o).cell? ⟨w.heap.size+1,2,none⟩=some (.int .i64 b2)∧(W0.alloc o).cell? ⟨w.heap.size+1,3,none⟩=some (.int .i64 b3)∧(W0.alloc o).cell? ⟨w.heap.size+1,4,none⟩=some (.int .i64 b4)):=Lib.hid (fun o=>by
  have hb:=(Below.refl W0.heap.size W0).alloc (Nat.le_refl _) o
  obtain⟨c0,c1,c2,c3,c4,c5,c6,c7,c8,c9⟩:=HW.out
  exact⟨(hb.cell (p:=⟨w.heap.size,0,none⟩) (by dsimp only;omega)).trans c0,(hb.cell (p:=⟨w.heap.size,1,none⟩) (by dsimp only;omega)).trans c1,(hb.cell (p:=⟨w.heap.size,2,none⟩) (by dsimp only;omega)).trans c2,(hb.cell (p:=⟨w.heap.size,3,none⟩) (by dsimp only;omega)).trans c3,(hb.cell (p:=⟨w.heap.size,4,none⟩) (by dsimp only;omega)).trans c4,(hb.cell (p:=⟨w.heap.size+1,0,none⟩) (by dsimp only;omega)).trans c5,(hb.cell (p:=⟨w.heap.size+1,1,none⟩) (by dsimp only;omega)).trans c6,(hb.cell (p:=⟨w.heap.size+1,2,none⟩) (by dsimp only;omega)).trans c7,(hb.cell (p:=⟨w.heap.size+1,3,none⟩) (by dsimp only;omega)).trans c8,(hb.cell (p:=⟨w.heap.size+1,4,none⟩) (by dsimp only;omega)).trans c9⟩)
 have HS0:=Lib.hid hs0
 clear hs0
 go_enter Tryz.func120,Tryz.ntmps120
 go_wp2_with fail
 rw[←hW0]
 clear hW0
 refine Lx.region (C:=fun w'=>w'.cell? ⟨w.heap.size,0,none⟩=some (.int .i64 a0)∧w'.cell? ⟨w.heap.size,1,none⟩=some (.int .i64 a1)∧w'.cell? ⟨w.heap.size,2,none⟩=some (.int .i64 a2)∧w'.cell? ⟨w.heap.size,3,none⟩=some (.int .i64 a3)∧w'.cell? ⟨w.heap.size,4,none⟩=some (.int .i64 a4)∧w'.cell? ⟨w.heap.size+1,0,none⟩=some (.int .i64 b0)∧w'.cell? ⟨w.heap.size+1,1,none⟩=some (.int .i64 b1)∧w'.cell? ⟨w.heap.size+1,2,none⟩=some (.int .i64 b2)∧w'.cell? ⟨w.heap.size+1,3,none⟩=some (.int .i64 b3)∧w'.cell? ⟨w.heap.size+1,4,none⟩=some (.int .i64 b4)) (hs:=[1,3,6,8,11,13,16,18,21,23]) (by kernel_rfl) (by kernel_rfl) (by exact HW.out) ?_
 repeat' (first|((first|refine Lx.ln (fun K hK=>?_) | (first|(refine Lx.lp (v:=?_) ?_ (fun K hK=>?_);rotate_left 1;intro w' hCw;try dsimp only at hCw) | (refine Lx.lr (v:=?_) ?_ (fun K hK=>?_);rotate_left 1));go_simp;first|done | with_reducible rfl);go_simp;refine hK _ ?_;clear hK K) | (refine Lx.le (fun K hK=>?_);go_simp;(first|(go_at_call 78;refine(HC.out _ _ _).mono ?_;rintro e w' ⟨rfl,rfl⟩) | (go_at_call 129;refine(HO.out _).mono ?_;rintro e w' ⟨rfl,rfl⟩) | skip);refine hK _ _ (by first|exact HW.out | exact HA.out _) ?_;clear hK K))
 all_goals (refine Lx.lex_nil ?_)
 go_wp2_with fail
 go_ret
 exact⟨rfl,(HB.out.alloc (by have:=HS0.out;omega) _).drew⟩
theorem cmpCp_any (x y:R4) (w:World):Calls Tryz.prog 123 #[x.val,y.val] w (RetPost (.int .i64 (cmp4 x y)) w.heap.size w):=by
 obtain⟨a0,a1,a2,a3⟩:=x
 obtain⟨b0,b1,b2,b3⟩:=y
 unfold R4.val cmp4
 dsimp only
 have HC:=Lib.hid (fun x y W=>compare_any x y W)
 have HO:Hid (∀ W:World,Calls Tryz.prog 129 #[.slice (some ⟨W.heap.size,0,none⟩) 4 4] (W.alloc (.cells #[.int .i64 (cmpF a0 b0),.int .i64 (cmpF a1 b1),.int .i64 (cmpF a2 b2),.int .i64 (cmpF a3 b3)] 3)).drew fun e w'=>e=.returned (.int .i64 (orL5 [cmpF a0 b0,cmpF a1 b1,cmpF a2 b2,cmpF a3 b3]))∧(W.alloc (.cells #[.int .i64 (cmpF a0 b0),.int .i64 (cmpF a1 b1),.int .i64 (cmpF a2 b2),.int .i64 (cmpF a3 b3)] 3)).drew=w'):=Lib.hid (fun W=>orS_any _ 4 4 _ (W.heap.size+1) [cmpF a0 b0,cmpF a1 b1,cmpF a2 b2,cmpF a3 b3] (by omega) (row1_new W intV 3 [cmpF a0 b0,cmpF a1 b1,cmpF a2 b2,cmpF a3 b3]))
 generalize orL5 [cmpF a0 b0,cmpF a1 b1,cmpF a2 b2,cmpF a3 b3]=res at *
 obtain⟨W0,hW0⟩:∃ W0,W0=(w.alloc (.cells #[.int .i64 a0,.int .i64 a1,.int .i64 a2,.int .i64 a3] 71)).alloc (.cells #[.int .i64 b0,.int .i64 b1,.int .i64 b2,.int .i64 b3] 71):=⟨_,rfl⟩
 have HB:Hid (Below w.heap.size w W0):=Lib.hid (by rw[hW0];exact((Below.refl _ w).alloc (Nat.le_refl _) _).alloc (by simp) _)
 have HW:Hid (W0.cell? ⟨w.heap.size,0,none⟩=some (.int .i64 a0)∧W0.cell? ⟨w.heap.size,1,none⟩=some (.int .i64 a1)∧W0.cell? ⟨w.heap.size,2,none⟩=some (.int .i64 a2)∧W0.cell? ⟨w.heap.size,3,none⟩=some (.int .i64 a3)∧W0.cell? ⟨w.heap.size+1,0,none⟩=some (.int .i64 b0)∧W0.cell? ⟨w.heap.size+1,1,none⟩=some (.int .i64 b1)∧W0.cell? ⟨w.heap.size+1,2,none⟩=some (.int .i64 b2)∧W0.cell? ⟨w.heap.size+1,3,none⟩=some (.int .i64 b3)):=Lib.hid (by rw[hW0];refine⟨?_,?_,?_,?_,?_,?_,?_,?_⟩<;>simp[go_sem])
 have hs0:W0.heap.size=w.heap.size+2:=by rw[hW0];simp
 have HA:Hid (∀ o,(W0.alloc o).cell? ⟨w.heap.size,0,none⟩=some (.int .i64 a0)∧(W0.alloc o).cell? ⟨w.heap.size,1,none⟩=some (.int .i64 a1)∧(W0.alloc o).cell? ⟨w.heap.size,2,none⟩=some (.int .i64 a2)∧(W0.alloc o).cell? ⟨w.heap.size,3,none⟩=some (.int .i64 a3)∧(W0.alloc o).cell? ⟨w.heap.size+1,0,none⟩=some (.int .i64 b0)∧(W0.alloc o).cell? ⟨w.heap.size+1,1,none⟩=some (.int .i64 b1)∧(W0.alloc o).cell? ⟨w.heap.size+1,2,none⟩=some (.int .i64 b2)∧(W0.alloc o).cell? ⟨w.heap.size+1,3,none⟩=some (.int .i64 b3)):=Lib.hid (fun o=>by
  have hb:=(Below.refl W0.heap.size W0).alloc (Nat.le_refl _) o
  obtain⟨c0,c1,c2,c3,c4,c5,c6,c7⟩:=HW.out
  exact⟨(hb.cell (p:=⟨w.heap.size,0,none⟩) (by dsimp only;omega)).trans c0,(hb.cell (p:=⟨w.heap.size,1,none⟩) (by dsimp only;omega)).trans c1,(hb.cell (p:=⟨w.heap.size,2,none⟩) (by dsimp only;omega)).trans c2,(hb.cell (p:=⟨w.heap.size,3,none⟩) (by dsimp only;omega)).trans c3,(hb.cell (p:=⟨w.heap.size+1,0,none⟩) (by dsimp only;omega)).trans c4,(hb.cell (p:=⟨w.heap.size+1,1,none⟩) (by dsimp only;omega)).trans c5,(hb.cell (p:=⟨w.heap.size+1,2,none⟩) (by dsimp only;omega)).trans c6,(hb.cell (p:=⟨w.heap.size+1,3,none⟩) (by dsimp only;omega)).trans c7⟩)
 have HS0:=Lib.hid hs0
 clear hs0
 go_enter Tryz.func123,Tryz.ntmps123
 go_wp2_with fail
 rw[←hW0]
 clear hW0
 refine Lx.region (C:=fun w'=>w'.cell? ⟨w.heap.size,0,none⟩=some (.int .i64 a0)∧w'.cell? ⟨w.heap.size,1,none⟩=some (.int .i64 a1)∧w'.cell? ⟨w.heap.size,2,none⟩=some (.int .i64 a2)∧w'.cell? ⟨w.heap.size,3,none⟩=some (.int .i64 a3)∧w'.cell? ⟨w.heap.size+1,0,none⟩=some (.int .i64 b0)∧w'.cell? ⟨w.heap.size+1,1,none⟩=some (.int .i64 b1)∧w'.cell? ⟨w.heap.size+1,2,none⟩=some (.int .i64 b2)∧w'.cell? ⟨w.heap.size+1,3,none⟩=some (.int .i64 b3)) (hs:=[1,3,6,8,11,13,16,18]) (by kernel_rfl) (by kernel_rfl) (by exact HW.out) ?_
 repeat' (first|((first|refine Lx.ln (fun K hK=>?_) | (first|(refine Lx.lp (v:=?_) ?_ (fun K hK=>?_);rotate_left 1;intro w' hCw;try dsimp only at hCw) | (refine Lx.lr (v:=?_) ?_ (fun K hK=>?_);rotate_left 1));go_simp;first|done | with_reducible rfl);go_simp;refine hK _ ?_;clear hK K) | (refine Lx.le (fun K hK=>?_);go_simp;(first|(go_at_call 78;refine(HC.out _ _ _).mono ?_;rintro e w' ⟨rfl,rfl⟩) | (go_at_call 129;refine(HO.out _).mono ?_;rintro e w' ⟨rfl,rfl⟩) | skip);refine hK _ _ (by first|exact HW.out | exact HA.out _) ?_;clear hK K))
 all_goals (refine Lx.lex_nil ?_)
 go_wp2_with fail
 go_ret
 exact⟨rfl,(HB.out.alloc (by have:=HS0.out;omega) _).drew⟩
theorem everyP_any (A:Option Addr) (n c:Nat) (w:World) (l:List R5) (hn:n≤9223372036854775807) (hl:RowS 5 R5.cell w w.heap.size A n l):
  Calls Tryz.prog 80 #[.slice A n c,.func (.func 115) #[] #[]] w (RetPost (.bool (l.all goodP)) w.heap.size w):=by
 have Hl:=Lib.hid hl
 have Hlen:=Eqn.mk hl.1
 clear hl
 go_enter Tryz.func80,Tryz.ntmps80
 go_wp2_with fail
 go_loopw [9] (fun i wr=>∃ k:Nat,k≤n∧i=.int .i64 k∧Eqn (l.all goodP) ((l.drop k).all goodP)∧Below w.heap.size w wr) (fun i _=>n - (intOf i).toNat)
 case atStart=>exact⟨0,Nat.zero_le _,rfl,rfl,Below.refl _ _⟩
 case round=>
  obtain⟨k,hk,rfl,HR,hB⟩:=hrel
  have HB:=Lib.hid hB
  have hbs:=hB.size
  by_cases hlt:k<n
  ·obtain⟨p,hp,hpd⟩:=drop_at (xs:=l) (k:=k) (by rw[Hlen.out];exact hlt)
   obtain⟨b,off,hA,hbl,hc⟩:=(Hl.out.below hB).2 (by omega)
   subst hA
   obtain⟨p0,p1,p2,p3,p4⟩:=p
   have c0:=hc k _ hp 0 (by omega)
   have c1:=hc k _ hp 1 (by omega)
   have c2:=hc k _ hp 2 (by omega)
   have c3:=hc k _ hp 3 (by omega)
   have c4:=hc k _ hp 4 (by omega)
   simp only[R5.cell,Nat.add_zero] at c0 c1 c2 c3 c4
   have HG:=Lib.hid (fun W=>goodP_any ⟨p0,p1,p2,p3,p4⟩ W)
   have HR2:=HR.out
   rw[hpd,List.all_cons] at HR2
   unfold R5.val at HG
   dsimp only at HG
   have hbw:b<wr.heap.size:=by omega
   have j0:(k:Int)<(n:Int):=by omega
   have HB2:=Lib.hid (hB.alloc hbs (.cells #[.int .i64 p0,.int .i64 p1,.int .i64 p2,.int .i64 p3,.int .i64 p4] 67))
   generalize goodP ⟨p0,p1,p2,p3,p4⟩=r at *
   clear hc hp hpd HR hB
   go_wp2_with fail
   refine(HG.out _).mono ?_
   rintro e w1 ⟨rfl,hb1⟩
   have HB3:=Lib.hid (HB2.out.trans (hb1.mono HB2.out.size))
   clear hb1
   cases r with
   | true=>
    have HV:Eqn (l.all goodP) ((l.drop (k+1)).all goodP):=by rw[Eqn,HR2];rfl
    clear HR2
    go_wp2_with fail
    go_roundw
    case rel=>exact⟨k+1,by omega,by go_num,HV,HB3.out⟩
    case measure=>simp[intOf];omega
   | false=>
    have HV:Eqn (l.all goodP) false:=by rw[Eqn,HR2];rfl
    clear HR2
    go_wp2_with fail
    go_ret
    exact⟨ret_bool HV.out.symm,HB3.out⟩
  ·have HV:Eqn (l.all goodP) true:=by rw[Eqn,HR.out,drop_end (by rw[Hlen.out];omega)];rfl
   clear HR hB
   go_wp2_with fail
   go_ret
   exact⟨ret_bool HV.out.symm,HB.out⟩
theorem everyL_any (A:Option Addr) (n c:Nat) (w:World) (l:List R5) (hn:n≤9223372036854775807) (hl:RowS 5 R5.cell w w.heap.size A n l):
  Calls Tryz.prog 83 #[.slice A n c,.func (.func 118) #[] #[]] w (RetPost (.bool (l.all goodL)) w.heap.size w):=by
 have Hl:=Lib.hid hl
 have Hlen:=Eqn.mk hl.1
 clear hl
 go_enter Tryz.func83,Tryz.ntmps83
 go_wp2_with fail
 go_loopw [9] (fun i wr=>∃ k:Nat,k≤n∧i=.int .i64 k∧Eqn (l.all goodL) ((l.drop k).all goodL)∧Below w.heap.size w wr) (fun i _=>n - (intOf i).toNat)
 case atStart=>exact⟨0,Nat.zero_le _,rfl,rfl,Below.refl _ _⟩
 case round=>
  obtain⟨k,hk,rfl,HR,hB⟩:=hrel
  have HB:=Lib.hid hB
  have hbs:=hB.size
  by_cases hlt:k<n
  ·obtain⟨p,hp,hpd⟩:=drop_at (xs:=l) (k:=k) (by rw[Hlen.out];exact hlt)
   obtain⟨b,off,hA,hbl,hc⟩:=(Hl.out.below hB).2 (by omega)
   subst hA
   obtain⟨p0,p1,p2,p3,p4⟩:=p
   have c0:=hc k _ hp 0 (by omega)
   have c1:=hc k _ hp 1 (by omega)
   have c2:=hc k _ hp 2 (by omega)
   have c3:=hc k _ hp 3 (by omega)
   have c4:=hc k _ hp 4 (by omega)
   simp only[R5.cell,Nat.add_zero] at c0 c1 c2 c3 c4
   have HG:=Lib.hid (fun W=>goodL_any ⟨p0,p1,p2,p3,p4⟩ W)
   have HR2:=HR.out
   rw[hpd,List.all_cons] at HR2
   unfold R5.val at HG
   dsimp only at HG
   have hbw:b<wr.heap.size:=by omega
   have j0:(k:Int)<(n:Int):=by omega
   have HB2:=Lib.hid (hB.alloc hbs (.cells #[.int .i64 p0,.int .i64 p1,.int .i64 p2,.int .i64 p3,.int .i64 p4] 69))
   generalize goodL ⟨p0,p1,p2,p3,p4⟩=r at *
   clear hc hp hpd HR hB
   go_wp2_with fail
   refine(HG.out _).mono ?_
   rintro e w1 ⟨rfl,hb1⟩
   have HB3:=Lib.hid (HB2.out.trans (hb1.mono HB2.out.size))
   clear hb1
   cases r with
   | true=>
    have HV:Eqn (l.all goodL) ((l.drop (k+1)).all goodL):=by rw[Eqn,HR2];rfl
    clear HR2
    go_wp2_with fail
    go_roundw
    case rel=>exact⟨k+1,by omega,by go_num,HV,HB3.out⟩
    case measure=>simp[intOf];omega
   | false=>
    have HV:Eqn (l.all goodL) false:=by rw[Eqn,HR2];rfl
    clear HR2
    go_wp2_with fail
    go_ret
    exact⟨ret_bool HV.out.symm,HB3.out⟩
  ·have HV:Eqn (l.all goodL) true:=by rw[Eqn,HR.out,drop_end (by rw[Hlen.out];omega)];rfl
   clear HR hB
   go_wp2_with fail
   go_ret
   exact⟨ret_bool HV.out.symm,HB.out⟩
theorem everyC_any (A:Option Addr) (n c:Nat) (w:World) (l:List R4) (hn:n≤9223372036854775807) (hl:RowS 4 R4.cell w w.heap.size A n l):
  Calls Tryz.prog 85 #[.slice A n c,.func (.func 121) #[] #[]] w (RetPost (.bool (l.all goodC)) w.heap.size w):=by
 have Hl:=Lib.hid hl
 have Hlen:=Eqn.mk hl.1
 clear hl
 go_enter Tryz.func85,Tryz.ntmps85
 go_wp2_with fail
 go_loopw [9] (fun i wr=>∃ k:Nat,k≤n∧i=.int .i64 k∧Eqn (l.all goodC) ((l.drop k).all goodC)∧Below w.heap.size w wr) (fun i _=>n - (intOf i).toNat)
 case atStart=>exact⟨0,Nat.zero_le _,rfl,rfl,Below.refl _ _⟩
 case round=>
  obtain⟨k,hk,rfl,HR,hB⟩:=hrel
  have HB:=Lib.hid hB
  have hbs:=hB.size
  by_cases hlt:k<n
  ·obtain⟨p,hp,hpd⟩:=drop_at (xs:=l) (k:=k) (by rw[Hlen.out];exact hlt)
   obtain⟨b,off,hA,hbl,hc⟩:=(Hl.out.below hB).2 (by omega)
   subst hA
   obtain⟨p0,p1,p2,p3⟩:=p
   have c0:=hc k _ hp 0 (by omega)
   have c1:=hc k _ hp 1 (by omega)
   have c2:=hc k _ hp 2 (by omega)
   have c3:=hc k _ hp 3 (by omega)
   simp only[R4.cell,Nat.add_zero] at c0 c1 c2 c3
   have HG:=Lib.hid (fun W=>goodC_any ⟨p0,p1,p2,p3⟩ W)
   have HR2:=HR.out
   rw[hpd,List.all_cons] at HR2
   unfold R4.val at HG
   dsimp only at HG
   have hbw:b<wr.heap.size:=by omega
   have j0:(k:Int)<(n:Int):=by omega
   have HB2:=Lib.hid (hB.alloc hbs (.cells #[.int .i64 p0,.int .i64 p1,.int .i64 p2,.int .i64 p3] 71))
   generalize goodC ⟨p0,p1,p2,p3⟩=r at *
   clear hc hp hpd HR hB
   go_wp2_with fail
   refine(HG.out _).mono ?_
   rintro e w1 ⟨rfl,hb1⟩
   have HB3:=Lib.hid (HB2.out.trans (hb1.mono HB2.out.size))
   clear hb1
   cases r with
   | true=>
    have HV:Eqn (l.all goodC) ((l.drop (k+1)).all goodC):=by rw[Eqn,HR2];rfl
    clear HR2
    go_wp2_with fail
    go_roundw
    case rel=>exact⟨k+1,by omega,by go_num,HV,HB3.out⟩
    case measure=>simp[intOf];omega
   | false=>
    have HV:Eqn (l.all goodC) false:=by rw[Eqn,HR2];rfl
    clear HR2
    go_wp2_with fail
    go_ret
    exact⟨ret_bool HV.out.symm,HB3.out⟩
  ·have HV:Eqn (l.all goodC) true:=by rw[Eqn,HR.out,drop_end (by rw[Hlen.out];omega)];rfl
   clear HR hB
   go_wp2_with fail
   go_ret
   exact⟨ret_bool HV.out.symm,HB.out⟩
theorem incP_any (A:Option Addr) (n c:Nat) (w:World) (l:List R5) (hn:n≤9223372036854775807) (hl:RowS 5 R5.cell w w.heap.size A n l):
  Calls Tryz.prog 116 #[.slice A n c,.func (.func 117) #[] #[]] w (RetPost (.bool (incF cmp5 l)) w.heap.size w):=by
 have Hl:=Lib.hid hl
 have Hlen:=Eqn.mk hl.1
 clear hl
 go_enter Tryz.func116,Tryz.ntmps116
 go_wp2_with fail
 go_loopw [5] (fun i wr=>∃ k:Nat,(k+1≤n∨k=0)∧i=.int .i64 ((k+1:Nat):Int)∧Eqn (incF cmp5 l) (incF cmp5 (l.drop k))∧Below w.heap.size w wr) (fun i _=>n+1 - (intOf i).toNat)
 case atStart=>exact⟨0,.inr rfl,rfl,rfl,Below.refl _ _⟩
 case round=>
  obtain⟨k,hk,rfl,HR,hB⟩:=hrel
  have HB:=Lib.hid hB
  have hbs:=hB.size
  by_cases hlt:k+1<n
  ·obtain⟨p,hp,hpd⟩:=drop_at (xs:=l) (k:=k) (by rw[Hlen.out];omega)
   obtain⟨q,hq,hqd⟩:=drop_at (xs:=l) (k:=k+1) (by rw[Hlen.out];exact hlt)
   obtain⟨b,off,hA,hbl,hc⟩:=(Hl.out.below hB).2 (by omega)
   subst hA
   obtain⟨p0,p1,p2,p3,p4⟩:=p
   obtain⟨q0,q1,q2,q3,q4⟩:=q
   have c0:=hc k _ hp 0 (by omega)
   have c1:=hc k _ hp 1 (by omega)
   have c2:=hc k _ hp 2 (by omega)
   have c3:=hc k _ hp 3 (by omega)
   have c4:=hc k _ hp 4 (by omega)
   have d0:=hc (k+1) _ hq 0 (by omega)
   have d1:=hc (k+1) _ hq 1 (by omega)
   have d2:=hc (k+1) _ hq 2 (by omega)
   have d3:=hc (k+1) _ hq 3 (by omega)
   have d4:=hc (k+1) _ hq 4 (by omega)
   simp only[R5.cell,Nat.add_zero] at c0 c1 c2 c3 c4 d0 d1 d2 d3 d4
   have HG:=Lib.hid (fun W=>cmpPr_any ⟨p0,p1,p2,p3,p4⟩ ⟨q0,q1,q2,q3,q4⟩ W)
   have HR2:=HR.out
   rw[hpd,hqd,incF_cons,←hqd] at HR2
   unfold R5.val at HG
   dsimp only at HG
   have hbw:b<wr.heap.size:=by omega
   obtain⟨ki,hki⟩:∃ ki:Int,((k+1:Nat):Int)=ki:=⟨_,rfl⟩
   rw[hki]
   have j0:ki<(n:Int):=by omega
   have j1:1≤ki:=by omega
   have e1:IntKind.i64.wrap (ki - 1)=(k:Int):=by rw[IntWalk.i64_in _ (by omega)];omega
   have e2:ki.toNat=k+1:=by omega
   have e3:(ki - 1).toNat=k:=by omega
   have e4:0≤ki - 1:=by omega
   have e5:ki - 1<(n:Int):=by omega
   have e6:(k:Int)<(n:Int):=by omega
   have e7:(0:Int)≤(k:Int):=by omega
   have e8:0≤ki:=by omega
   have HKI:=Lib.hid hki
   generalize cmp5 ⟨p0,p1,p2,p3,p4⟩ ⟨q0,q1,q2,q3,q4⟩=r at *
   clear hc hp hpd hq hqd HR hB hki
   by_cases hr:0≤r
   ·have HV:=Eqn.mk (HR2.trans (if_pos hr))
    clear HR2
    go_wp2_with fail
    refine Lx.region (C:=fun _=>True) (hs:=[]) (by kernel_rfl) (by kernel_rfl) trivial ?_
    repeat' (first|((first|refine Lx.ln (fun K hK=>?_) | (first|(refine Lx.lp (v:=?_) ?_ (fun K hK=>?_);rotate_left 1;intro w' hCw;try dsimp only at hCw) | (refine Lx.lr (v:=?_) ?_ (fun K hK=>?_);rotate_left 1));go_simp;first|done | with_reducible rfl);go_simp;refine hK _ ?_;clear hK K) | (refine Lx.le (fun K hK=>?_);go_simp;(first|(go_at_call 117;refine(HG.out _).mono ?_;rintro e w1 ⟨rfl,hb1⟩;have HB3:=Lib.hid (HB.out.drew.trans (hb1.mono (by exact hbs)));clear hb1));refine hK _ _ (trivial) ?_;clear hK K))
    all_goals (refine Lx.lex_nil ?_)
    go_wp2_with fail
    go_ret
    exact⟨ret_bool HV.out.symm,HB3.out⟩
   ·have HV:=Eqn.mk (HR2.trans (if_neg hr))
    clear HR2
    go_wp2_with fail
    refine Lx.region (C:=fun _=>True) (hs:=[]) (by kernel_rfl) (by kernel_rfl) trivial ?_
    repeat' (first|((first|refine Lx.ln (fun K hK=>?_) | (first|(refine Lx.lp (v:=?_) ?_ (fun K hK=>?_);rotate_left 1;intro w' hCw;try dsimp only at hCw) | (refine Lx.lr (v:=?_) ?_ (fun K hK=>?_);rotate_left 1));go_simp;first|done | with_reducible rfl);go_simp;refine hK _ ?_;clear hK K) | (refine Lx.le (fun K hK=>?_);go_simp;(first|(go_at_call 117;refine(HG.out _).mono ?_;rintro e w1 ⟨rfl,hb1⟩;have HB3:=Lib.hid (HB.out.drew.trans (hb1.mono (by exact hbs)));clear hb1));refine hK _ _ (trivial) ?_;clear hK K))
    all_goals (refine Lx.lex_nil ?_)
    go_wp2_with fail
    clear e1 e2 e3 e4 e5
    go_roundw
    case rel=>exact⟨k+1,.inl (by omega),by rw[←HKI.out];go_num,HV,HB3.out⟩
    case measure=>rw[←HKI.out];simp[intOf];omega
  ·have HV:Eqn (incF cmp5 l) true:=by
    rw[Eqn,HR.out]
    by_cases h0:k<l.length
    ·obtain⟨p,hp,hpd⟩:=drop_at (xs:=l) (k:=k) h0
     have hl2:=Hlen.out
     rw[hpd,drop_end (by omega)];rfl
    ·rw[drop_end (by omega)];rfl
   have j0:¬((k+1:Nat):Int)<(n:Int):=by omega
   clear HR hB
   go_wp2_with fail
   go_ret
   exact⟨ret_bool HV.out.symm,HB.out⟩
theorem incL_any (A:Option Addr) (n c:Nat) (w:World) (l:List R5) (hn:n≤9223372036854775807) (hl:RowS 5 R5.cell w w.heap.size A n l):
  Calls Tryz.prog 119 #[.slice A n c,.func (.func 120) #[] #[]] w (RetPost (.bool (incF cmp5 l)) w.heap.size w):=by
 have Hl:=Lib.hid hl
 have Hlen:=Eqn.mk hl.1
 clear hl
 go_enter Tryz.func119,Tryz.ntmps119
 go_wp2_with fail
 go_loopw [5] (fun i wr=>∃ k:Nat,(k+1≤n∨k=0)∧i=.int .i64 ((k+1:Nat):Int)∧Eqn (incF cmp5 l) (incF cmp5 (l.drop k))∧Below w.heap.size w wr) (fun i _=>n+1 - (intOf i).toNat)
 case atStart=>exact⟨0,.inr rfl,rfl,rfl,Below.refl _ _⟩
 case round=>
  obtain⟨k,hk,rfl,HR,hB⟩:=hrel
  have HB:=Lib.hid hB
  have hbs:=hB.size
  by_cases hlt:k+1<n
  ·obtain⟨p,hp,hpd⟩:=drop_at (xs:=l) (k:=k) (by rw[Hlen.out];omega)
   obtain⟨q,hq,hqd⟩:=drop_at (xs:=l) (k:=k+1) (by rw[Hlen.out];exact hlt)
   obtain⟨b,off,hA,hbl,hc⟩:=(Hl.out.below hB).2 (by omega)
   subst hA
   obtain⟨p0,p1,p2,p3,p4⟩:=p
   obtain⟨q0,q1,q2,q3,q4⟩:=q
   have c0:=hc k _ hp 0 (by omega)
   have c1:=hc k _ hp 1 (by omega)
   have c2:=hc k _ hp 2 (by omega)
   have c3:=hc k _ hp 3 (by omega)
   have c4:=hc k _ hp 4 (by omega)
   have d0:=hc (k+1) _ hq 0 (by omega)
   have d1:=hc (k+1) _ hq 1 (by omega)
   have d2:=hc (k+1) _ hq 2 (by omega)
   have d3:=hc (k+1) _ hq 3 (by omega)
   have d4:=hc (k+1) _ hq 4 (by omega)
   simp only[R5.cell,Nat.add_zero] at c0 c1 c2 c3 c4 d0 d1 d2 d3 d4
   have HG:=Lib.hid (fun W=>cmpLd_any ⟨p0,p1,p2,p3,p4⟩ ⟨q0,q1,q2,q3,q4⟩ W)
   have HR2:=HR.out
   rw[hpd,hqd,incF_cons,←hqd] at HR2
   unfold R5.val at HG
   dsimp only at HG
   have hbw:b<wr.heap.size:=by omega
   obtain⟨ki,hki⟩:∃ ki:Int,((k+1:Nat):Int)=ki:=⟨_,rfl⟩
   rw[hki]
   have j0:ki<(n:Int):=by omega
   have j1:1≤ki:=by omega
   have e1:IntKind.i64.wrap (ki - 1)=(k:Int):=by rw[IntWalk.i64_in _ (by omega)];omega
   have e2:ki.toNat=k+1:=by omega
   have e3:(ki - 1).toNat=k:=by omega
   have e4:0≤ki - 1:=by omega
   have e5:ki - 1<(n:Int):=by omega
   have e6:(k:Int)<(n:Int):=by omega
   have e7:(0:Int)≤(k:Int):=by omega
   have e8:0≤ki:=by omega
   have HKI:=Lib.hid hki
   generalize cmp5 ⟨p0,p1,p2,p3,p4⟩ ⟨q0,q1,q2,q3,q4⟩=r at *
   clear hc hp hpd hq hqd HR hB hki
   by_cases hr:0≤r
   ·have HV:=Eqn.mk (HR2.trans (if_pos hr))
    clear HR2
    go_wp2_with fail
    refine Lx.region (C:=fun _=>True) (hs:=[]) (by kernel_rfl) (by kernel_rfl) trivial ?_
    repeat' (first|((first|refine Lx.ln (fun K hK=>?_) | (first|(refine Lx.lp (v:=?_) ?_ (fun K hK=>?_);rotate_left 1;intro w' hCw;try dsimp only at hCw) | (refine Lx.lr (v:=?_) ?_ (fun K hK=>?_);rotate_left 1));go_simp;first|done | with_reducible rfl);go_simp;refine hK _ ?_;clear hK K) | (refine Lx.le (fun K hK=>?_);go_simp;(first|(go_at_call 120;refine(HG.out _).mono ?_;rintro e w1 ⟨rfl,hb1⟩;have HB3:=Lib.hid (HB.out.drew.trans (hb1.mono (by exact hbs)));clear hb1));refine hK _ _ (trivial) ?_;clear hK K))
    all_goals (refine Lx.lex_nil ?_)
    go_wp2_with fail
    go_ret
    exact⟨ret_bool HV.out.symm,HB3.out⟩
   ·have HV:=Eqn.mk (HR2.trans (if_neg hr))
    clear HR2
    go_wp2_with fail
    refine Lx.region (C:=fun _=>True) (hs:=[]) (by kernel_rfl) (by kernel_rfl) trivial ?_
    repeat' (first|((first|refine Lx.ln (fun K hK=>?_) | (first|(refine Lx.lp (v:=?_) ?_ (fun K hK=>?_);rotate_left 1;intro w' hCw;try dsimp only at hCw) | (refine Lx.lr (v:=?_) ?_ (fun K hK=>?_);rotate_left 1));go_simp;first|done | with_reducible rfl);go_simp;refine hK _ ?_;clear hK K) | (refine Lx.le (fun K hK=>?_);go_simp;(first|(go_at_call 120;refine(HG.out _).mono ?_;rintro e w1 ⟨rfl,hb1⟩;have HB3:=Lib.hid (HB.out.drew.trans (hb1.mono (by exact hbs)));clear hb1));refine hK _ _ (trivial) ?_;clear hK K))
    all_goals (refine Lx.lex_nil ?_)
    go_wp2_with fail
    clear e1 e2 e3 e4 e5
    go_roundw
    case rel=>exact⟨k+1,.inl (by omega),by rw[←HKI.out];go_num,HV,HB3.out⟩
    case measure=>rw[←HKI.out];simp[intOf];omega
  ·have HV:Eqn (incF cmp5 l) true:=by
    rw[Eqn,HR.out]
    by_cases h0:k<l.length
    ·obtain⟨p,hp,hpd⟩:=drop_at (xs:=l) (k:=k) h0
     have hl2:=Hlen.out
     rw[hpd,drop_end (by omega)];rfl
    ·rw[drop_end (by omega)];rfl
   have j0:¬((k+1:Nat):Int)<(n:Int):=by omega
   clear HR hB
   go_wp2_with fail
   go_ret
   exact⟨ret_bool HV.out.symm,HB.out⟩
theorem incC_any (A:Option Addr) (n c:Nat) (w:World) (l:List R4) (hn:n≤9223372036854775807) (hl:RowS 4 R4.cell w w.heap.size A n l):
  Calls Tryz.prog 122 #[.slice A n c,.func (.func 123) #[] #[]] w (RetPost (.bool (incF cmp4 l)) w.heap.size w):=by
 have Hl:=Lib.hid hl
 have Hlen:=Eqn.mk hl.1
 clear hl
 go_enter Tryz.func122,Tryz.ntmps122
 go_wp2_with fail
 go_loopw [5] (fun i wr=>∃ k:Nat,(k+1≤n∨k=0)∧i=.int .i64 ((k+1:Nat):Int)∧Eqn (incF cmp4 l) (incF cmp4 (l.drop k))∧Below w.heap.size w wr) (fun i _=>n+1 - (intOf i).toNat)
 case atStart=>exact⟨0,.inr rfl,rfl,rfl,Below.refl _ _⟩
 case round=>
  obtain⟨k,hk,rfl,HR,hB⟩:=hrel
  have HB:=Lib.hid hB
  have hbs:=hB.size
  by_cases hlt:k+1<n
  ·obtain⟨p,hp,hpd⟩:=drop_at (xs:=l) (k:=k) (by rw[Hlen.out];omega)
   obtain⟨q,hq,hqd⟩:=drop_at (xs:=l) (k:=k+1) (by rw[Hlen.out];exact hlt)
   obtain⟨b,off,hA,hbl,hc⟩:=(Hl.out.below hB).2 (by omega)
   subst hA
   obtain⟨p0,p1,p2,p3⟩:=p
   obtain⟨q0,q1,q2,q3⟩:=q
   have c0:=hc k _ hp 0 (by omega)
   have c1:=hc k _ hp 1 (by omega)
   have c2:=hc k _ hp 2 (by omega)
   have c3:=hc k _ hp 3 (by omega)
   have d0:=hc (k+1) _ hq 0 (by omega)
   have d1:=hc (k+1) _ hq 1 (by omega)
   have d2:=hc (k+1) _ hq 2 (by omega)
   have d3:=hc (k+1) _ hq 3 (by omega)
   simp only[R4.cell,Nat.add_zero] at c0 c1 c2 c3 d0 d1 d2 d3
   have HG:=Lib.hid (fun W=>cmpCp_any ⟨p0,p1,p2,p3⟩ ⟨q0,q1,q2,q3⟩ W)
   have HR2:=HR.out
   rw[hpd,hqd,incF_cons,←hqd] at HR2
   unfold R4.val at HG
   dsimp only at HG
   have hbw:b<wr.heap.size:=by omega
   obtain⟨ki,hki⟩:∃ ki:Int,((k+1:Nat):Int)=ki:=⟨_,rfl⟩
   rw[hki]
   have j0:ki<(n:Int):=by omega
   have j1:1≤ki:=by omega
   have e1:IntKind.i64.wrap (ki - 1)=(k:Int):=by rw[IntWalk.i64_in _ (by omega)];omega
   have e2:ki.toNat=k+1:=by omega
   have e3:(ki - 1).toNat=k:=by omega
   have e4:0≤ki - 1:=by omega
   have e5:ki - 1<(n:Int):=by omega
   have e6:(k:Int)<(n:Int):=by omega
   have e7:(0:Int)≤(k:Int):=by omega
   have e8:0≤ki:=by omega
   have HKI:=Lib.hid hki
   generalize cmp4 ⟨p0,p1,p2,p3⟩ ⟨q0,q1,q2,q3⟩=r at *
   clear hc hp hpd hq hqd HR hB hki
   by_cases hr:0≤r
   ·have HV:=Eqn.mk (HR2.trans (if_pos hr))
    clear HR2
    go_wp2_with fail
    refine Lx.region (C:=fun _=>True) (hs:=[]) (by kernel_rfl) (by kernel_rfl) trivial ?_
    repeat' (first|((first|refine Lx.ln (fun K hK=>?_) | (first|(refine Lx.lp (v:=?_) ?_ (fun K hK=>?_);rotate_left 1;intro w' hCw;try dsimp only at hCw) | (refine Lx.lr (v:=?_) ?_ (fun K hK=>?_);rotate_left 1));go_simp;first|done | with_reducible rfl);go_simp;refine hK _ ?_;clear hK K) | (refine Lx.le (fun K hK=>?_);go_simp;(first|(go_at_call 123;refine(HG.out _).mono ?_;rintro e w1 ⟨rfl,hb1⟩;have HB3:=Lib.hid (HB.out.drew.trans (hb1.mono (by exact hbs)));clear hb1));refine hK _ _ (trivial) ?_;clear hK K))
    all_goals (refine Lx.lex_nil ?_)
    go_wp2_with fail
    go_ret
    exact⟨ret_bool HV.out.symm,HB3.out⟩
   ·have HV:=Eqn.mk (HR2.trans (if_neg hr))
    clear HR2
    go_wp2_with fail
    refine Lx.region (C:=fun _=>True) (hs:=[]) (by kernel_rfl) (by kernel_rfl) trivial ?_
    repeat' (first|((first|refine Lx.ln (fun K hK=>?_) | (first|(refine Lx.lp (v:=?_) ?_ (fun K hK=>?_);rotate_left 1;intro w' hCw;try dsimp only at hCw) | (refine Lx.lr (v:=?_) ?_ (fun K hK=>?_);rotate_left 1));go_simp;first|done | with_reducible rfl);go_simp;refine hK _ ?_;clear hK K) | (refine Lx.le (fun K hK=>?_);go_simp;(first|(go_at_call 123;refine(HG.out _).mono ?_;rintro e w1 ⟨rfl,hb1⟩;have HB3:=Lib.hid (HB.out.drew.trans (hb1.mono (by exact hbs)));clear hb1));refine hK _ _ (trivial) ?_;clear hK K))
    all_goals (refine Lx.lex_nil ?_)
    go_wp2_with fail
    clear e1 e2 e3 e4 e5
    go_roundw
    case rel=>exact⟨k+1,.inl (by omega),by rw[←HKI.out];go_num,HV,HB3.out⟩
    case measure=>rw[←HKI.out];simp[intOf];omega
  ·have HV:Eqn (incF cmp4 l) true:=by
    rw[Eqn,HR.out]
    by_cases h0:k<l.length
    ·obtain⟨p,hp,hpd⟩:=drop_at (xs:=l) (k:=k) h0
     have hl2:=Hlen.out
     rw[hpd,drop_end (by omega)];rfl
    ·rw[drop_end (by omega)];rfl
   have j0:¬((k+1:Nat):Int)<(n:Int):=by omega
   clear HR hB
   go_wp2_with fail
   go_ret
   exact⟨ret_bool HV.out.symm,HB.out⟩
end Go.Proofs.YtjakdikhdndlgaaGreatDoor
