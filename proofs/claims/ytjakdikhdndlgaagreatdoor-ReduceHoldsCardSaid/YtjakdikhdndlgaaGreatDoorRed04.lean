/- Lemmas of the proof, part 4. Conditions: none. -/
import Derived.Test.YtjakdikhdndlgaaGreatDoorRed03
set_option maxRecDepth 100000
set_option maxHeartbeats 8000000
namespace Go.Proofs.YtjakdikhdndlgaaGreatDoor
open Go.RowKit
section
variable {W1 W W' : World} {g8 g9 S : Nat} {v : PrbV} {x : PrbL}
end
theorem cells_newN (w:World) (cs:List Value) (t:TypeId):∀(j:Nat) (u:Value),cs[j]?=some u→(w.alloc (.cells cs.toArray t)).cell? ((⟨w.heap.size,0,none⟩:Addr).add j)=some u:=by
 intro j u h
 have h2:((⟨w.heap.size,0,none⟩:Addr).add j)=⟨w.heap.size,j,none⟩:=by unfold Addr.add;split<;>simp_all
 rw[h2]
 exact(blk_new w cs t).cell h
theorem dom_info:(Tryz.prog.info? 64).map (fun i=>(i.zero,i.size,i.bytes))=some (some (.agg #[.int .i64 0,.slice none 0 0]),2,32):=by kernel_rfl
def nilS:Value:=.slice none 0 0
def stS (l:List Int):Nat:=l.foldl (fun a i=>a ||| 2 ^ i.toNat) 0
theorem stS_snoc (l:List Int) (i:Int):stS (l++[i])=stS l ||| 2 ^ i.toNat:=by unfold stS;rw[List.foldl_append];rfl
structure PrbS where
 ad:Option Addr
 nd:Nat
 cd:Nat
 rs:RulS
def PrbS.val (s:PrbS):Value:=.agg #[.slice s.ad s.nd s.cd,.slice s.rs.a0 s.rs.n0 s.rs.c0,.slice s.rs.a1 s.rs.n1 s.rs.c1,.slice s.rs.a2 s.rs.n2 s.rs.c2]
def PrbAt (w:World) (D:Nat) (s:PrbS) (ds:List Dom) (r:Rul):Prop:=DomsAt w D s.ad s.nd ds∧RulAt w D s.rs r
def PrbPost (o:(List (Int×List Int)×Rul)×Int) (w:World) (e:Ending) (w':World):Prop:=∃ s ds,e=.returned (.tuple #[s.val,.int .i64 o.2])∧PrbAt w' w'.heap.size s ds o.1.2∧ds.map Dom.say=o.1.1∧Below w.heap.size w w'
theorem rowS_own {α:Type} {sz:Nat} {f:α→Nat→Value} {w:World} {base e n c:Nat} {A:Option Addr} {xs:List α} (hsz:0<sz) (h:w.ownsRow base e sz (.slice A n c) n (flat sz f xs)):RowS sz f w w.heap.size A n xs:=by
 obtain⟨A',c',he,hr⟩:=own_formS hsz h
 cases he
 exact hr
theorem row1_own {w:World} {base e n c:Nat} {A:Option Addr} {xs:List Int} (h:w.ownsRow base e 1 (.slice A n c) n (xs.map intV)):Row1 intV w w.heap.size A n xs:=by
 obtain⟨A',c',he,hr⟩:=row1_of_own h
 cases he
 exact hr
theorem pair_info:(Tryz.prog.info? 67).map (fun i=>(i.zero,i.size,i.bytes))=some (some (.agg #[.int .i64 0,.int .i64 0,.int .i64 0,.int .i64 0,.int .i64 0]),5,40):=by kernel_rfl
theorem load_info:(Tryz.prog.info? 69).map (fun i=>(i.zero,i.size,i.bytes))=some (some (.agg #[.int .i64 0,.int .i64 0,.int .i64 0,.int .i64 0,.int .i64 0]),5,40):=by kernel_rfl
theorem cap_info:(Tryz.prog.info? 71).map (fun i=>(i.zero,i.size,i.bytes))=some (some (.agg #[.int .i64 0,.int .i64 0,.int .i64 0,.int .i64 0]),4,32):=by kernel_rfl
theorem rules_len {r:Rul} (h:rulesF r=true):r.pairs.length≤4096∧r.loads.length≤1024∧r.caps.length≤1024:=by
 simp only[rulesF,Bool.and_eq_true,decide_eq_true_eq] at h
 omega
theorem filter_take {α:Type} (f:α→Bool) (l:List α) (m:Nat) (x:α) (h:l[m]?=some x):(l.take (m+1)).filter f=(l.take m).filter f++(if f x then [x] else []):=by
 rw[List.take_add_one,h,List.filter_append]
 simp[List.filter_cons]
theorem prb_nil (w:World) (D:Nat):PrbAt w D ⟨none,0,0,⟨none,0,0,none,0,0,none,0,0⟩⟩ [] ⟨[],[],[]⟩:=⟨⟨RowS.nil _ _ _ _ _,fun d h=>by cases h⟩,RowS.nil _ _ _ _ _,RowS.nil _ _ _ _ _,RowS.nil _ _ _ _ _,by decide,by decide,by decide⟩
def hasL:List Int→Int→Bool
 | [],_=>false
 | y::r,x=>if y=x then true else hasL r x
theorem hasL_mem (l:List Int) (x:Int):hasL l x=decide (x∈l):=by
 induction l with
 | nil=>simp[hasL]
 | cons y r ih=>
  unfold hasL
  by_cases h:y=x
  ·rw[if_pos h];simp[h]
  ·rw[if_neg h,ih];simp[Ne.symm h]
theorem rhas_any (A:Option Addr) (n c:Nat) (x:Int) (w:World) (l:List Int) (hn:n≤9223372036854775807) (hl:Row1 intV w w.heap.size A n l):
  Calls Tryz.prog 15 #[.slice A n c,.int .i64 x] w fun e w'=>e=.returned (.bool (hasL l x))∧w=w':=by
 have Hl:=Lib.hid hl
 have Hlen:=Eqn.mk hl.1
 clear hl
 go_enter Tryz.func15,Tryz.ntmps15
 go_wp2_with fail
 go_loopw [5] (fun i wr=>∃ k:Nat,k≤n∧i=.int .i64 k∧Eqn (hasL l x) (hasL (l.drop k) x)∧w=wr) (fun i _=>n - (intOf i).toNat)
 case atStart=>exact⟨0,Nat.zero_le _,rfl,rfl,rfl⟩
 case round=>
  obtain⟨k,hk,rfl,HR,rfl⟩:=hrel
  by_cases hlt:k<n
  ·obtain⟨p,hp,hpd⟩:=drop_at (xs:=l) (k:=k) (by rw[Hlen.out];exact hlt)
   obtain⟨b,off,hA,hbl,hc⟩:=Hl.out.2 (by omega)
   subst hA
   have c0:=hc k p hp
   simp only[intV] at c0
   have HR2:=HR.out
   rw[hpd,hasL] at HR2
   have HRR:=Eqn.mk HR2
   have j0:(k:Int)<(n:Int):=by omega
   clear hc hp hpd HR HR2
   by_cases he:p=x
   ·have HE:=Eqn.mk (HRR.out.trans (if_pos he))
    have hd:(p == x)=true:=by simpa using he
    clear HRR he
    go_wp2_with fail
    go_ret
    exact⟨ret_bool HE.out.symm,rfl⟩
   ·have HE:=Eqn.mk (HRR.out.trans (if_neg he))
    have hd:(p == x)=false:=by simpa using he
    clear HRR he
    go_wp2_with fail
    go_roundw
    case rel=>exact⟨k+1,by omega,by go_num,HE,trivial⟩
    case measure=>simp[intOf];omega
  ·obtain rfl:k=n:=by omega
   go_wp2_with fail
   go_ret
   exact⟨ret_bool (by rw[HR.out,drop_end (by rw[Hlen.out];omega)];rfl),rfl⟩
def findD (x:Int):Nat→List Dom→Int
 | _,[]=>-1
 | k,d::r=>if d.st=x then k else findD x (k+1) r
theorem findD_neg (x:Int):∀(l:List Dom) (k:Nat),decide (findD x k l<0)=!decide (x∈l.map Dom.st):=by
 intro l
 induction l with
 | nil=>intro k;rfl
 | cons d r ih=>
  intro k
  unfold findD
  by_cases h:d.st=x
  ·rw[if_pos h]
   simp[h]
  ·rw[if_neg h,ih]
   simp[Ne.symm h]
theorem rfind_any (s:PrbS) (x:Int) (w:World) (ds:List Dom) (hn:s.nd≤9223372036854775807) (hl:DomsAt w w.heap.size s.ad s.nd ds):
  Calls Tryz.prog 21 #[s.val,.int .i64 x] w (RetPost (.int .i64 (findD x 0 ds)) w.heap.size w):=by
 obtain⟨A,n,c,⟨A0,n0,c0,A1,n1,c1,A2,n2,c2⟩⟩:=s
 obtain⟨W0,hW0⟩:∃ W0,W0=w.alloc (.cells #[.slice A n c,.slice A0 n0 c0,.slice A1 n1 c1,.slice A2 n2 c2] 29):=⟨_,rfl⟩
 have hB0:Below w.heap.size w W0:=by rw[hW0];exact(Below.refl _ w).alloc (Nat.le_refl _) _
 have z0:W0.cell? ⟨w.heap.size,0,none⟩=some (.slice A n c):=by rw[hW0];simp[go_sem]
 have Hl:=Lib.hid (hl.1.keep hB0)
 have Hlen:=Eqn.mk hl.1.1
 have HB0:=Lib.hid hB0
 clear hl hB0
 unfold PrbS.val
 dsimp only at *
 go_enter Tryz.func21,Tryz.ntmps21
 go_wp2_with fail
 rw[←hW0]
 clear hW0
 go_loopw [5] (fun i wr=>∃ k:Nat,k≤n∧i=.int .i64 k∧Eqn (findD x 0 ds) (findD x k (ds.drop k))∧W0=wr) (fun i _=>n - (intOf i).toNat)
 case atStart=>exact⟨0,Nat.zero_le _,rfl,rfl,rfl⟩
 case round=>
  obtain⟨k,hk,rfl,HR,rfl⟩:=hrel
  by_cases hlt:k<n
  ·obtain⟨p,hp,hpd⟩:=drop_at (xs:=ds) (k:=k) (by rw[Hlen.out];exact hlt)
   obtain⟨b,off,hA,hbl,hc⟩:=Hl.out.2 (by omega)
   subst hA
   have c0:=hc k p hp 0 (by omega)
   simp only[Dom.cell,Nat.add_zero] at c0
   have HR2:=HR.out
   rw[hpd,findD] at HR2
   have HRR:=Eqn.mk HR2
   have j0:(k:Int)<(n:Int):=by omega
   clear hc hp hpd HR HR2
   by_cases he:p.st=x
   ·have HE:=Eqn.mk (HRR.out.trans (if_pos he))
    have hd:(p.st == x)=true:=by simpa using he
    clear HRR he
    go_wp2_with fail
    go_ret
    exact⟨ret_int HE.out.symm,HB0.out⟩
   ·have HE:=Eqn.mk (HRR.out.trans (if_neg he))
    have hd:(p.st == x)=false:=by simpa using he
    clear HRR he
    go_wp2_with fail
    go_roundw
    case rel=>exact⟨k+1,by omega,by go_num,HE,trivial⟩
    case measure=>simp[intOf];omega
  ·obtain rfl:k=n:=by omega
   go_wp2_with fail
   go_ret
   exact⟨ret_int (by rw[HR.out,drop_end (by rw[Hlen.out];omega)];rfl),HB0.out⟩
theorem rst_any (n:Int) (w:World):Calls Tryz.prog 33 #[.int .i64 n] w fun e w'=>e=.returned (.bool (stF n))∧w=w':=by
 unfold stF
 by_cases h1:0≤n
 ·go_enter Tryz.func33,Tryz.ntmps33
  go_wp2
  go_ret
  exact⟨ret_bool (by first|(simp;omega) | simp[h1]),rfl⟩
 ·go_enter Tryz.func33,Tryz.ntmps33
  go_wp2
  go_ret
  exact⟨ret_bool (by first|(simp;omega) | simp[h1]),rfl⟩
theorem rsp_any (lo hi:Int) (w:World):Calls Tryz.prog 66 #[.int .i64 lo,.int .i64 hi] w fun e w'=>e=.returned (.bool (spF lo hi))∧w=w':=by
 unfold spF
 by_cases h1:2≤lo
 ·by_cases h2:lo≤hi
  ·go_enter Tryz.func66,Tryz.ntmps66
   go_wp2
   go_ret
   exact⟨ret_bool (by first|(simp;omega) | simp[h1,h2]),rfl⟩
  ·go_enter Tryz.func66,Tryz.ntmps66
   go_wp2
   go_ret
   exact⟨ret_bool (by first|(simp;omega) | simp[h1,h2]),rfl⟩
 ·go_enter Tryz.func66,Tryz.ntmps66
  go_wp2
  go_ret
  exact⟨ret_bool (by first|(simp;omega) | simp[h1]),rfl⟩
def NumsPost (l:List Int) (w:World) (e:Ending) (w':World):Prop:=e=.returned (.slice (some ⟨w.heap.size+1,0,none⟩) l.length l.length)∧Row1 intV w' w'.heap.size (some ⟨w.heap.size+1,0,none⟩) l.length l∧Below w.heap.size w w'
theorem rPairOf_any (x:R5) (w:World):Calls Tryz.prog 68 #[x.val] w (NumsPost x.nums w):=by
 have hr:=row1_new (w.alloc (.cells #[.int .i64 x.a,.int .i64 x.b,.int .i64 x.c,.int .i64 x.d,.int .i64 x.e] 67)) intV 3 x.nums
 rw[World.size_alloc] at hr
 have HR:Hid (Row1 intV ((w.alloc (.cells #[.int .i64 x.a,.int .i64 x.b,.int .i64 x.c,.int .i64 x.d,.int .i64 x.e] 67)).alloc (.cells (x.nums.map intV).toArray 3)) (w.heap.size+1+1) (some ⟨w.heap.size+1,0,none⟩) x.nums.length x.nums):=Lib.hid hr
 clear hr
 unfold R5.val
 unfold R5.nums at HR
 unfold R5.nums
 go_enter Tryz.func68,Tryz.ntmps68
 go_wp2
 go_ret
 refine⟨rfl,HR.out.up (by simp),((Below.refl _ w).alloc (Nat.le_refl _) _).alloc (by simp) _⟩
theorem rLoadOf_any (x:R5) (w:World):Calls Tryz.prog 69 #[x.val] w (NumsPost x.nums w):=by
 have hr:=row1_new (w.alloc (.cells #[.int .i64 x.a,.int .i64 x.b,.int .i64 x.c,.int .i64 x.d,.int .i64 x.e] 69)) intV 3 x.nums
 rw[World.size_alloc] at hr
 have HR:Hid (Row1 intV ((w.alloc (.cells #[.int .i64 x.a,.int .i64 x.b,.int .i64 x.c,.int .i64 x.d,.int .i64 x.e] 69)).alloc (.cells (x.nums.map intV).toArray 3)) (w.heap.size+1+1) (some ⟨w.heap.size+1,0,none⟩) x.nums.length x.nums):=Lib.hid hr
 clear hr
 unfold R5.val
 unfold R5.nums at HR
 unfold R5.nums
 go_enter Tryz.func69,Tryz.ntmps69
 go_wp2
 go_ret
 refine⟨rfl,HR.out.up (by simp),((Below.refl _ w).alloc (Nat.le_refl _) _).alloc (by simp) _⟩
theorem rCapOf_any (x:R4) (w:World):Calls Tryz.prog 70 #[x.val] w (NumsPost x.nums w):=by
 have hr:=row1_new (w.alloc (.cells #[.int .i64 x.a,.int .i64 x.b,.int .i64 x.c,.int .i64 x.d] 71)) intV 3 x.nums
 rw[World.size_alloc] at hr
 have HR:Hid (Row1 intV ((w.alloc (.cells #[.int .i64 x.a,.int .i64 x.b,.int .i64 x.c,.int .i64 x.d] 71)).alloc (.cells (x.nums.map intV).toArray 3)) (w.heap.size+1+1) (some ⟨w.heap.size+1,0,none⟩) x.nums.length x.nums):=Lib.hid hr
 clear hr
 unfold R4.val
 unfold R4.nums at HR
 unfold R4.nums
 go_enter Tryz.func70,Tryz.ntmps70
 go_wp2
 go_ret
 refine⟨rfl,HR.out.up (by simp),((Below.refl _ w).alloc (Nat.le_refl _) _).alloc (by simp) _⟩
theorem lessL_cons (x y:Int) (r t:List Int):lessL (x::r) (y::t)=if x≠y then decide (x<y) else lessL r t:=rfl
theorem rless_any (A B:Option Addr) (n m c d:Nat) (a b:List Int) (w:World) (hn:n≤1000) (ha:Row1 intV w w.heap.size A n a) (hb:Row1 intV w w.heap.size B m b) (hnm:n=m):
  Calls Tryz.prog 67 #[.slice A n c,.slice B m d] w (RetPost (.bool (lessL a b)) w.heap.size w):=by
 have Ha:=Lib.hid ha
 have Hb:=Lib.hid hb
 subst hnm
 have Hal:=Eqn.mk ha.1
 have Hbl:=Eqn.mk hb.1
 clear ha hb
 go_enter Tryz.func67,Tryz.ntmps67
 go_wp2_with fail
 go_loopw [5] (fun i wr=>∃ k:Nat,k≤n∧i=.int .i64 k∧Eqn (lessL a b) (lessL (a.drop k) (b.drop k))∧Below w.heap.size w wr) (fun i _=>n - (intOf i).toNat)
 case atStart=>exact⟨0,Nat.zero_le _,rfl,rfl,Below.refl _ _⟩
 case round=>
  obtain⟨k,hk,rfl,HR,hB⟩:=hrel
  have HB:=Lib.hid hB
  have hbs:=hB.size
  by_cases hlt:k<n
  ·obtain⟨p,hp,hpd⟩:=drop_at (xs:=a) (k:=k) (by rw[Hal.out];exact hlt)
   obtain⟨q,hq,hqd⟩:=drop_at (xs:=b) (k:=k) (by rw[Hbl.out];exact hlt)
   obtain⟨ab,ao,hA,hal,hca⟩:=(Ha.out.below hB).2 (by omega)
   obtain⟨bb,bo,hBB,hbl,hcb⟩:=(Hb.out.below hB).2 (by omega)
   subst hA
   subst hBB
   have c0:=hca k p hp
   have d0:=hcb k q hq
   simp only[intV] at c0 d0
   have HR2:=HR.out
   rw[hpd,hqd,lessL_cons] at HR2
   have HRR:=Eqn.mk HR2
   have j0:(k:Int)<(n:Int):=by omega
   clear hca hcb hp hpd hq hqd HR HR2 hB
   by_cases hpq:p=q
   ·have HE:=Eqn.mk (HRR.out.trans (if_neg (by simp[hpq])))
    have hd:(p != q)=false:=by simp[hpq]
    clear HRR hpq
    go_wp2_with fail
    refine Lx.region (C:=fun _=>True) (hs:=[]) (by kernel_rfl) (by kernel_rfl) trivial ?_
    repeat' (first|((first|refine Lx.ln (fun K hK=>?_) | (first|(refine Lx.lp (v:=?_) ?_ (fun K hK=>?_);rotate_left 1;intro w' hCw;try dsimp only at hCw) | (refine Lx.lr (v:=?_) ?_ (fun K hK=>?_);rotate_left 1));go_simp;first|done | with_reducible rfl);go_simp;refine hK _ ?_;clear hK K) | (refine Lx.le (fun K hK=>?_);go_simp;(first|fail);refine hK _ _ (trivial) ?_;clear hK K))
    all_goals (refine Lx.lex_nil ?_)
    go_wp2_with fail
    go_roundw
    case rel=>exact⟨k+1,by omega,by go_num,HE,HB.out.drew⟩
    case measure=>simp[intOf];omega
   ·have HE:=Eqn.mk (HRR.out.trans (if_pos hpq))
    have hd:(p != q)=true:=by simp[hpq]
    clear HRR hpq
    go_wp2_with fail
    refine Lx.region (C:=fun _=>True) (hs:=[]) (by kernel_rfl) (by kernel_rfl) trivial ?_
    repeat' (first|((first|refine Lx.ln (fun K hK=>?_) | (first|(refine Lx.lp (v:=?_) ?_ (fun K hK=>?_);rotate_left 1;intro w' hCw;try dsimp only at hCw) | (refine Lx.lr (v:=?_) ?_ (fun K hK=>?_);rotate_left 1));go_simp;first|done | with_reducible rfl);go_simp;refine hK _ ?_;clear hK K) | (refine Lx.le (fun K hK=>?_);go_simp;(first|fail);refine hK _ _ (trivial) ?_;clear hK K))
    all_goals (refine Lx.lex_nil ?_)
    go_wp2_with fail
    refine Lx.region (C:=fun _=>True) (hs:=[]) (by kernel_rfl) (by kernel_rfl) trivial ?_
    repeat' (first|((first|refine Lx.ln (fun K hK=>?_) | (first|(refine Lx.lp (v:=?_) ?_ (fun K hK=>?_);rotate_left 1;intro w' hCw;try dsimp only at hCw) | (refine Lx.lr (v:=?_) ?_ (fun K hK=>?_);rotate_left 1));go_simp;first|done | with_reducible rfl);go_simp;refine hK _ ?_;clear hK K) | (refine Lx.le (fun K hK=>?_);go_simp;(first|fail);refine hK _ _ (trivial) ?_;clear hK K))
    all_goals (refine Lx.lex_nil ?_)
    go_wp2_with fail
    go_ret
    exact⟨ret_bool HE.out.symm,HB.out.drew.drew⟩
  ·obtain rfl:k=n:=by omega
   clear hB
   go_wp2_with fail
   go_ret
   refine⟨ret_bool ?_,HB.out⟩
   rw[HR.out,drop_end (by rw[Hal.out];omega)]
   rfl
def prevR {α:Type} (l:List α) (k:Nat):Option α:=if k=0 then none else l[k - 1]?
theorem prevR_succ {α:Type} (l:List α) (k:Nat):prevR l (k+1)=l[k]?:=by unfold prevR;rw[if_neg (by omega),Nat.add_sub_cancel]
theorem goF_cons {α:Type} (good:α→Bool) (nums:α→List Int) (prev:Option α) (x:α) (r:List α):goF good nums prev (x::r)=if good x&&(match prev with | none=>true | some y=>lessL (nums y) (nums x)) then goF good nums (some x) r else false:=rfl
theorem goF_bad {α:Type} {good:α→Bool} {nums:α→List Int} {prev:Option α} {x:α} {r:List α} (h:good x=false):goF good nums prev (x::r)=false:=by rw[goF_cons,h];simp
theorem goF_first {α:Type} {good:α→Bool} {nums:α→List Int} {x:α} {r:List α} (h:good x=true):goF good nums none (x::r)=goF good nums (some x) r:=by rw[goF_cons,h];simp
theorem goF_less {α:Type} {good:α→Bool} {nums:α→List Int} {x y:α} {r:List α} (h:good x=true) (h2:lessL (nums y) (nums x)=true):goF good nums (some y) (x::r)=goF good nums (some x) r:=by rw[goF_cons,h];simp[h2]
theorem goF_not {α:Type} {good:α→Bool} {nums:α→List Int} {x y:α} {r:List α} (h2:lessL (nums y) (nums x)=false):goF good nums (some y) (x::r)=false:=by rw[goF_cons];simp[h2]
def loopsOf:Code→List Code
 | .loop c=>c::loopsOf c
 | .seq a b=>loopsOf a++loopsOf b
 | .block _ c=>loopsOf c
 | .cond _ a b=>loopsOf a++loopsOf b
 | _=>[]
noncomputable def rvLoop (k:Nat):Code:=((Tryz.f32.body.map loopsOf).getD []).getD k .skip
theorem cell_lt {w:World} {a:Addr} {v:Value} (h:w.cell? a=some v):a.block<w.heap.size:=by
 unfold World.cell? at h
 cases hh:w.heap[a.block]? with
 | none=>simp[hh] at h
 | some o=>exact(Array.getElem?_eq_some_iff.1 hh).1
theorem rv_pairs (w W0 wi:World) (A0 A1 A2:Option Addr) (n0 c0 n1 c1 n2 c2:Nat) (r:Rul) (ans:Bool) (h:RulAt W0 W0.heap.size ⟨A0,n0,c0,A1,n1,c1,A2,n2,c2⟩ r)
  (hx:Blk W0 w.heap.size 27 [.slice A0 n0 c0,.slice A1 n1 c1,.slice A2 n2 c2]) (hans:Eqn ans (goF goodP R5.nums none r.pairs&&goF goodL R5.nums none r.loads&&goF goodC R4.nums none r.caps)) (hwi:Below W0.heap.size W0 wi)
  (d0:n0≤4096) (_d1:n1≤1024) (_d2:n2≤1024)
  (x_0 x_2 x_4 x_5 x_6 x_7 x_8 x_9 x_10 x_11 x_12 x_13 x_14 x_15 x_16 x_17 x_18 x_19 x_20 x_21 x_22 x_23 x_24 x_25 x_26 x_27 x_28 x_29 x_30 x_31 x_32 x_33 x_34 x_35 x_36 x_37 x_38 x_39 x_40 x_41 x_42 x_43 x_44 x_45 x_46 x_47 x_48 x_49 x_50 x_51 x_52 x_53 x_54 x_55 x_56 x_57 x_58 x_59 x_60 x_61 x_62 x_63 x_64 x_65 x_66 x_67 x_68 x_69 x_70 x_71 x_72 x_73 x_74 x_75 x_76 x_77 x_78 x_79 x_80 x_81 x_82 x_83 x_84 x_85 x_86 x_87 x_88 x_89 x_90 x_91 x_92 x_93 x_94 x_95 x_96 x_97 x_98 x_99 x_100 x_101 x_102 x_103 x_104 x_105 x_106 x_107 x_108 x_109 x_110 x_111 x_112 x_113 x_114 x_115 x_116 x_117 x_118 x_119 x_120 x_121 x_122 x_123 x_124 x_125 x_126 x_127 x_128 x_129 x_130 x_131 x_132 x_133 x_134 x_135 x_136 x_137 x_138 x_139 x_140 x_141 x_142 x_143 x_144 x_145 x_146 x_147 x_148 x_149 x_150 x_151 x_152 x_153 x_154 x_155 x_156 x_157 x_158 x_159 x_160 x_161 x_162 x_163 x_164 x_165 x_166 x_167 x_168 x_169 x_170 x_171 x_172 x_173 x_174 x_175 x_176 x_177 x_178 x_179 x_180 x_181 x_182 x_183 x_184 x_185 x_186 x_187 x_188 x_189 x_190 x_191 x_192 x_193 x_194 x_195 x_196 x_197 x_198 x_199 x_200 x_201 x_202 x_203:Value) (Q:Exit→Act→World→Prop)
  (hQ:∀(u2 u3 u4 u25 u26 u27 u28 u29 u30 u31 u32 u33 u34 u35 u36 u37 u38 u39 u40 u41 u42 u43 u44 u45 u46 u47 u48 u49 u50 u51 u52 u53 u54 u55 u56 u57 u58 u59 u60 u61 u62 u63 u64 u65 u66 u67 u68 u69 u70 u71 u72 u73 u74 u75 u76 u77 u78 u79 u80 u81 u82 u83 u84 u85 u86 u87 u88:Value) (w':World),Eqn ans (goF goodL R5.nums none r.loads&&goF goodC R4.nums none r.caps)→Below W0.heap.size W0 w'→Q (.exit 0) ⟨List.toArray (x_0::Value.pointer (some ⟨w.heap.size,0,none⟩)::u2::u3::u4::x_5::x_6::x_7::x_8::x_9::x_10::x_11::x_12::x_13::x_14::x_15::x_16::x_17::x_18::x_19::x_20::x_21::x_22::x_23::x_24::u25::u26::u27::u28::u29::u30::u31::u32::u33::u34::u35::u36::u37::u38::u39::u40::u41::u42::u43::u44::u45::u46::u47::u48::u49::u50::u51::u52::u53::u54::u55::u56::u57::u58::u59::u60::u61::u62::u63::u64::u65::u66::u67::u68::u69::u70::u71::u72::u73::u74::u75::u76::u77::u78::u79::u80::u81::u82::u83::u84::u85::u86::u87::u88::x_89::x_90::x_91::x_92::x_93::x_94::x_95::x_96::x_97::x_98::x_99::x_100::x_101::x_102::x_103::x_104::x_105::x_106::x_107::x_108::x_109::x_110::x_111::x_112::x_113::x_114::x_115::x_116::x_117::x_118::x_119::x_120::x_121::x_122::x_123::x_124::x_125::x_126::x_127::x_128::x_129::x_130::x_131::x_132::x_133::x_134::x_135::x_136::x_137::x_138::x_139::x_140::x_141::x_142::x_143::x_144::x_145::x_146::x_147::x_148::x_149::x_150::x_151::x_152::x_153::x_154::x_155::x_156::x_157::x_158::x_159::x_160::x_161::x_162::x_163::x_164::x_165::x_166::x_167::x_168::x_169::x_170::x_171::x_172::x_173::x_174::x_175::x_176::x_177::x_178::x_179::x_180::x_181::x_182::x_183::x_184::x_185::x_186::x_187::x_188::x_189::x_190::x_191::x_192::x_193::x_194::x_195::x_196::x_197::x_198::x_199::x_200::x_201::x_202::x_203::[]),[]⟩ w')
  (hR:∀(u3 u4 u25 u26 u27 u28 u29 u30 u31 u32 u33 u34 u35 u36 u37 u38 u39 u40 u41 u42 u43 u44 u45 u46 u47 u48 u49 u50 u51 u52 u53 u54 u55 u56 u57 u58 u59 u60 u61 u62 u63 u64 u65 u66 u67 u68 u69 u70 u71 u72 u73 u74 u75 u76 u77 u78 u79 u80 u81 u82 u83 u84 u85 u86 u87 u88:Value) (w':World),Eqn ans false→Below W0.heap.size W0 w'→Q .ret ⟨List.toArray (x_0::Value.pointer (some ⟨w.heap.size,0,none⟩)::Value.bool false::u3::u4::x_5::x_6::x_7::x_8::x_9::x_10::x_11::x_12::x_13::x_14::x_15::x_16::x_17::x_18::x_19::x_20::x_21::x_22::x_23::x_24::u25::u26::u27::u28::u29::u30::u31::u32::u33::u34::u35::u36::u37::u38::u39::u40::u41::u42::u43::u44::u45::u46::u47::u48::u49::u50::u51::u52::u53::u54::u55::u56::u57::u58::u59::u60::u61::u62::u63::u64::u65::u66::u67::u68::u69::u70::u71::u72::u73::u74::u75::u76::u77::u78::u79::u80::u81::u82::u83::u84::u85::u86::u87::u88::x_89::x_90::x_91::x_92::x_93::x_94::x_95::x_96::x_97::x_98::x_99::x_100::x_101::x_102::x_103::x_104::x_105::x_106::x_107::x_108::x_109::x_110::x_111::x_112::x_113::x_114::x_115::x_116::x_117::x_118::x_119::x_120::x_121::x_122::x_123::x_124::x_125::x_126::x_127::x_128::x_129::x_130::x_131::x_132::x_133::x_134::x_135::x_136::x_137::x_138::x_139::x_140::x_141::x_142::x_143::x_144::x_145::x_146::x_147::x_148::x_149::x_150::x_151::x_152::x_153::x_154::x_155::x_156::x_157::x_158::x_159::x_160::x_161::x_162::x_163::x_164::x_165::x_166::x_167::x_168::x_169::x_170::x_171::x_172::x_173::x_174::x_175::x_176::x_177::x_178::x_179::x_180::x_181::x_182::x_183::x_184::x_185::x_186::x_187::x_188::x_189::x_190::x_191::x_192::x_193::x_194::x_195::x_196::x_197::x_198::x_199::x_200::x_201::x_202::x_203::[]),[]⟩ w'):
  Code.wp Tryz.prog (Code.loop (rvLoop 0)) Q ⟨List.toArray (x_0::Value.pointer (some ⟨w.heap.size,0,none⟩)::x_2::Value.int .i64 0::x_4::x_5::x_6::x_7::x_8::x_9::x_10::x_11::x_12::x_13::x_14::x_15::x_16::x_17::x_18::x_19::x_20::x_21::x_22::x_23::x_24::x_25::x_26::x_27::x_28::x_29::x_30::x_31::x_32::x_33::x_34::x_35::x_36::x_37::x_38::x_39::x_40::x_41::x_42::x_43::x_44::x_45::x_46::x_47::x_48::x_49::x_50::x_51::x_52::x_53::x_54::x_55::x_56::x_57::x_58::x_59::x_60::x_61::x_62::x_63::x_64::x_65::x_66::x_67::x_68::x_69::x_70::x_71::x_72::x_73::x_74::x_75::x_76::x_77::x_78::x_79::x_80::x_81::x_82::x_83::x_84::x_85::x_86::x_87::x_88::x_89::x_90::x_91::x_92::x_93::x_94::x_95::x_96::x_97::x_98::x_99::x_100::x_101::x_102::x_103::x_104::x_105::x_106::x_107::x_108::x_109::x_110::x_111::x_112::x_113::x_114::x_115::x_116::x_117::x_118::x_119::x_120::x_121::x_122::x_123::x_124::x_125::x_126::x_127::x_128::x_129::x_130::x_131::x_132::x_133::x_134::x_135::x_136::x_137::x_138::x_139::x_140::x_141::x_142::x_143::x_144::x_145::x_146::x_147::x_148::x_149::x_150::x_151::x_152::x_153::x_154::x_155::x_156::x_157::x_158::x_159::x_160::x_161::x_162::x_163::x_164::x_165::x_166::x_167::x_168::x_169::x_170::x_171::x_172::x_173::x_174::x_175::x_176::x_177::x_178::x_179::x_180::x_181::x_182::x_183::x_184::x_185::x_186::x_187::x_188::x_189::x_190::x_191::x_192::x_193::x_194::x_195::x_196::x_197::x_198::x_199::x_200::x_201::x_202::x_203::[]),[]⟩ wi:=by
 have HQ:=Lib.hid hQ
 have HRT:=Lib.hid hR
 have HC:Hid (∀ W,Below W0.heap.size W0 W→W.cell? ⟨w.heap.size,0,none⟩=some (.slice A0 n0 c0)∧W.cell? ⟨w.heap.size,1,none⟩=some (.slice A1 n1 c1)∧W.cell? ⟨w.heap.size,2,none⟩=some (.slice A2 n2 c2)):=Lib.hid (fun W hb=>⟨(hx.keep hb).cell rfl,(hx.keep hb).cell rfl,(hx.keep hb).cell rfl⟩)
 have HH:=Lib.hid h
 have HL:Hid (r.pairs.length=n0∧r.loads.length=n1∧r.caps.length=n2):=Lib.hid ⟨h.1.1,h.2.1.1,h.2.2.1.1⟩
 have HST:=Lib.hid (fun n w=>rst_any n w)
 have HSP:=Lib.hid (fun a b w=>rsp_any a b w)
 have HANS:Eqn ans (goF goodP R5.nums (prevR r.pairs 0) (r.pairs.drop 0)&&goF goodL R5.nums none r.loads&&goF goodC R4.nums none r.caps):=hans
 have B0:=Lib.hid hwi
 clear h hx hans hwi hQ hR
 conv=>arg 2;arg 1;whnf
 go_loopw [3] (fun i wr=>∃ k:Nat,k≤n0∧i=.int .i64 k∧Eqn ans (goF goodP R5.nums (prevR r.pairs k) (r.pairs.drop k)&&goF goodL R5.nums none r.loads&&goF goodC R4.nums none r.caps)∧Below W0.heap.size W0 wr) (fun i _=>n0 - (intOf i).toNat)
 case atStart=>exact⟨0,Nat.zero_le _,rfl,HANS,B0.out⟩
 case round=>
  obtain⟨k,hk,rfl,HR,hB⟩:=hrel
  have HB:=Lib.hid hB
  have hbs:=hB.size
  obtain⟨b0,b1,b2⟩:=HC.out _ hB
  have hwr:w.heap.size<wr.heap.size:=(cell_lt b0)
  by_cases hlt:k<n0
  ·obtain⟨p,hp,hpd⟩:=drop_at (xs:=r.pairs) (k:=k) (by rw[HL.out.1];exact hlt)
   have hrow:=HH.out.1.below hB
   obtain⟨b,off,hA,hbl,hc⟩:=hrow.2 (by dsimp only;omega)
   dsimp only at hA hbl hc
   subst hA
   have e0:=hc k p hp 0 (by omega)
   have e1:=hc k p hp 1 (by omega)
   have e2:=hc k p hp 2 (by omega)
   have e3:=hc k p hp 3 (by omega)
   have e4:=hc k p hp 4 (by omega)
   have hnx:prevR r.pairs (k+1)=some p:=by rw[prevR_succ,hp]
   obtain⟨y,hy,hpy⟩:∃ y:R5,(0<k→∀ j,j<5→wr.cell? ⟨b,off+(k - 1) * 5+j,none⟩=some (y.cell j))∧(0<k→prevR r.pairs k=some y):=by
    by_cases h0:0<k
    ·obtain⟨q,hq,_⟩:=drop_at (xs:=r.pairs) (k:=k - 1) (by rw[HL.out.1];omega)
     exact⟨q,fun _ j hj=>hc (k - 1) q hq j hj,fun _=>by unfold prevR;rw[if_neg (by omega),hq]⟩
    ·exact⟨p,fun h=>absurd h h0,fun h=>absurd h h0⟩
   obtain⟨x0,x1,x2,x3,x4⟩:=p
   obtain⟨y0,y1,y2,y3,y4⟩:=y
   simp only[R5.cell,Nat.add_zero] at e0 e1 e2 e3 e4
   have HR2:=HR.out
   rw[hpd] at HR2
   have HRR:=Eqn.mk HR2
   have HNX:=Eqn.mk hnx
   have HPY:=Lib.hid hpy
   obtain⟨W2,hW2⟩:∃ W2,W2=wr.alloc (.cells #[.int .i64 x0,.int .i64 x1,.int .i64 x2,.int .i64 x3,.int .i64 x4] 67):=⟨_,rfl⟩
   have hB2:Below wr.heap.size wr W2:=by rw[hW2];exact(Below.refl _ wr).alloc (Nat.le_refl _) _
   have hX:Blk W2 wr.heap.size 67 [.int .i64 x0,.int .i64 x1,.int .i64 x2,.int .i64 x3,.int .i64 x4]:=by rw[hW2];exact blk_new _ _ _
   have v0:W2.cell? ⟨wr.heap.size,0,none⟩=some (.int .i64 x0):=hX.cell rfl
   have v1:W2.cell? ⟨wr.heap.size,1,none⟩=some (.int .i64 x1):=hX.cell rfl
   have v2:W2.cell? ⟨wr.heap.size,2,none⟩=some (.int .i64 x2):=hX.cell rfl
   have v3:W2.cell? ⟨wr.heap.size,3,none⟩=some (.int .i64 x3):=hX.cell rfl
   have v4:W2.cell? ⟨wr.heap.size,4,none⟩=some (.int .i64 x4):=hX.cell rfl
   have hw2:=hX.lt
   have HX:=Lib.hid hX
   have HB2:=Lib.hid (hB.trans (hB2.mono hbs))
   obtain⟨z0,z1,z2⟩:=HC.out _ HB2.out
   have HY:Hid (0<k→∀ j,j<5→W2.cell? ⟨b,off+(k - 1) * 5+j,none⟩=some ((⟨y0,y1,y2,y3,y4⟩:R5).cell j)):=Lib.hid (fun h j hj=>(hB2.cell (p:=⟨b,off+(k - 1) * 5+j,none⟩) (by dsimp only;omega)).trans (hy h j hj))
   have j0:(k:Int)<(n0:Int):=by omega
   have HOFx:Hid (∀ W,Calls Tryz.prog 68 #[.agg #[.int .i64 x0,.int .i64 x1,.int .i64 x2,.int .i64 x3,.int .i64 x4]] W (NumsPost [x0,x1,x2,x3,x4] W)):=Lib.hid (fun W=>rPairOf_any ⟨x0,x1,x2,x3,x4⟩ W)
   have HOFy:Hid (∀ W,Calls Tryz.prog 68 #[.agg #[.int .i64 y0,.int .i64 y1,.int .i64 y2,.int .i64 y3,.int .i64 y4]] W (NumsPost [y0,y1,y2,y3,y4] W)):=Lib.hid (fun W=>rPairOf_any ⟨y0,y1,y2,y3,y4⟩ W)
   have HLS:=Lib.hid (fun A B a b w h1 h2=>rless_any A B 5 5 5 5 a b w (by decide) h1 h2 rfl)
   have hC0:Below W2.heap.size W2 W2.drew∧W2.drew.cell? ⟨wr.heap.size,0,none⟩=some (.int .i64 x0)∧W2.drew.cell? ⟨wr.heap.size,1,none⟩=some (.int .i64 x1)∧W2.drew.cell? ⟨wr.heap.size,2,none⟩=some (.int .i64 x2)∧W2.drew.cell? ⟨wr.heap.size,3,none⟩=some (.int .i64 x3)∧W2.drew.cell? ⟨wr.heap.size,4,none⟩=some (.int .i64 x4):=⟨(Below.refl _ _).drew,v0,v1,v2,v3,v4⟩
   have HCK:Hid (∀ X,Below W2.heap.size W2 X→Below W2.heap.size W2 X∧X.cell? ⟨wr.heap.size,0,none⟩=some (.int .i64 x0)∧X.cell? ⟨wr.heap.size,1,none⟩=some (.int .i64 x1)∧X.cell? ⟨wr.heap.size,2,none⟩=some (.int .i64 x2)∧X.cell? ⟨wr.heap.size,3,none⟩=some (.int .i64 x3)∧X.cell? ⟨wr.heap.size,4,none⟩=some (.int .i64 x4)):=Lib.hid (fun X hb=>⟨hb,(hb.cell (p:=⟨wr.heap.size,0,none⟩) hw2).trans v0,(hb.cell (p:=⟨wr.heap.size,1,none⟩) hw2).trans v1,(hb.cell (p:=⟨wr.heap.size,2,none⟩) hw2).trans v2,(hb.cell (p:=⟨wr.heap.size,3,none⟩) hw2).trans v3,(hb.cell (p:=⟨wr.heap.size,4,none⟩) hw2).trans v4⟩)
   have HC0:=Lib.hid hC0
   clear hc hp hpd HR HR2 hB hrow hy hpy hnx hB2 hX hC0 hbl
   go_wp2_with fail
   rw[←hW2]
   clear hW2 b0 b1 b2 e0 e1 e2 e3 e4
   by_cases hs0:stF x0=false
   ·have hg:goodP (⟨x0,x1,x2,x3,x4⟩:R5)=false:=by unfold goodP;dsimp only;simp[hs0]
    have HE:Eqn ans false:=by rw[Eqn,HRR.out,goF_bad hg];rfl
    clear HRR hg hlt HOFx HOFy HLS HPY HY HNX HCK
    refine Lx.region (C:=fun X=>Below W2.heap.size W2 X∧X.cell? ⟨wr.heap.size,0,none⟩=some (.int .i64 x0)∧X.cell? ⟨wr.heap.size,1,none⟩=some (.int .i64 x1)∧X.cell? ⟨wr.heap.size,2,none⟩=some (.int .i64 x2)∧X.cell? ⟨wr.heap.size,3,none⟩=some (.int .i64 x3)∧X.cell? ⟨wr.heap.size,4,none⟩=some (.int .i64 x4)) (hs:=[46]) (by kernel_rfl) (by kernel_rfl) HC0.out ?_
    repeat' (first|((first|refine Lx.ln (fun K hK=>?_) | (first|(refine Lx.lp (v:=?_) ?_ (fun K hK=>?_);rotate_left 1;intro w' hCw;try dsimp only at hCw) | (refine Lx.lr (v:=?_) ?_ (fun K hK=>?_);rotate_left 1));go_simp;first|done | with_reducible rfl);go_simp;refine hK _ ?_;clear hK K) | (refine Lx.le (fun K hK=>?_);go_simp;(first|(go_at_call 33;refine(HST.out _ _).mono ?_;rintro e wz ⟨rfl,rfl⟩) | (go_at_call 66;refine(HSP.out _ _ _).mono ?_;rintro e wz ⟨rfl,rfl⟩));refine hK _ _ (by first|exact HC0.out) ?_;clear hK K))
    all_goals (refine Lx.lex_nil ?_)
    go_wp2_with fail
    exact HRT.out _ _ _ _ _ _ _ _ _ _ _ _ _ _ _ _ _ _ _ _ _ _ _ _ _ _ _ _ _ _ _ _ _ _ _ _ _ _ _ _ _ _ _ _ _ _ _ _ _ _ _ _ _ _ _ _ _ _ _ _ _ _ _ _ _ _ _ HE (HB2.out.drew)
   ·have hs0':stF x0=true:=by simpa using hs0
    by_cases hs1:stF x1=false
    ·have hg:goodP (⟨x0,x1,x2,x3,x4⟩:R5)=false:=by unfold goodP;dsimp only;simp[hs1]
     have HE:Eqn ans false:=by rw[Eqn,HRR.out,goF_bad hg];rfl
     clear HRR hg hlt HOFx HOFy HLS HPY HY HNX HCK
     refine Lx.region (C:=fun X=>Below W2.heap.size W2 X∧X.cell? ⟨wr.heap.size,0,none⟩=some (.int .i64 x0)∧X.cell? ⟨wr.heap.size,1,none⟩=some (.int .i64 x1)∧X.cell? ⟨wr.heap.size,2,none⟩=some (.int .i64 x2)∧X.cell? ⟨wr.heap.size,3,none⟩=some (.int .i64 x3)∧X.cell? ⟨wr.heap.size,4,none⟩=some (.int .i64 x4)) (hs:=[46]) (by kernel_rfl) (by kernel_rfl) HC0.out ?_
     repeat' (first|((first|refine Lx.ln (fun K hK=>?_) | (first|(refine Lx.lp (v:=?_) ?_ (fun K hK=>?_);rotate_left 1;intro w' hCw;try dsimp only at hCw) | (refine Lx.lr (v:=?_) ?_ (fun K hK=>?_);rotate_left 1));go_simp;first|done | with_reducible rfl);go_simp;refine hK _ ?_;clear hK K) | (refine Lx.le (fun K hK=>?_);go_simp;(first|(go_at_call 33;refine(HST.out _ _).mono ?_;rintro e wz ⟨rfl,rfl⟩) | (go_at_call 66;refine(HSP.out _ _ _).mono ?_;rintro e wz ⟨rfl,rfl⟩));refine hK _ _ (by first|exact HC0.out) ?_;clear hK K))
     all_goals (refine Lx.lex_nil ?_)
     go_wp2_with fail
     exact HRT.out _ _ _ _ _ _ _ _ _ _ _ _ _ _ _ _ _ _ _ _ _ _ _ _ _ _ _ _ _ _ _ _ _ _ _ _ _ _ _ _ _ _ _ _ _ _ _ _ _ _ _ _ _ _ _ _ _ _ _ _ _ _ _ _ _ _ _ HE (HB2.out.drew)
    ·have hs1':stF x1=true:=by simpa using hs1
     by_cases hx2:x1≤x0
     ·have hg:goodP (⟨x0,x1,x2,x3,x4⟩:R5)=false:=by unfold goodP;dsimp only;simp[show ¬(x0<x1) by omega]
      have HE:Eqn ans false:=by rw[Eqn,HRR.out,goF_bad hg];rfl
      have hx2d:decide (x1≤x0)=true:=decide_eq_true hx2
      clear HRR hg hlt HOFx HOFy HLS HPY HY HNX HCK hx2
      refine Lx.region (C:=fun X=>Below W2.heap.size W2 X∧X.cell? ⟨wr.heap.size,0,none⟩=some (.int .i64 x0)∧X.cell? ⟨wr.heap.size,1,none⟩=some (.int .i64 x1)∧X.cell? ⟨wr.heap.size,2,none⟩=some (.int .i64 x2)∧X.cell? ⟨wr.heap.size,3,none⟩=some (.int .i64 x3)∧X.cell? ⟨wr.heap.size,4,none⟩=some (.int .i64 x4)) (hs:=[46]) (by kernel_rfl) (by kernel_rfl) HC0.out ?_
      repeat' (first|((first|refine Lx.ln (fun K hK=>?_) | (first|(refine Lx.lp (v:=?_) ?_ (fun K hK=>?_);rotate_left 1;intro w' hCw;try dsimp only at hCw) | (refine Lx.lr (v:=?_) ?_ (fun K hK=>?_);rotate_left 1));go_simp;first|done | with_reducible rfl);go_simp;refine hK _ ?_;clear hK K) | (refine Lx.le (fun K hK=>?_);go_simp;(first|(go_at_call 33;refine(HST.out _ _).mono ?_;rintro e wz ⟨rfl,rfl⟩) | (go_at_call 66;refine(HSP.out _ _ _).mono ?_;rintro e wz ⟨rfl,rfl⟩));refine hK _ _ (by first|exact HC0.out) ?_;clear hK K))
      all_goals (refine Lx.lex_nil ?_)
      go_wp2_with fail
      exact HRT.out _ _ _ _ _ _ _ _ _ _ _ _ _ _ _ _ _ _ _ _ _ _ _ _ _ _ _ _ _ _ _ _ _ _ _ _ _ _ _ _ _ _ _ _ _ _ _ _ _ _ _ _ _ _ _ _ _ _ _ _ _ _ _ _ _ _ _ HE (HB2.out.drew)
     ·have hx2':decide (x1≤x0)=false:=by exact decide_eq_false hx2
      by_cases hx3:x2 < -1
      ·have hg:goodP (⟨x0,x1,x2,x3,x4⟩:R5)=false:=by unfold goodP;dsimp only;simp[show ¬(-1≤x2) by omega]
       have HE:Eqn ans false:=by rw[Eqn,HRR.out,goF_bad hg];rfl
       have hx3d:decide (x2 < -1)=true:=decide_eq_true hx3
       clear HRR hg hlt HOFx HOFy HLS HPY HY HNX HCK hx3
       refine Lx.region (C:=fun X=>Below W2.heap.size W2 X∧X.cell? ⟨wr.heap.size,0,none⟩=some (.int .i64 x0)∧X.cell? ⟨wr.heap.size,1,none⟩=some (.int .i64 x1)∧X.cell? ⟨wr.heap.size,2,none⟩=some (.int .i64 x2)∧X.cell? ⟨wr.heap.size,3,none⟩=some (.int .i64 x3)∧X.cell? ⟨wr.heap.size,4,none⟩=some (.int .i64 x4)) (hs:=[46]) (by kernel_rfl) (by kernel_rfl) HC0.out ?_
       repeat' (first|((first|refine Lx.ln (fun K hK=>?_) | (first|(refine Lx.lp (v:=?_) ?_ (fun K hK=>?_);rotate_left 1;intro w' hCw;try dsimp only at hCw) | (refine Lx.lr (v:=?_) ?_ (fun K hK=>?_);rotate_left 1));go_simp;first|done | with_reducible rfl);go_simp;refine hK _ ?_;clear hK K) | (refine Lx.le (fun K hK=>?_);go_simp;(first|(go_at_call 33;refine(HST.out _ _).mono ?_;rintro e wz ⟨rfl,rfl⟩) | (go_at_call 66;refine(HSP.out _ _ _).mono ?_;rintro e wz ⟨rfl,rfl⟩));refine hK _ _ (by first|exact HC0.out) ?_;clear hK K))
       all_goals (refine Lx.lex_nil ?_)
       go_wp2_with fail
       exact HRT.out _ _ _ _ _ _ _ _ _ _ _ _ _ _ _ _ _ _ _ _ _ _ _ _ _ _ _ _ _ _ _ _ _ _ _ _ _ _ _ _ _ _ _ _ _ _ _ _ _ _ _ _ _ _ _ _ _ _ _ _ _ _ _ _ _ _ _ HE (HB2.out.drew)
      ·have hx3':decide (x2 < -1)=false:=by exact decide_eq_false hx3
       by_cases hx4:(1:Int)<x2
       ·have hg:goodP (⟨x0,x1,x2,x3,x4⟩:R5)=false:=by unfold goodP;dsimp only;simp[show ¬(x2≤1) by omega]
        have HE:Eqn ans false:=by rw[Eqn,HRR.out,goF_bad hg];rfl
        have hx4d:decide ((1:Int)<x2)=true:=decide_eq_true hx4
        clear HRR hg hlt HOFx HOFy HLS HPY HY HNX HCK hx4
        refine Lx.region (C:=fun X=>Below W2.heap.size W2 X∧X.cell? ⟨wr.heap.size,0,none⟩=some (.int .i64 x0)∧X.cell? ⟨wr.heap.size,1,none⟩=some (.int .i64 x1)∧X.cell? ⟨wr.heap.size,2,none⟩=some (.int .i64 x2)∧X.cell? ⟨wr.heap.size,3,none⟩=some (.int .i64 x3)∧X.cell? ⟨wr.heap.size,4,none⟩=some (.int .i64 x4)) (hs:=[46]) (by kernel_rfl) (by kernel_rfl) HC0.out ?_
        repeat' (first|((first|refine Lx.ln (fun K hK=>?_) | (first|(refine Lx.lp (v:=?_) ?_ (fun K hK=>?_);rotate_left 1;intro w' hCw;try dsimp only at hCw) | (refine Lx.lr (v:=?_) ?_ (fun K hK=>?_);rotate_left 1));go_simp;first|done | with_reducible rfl);go_simp;refine hK _ ?_;clear hK K) | (refine Lx.le (fun K hK=>?_);go_simp;(first|(go_at_call 33;refine(HST.out _ _).mono ?_;rintro e wz ⟨rfl,rfl⟩) | (go_at_call 66;refine(HSP.out _ _ _).mono ?_;rintro e wz ⟨rfl,rfl⟩));refine hK _ _ (by first|exact HC0.out) ?_;clear hK K))
        all_goals (refine Lx.lex_nil ?_)
        go_wp2_with fail
        exact HRT.out _ _ _ _ _ _ _ _ _ _ _ _ _ _ _ _ _ _ _ _ _ _ _ _ _ _ _ _ _ _ _ _ _ _ _ _ _ _ _ _ _ _ _ _ _ _ _ _ _ _ _ _ _ _ _ _ _ _ _ _ _ _ _ _ _ _ _ HE (HB2.out.drew)
       ·have hx4':decide ((1:Int)<x2)=false:=by exact decide_eq_false hx4
        by_cases hs5:spF x3 x4=false
        ·have hg:goodP (⟨x0,x1,x2,x3,x4⟩:R5)=false:=by unfold goodP;dsimp only;simp[hs5]
         have HE:Eqn ans false:=by rw[Eqn,HRR.out,goF_bad hg];rfl
         clear HRR hg hlt HOFx HOFy HLS HPY HY HNX HCK
         refine Lx.region (C:=fun X=>Below W2.heap.size W2 X∧X.cell? ⟨wr.heap.size,0,none⟩=some (.int .i64 x0)∧X.cell? ⟨wr.heap.size,1,none⟩=some (.int .i64 x1)∧X.cell? ⟨wr.heap.size,2,none⟩=some (.int .i64 x2)∧X.cell? ⟨wr.heap.size,3,none⟩=some (.int .i64 x3)∧X.cell? ⟨wr.heap.size,4,none⟩=some (.int .i64 x4)) (hs:=[46]) (by kernel_rfl) (by kernel_rfl) HC0.out ?_
         repeat' (first|((first|refine Lx.ln (fun K hK=>?_) | (first|(refine Lx.lp (v:=?_) ?_ (fun K hK=>?_);rotate_left 1;intro w' hCw;try dsimp only at hCw) | (refine Lx.lr (v:=?_) ?_ (fun K hK=>?_);rotate_left 1));go_simp;first|done | with_reducible rfl);go_simp;refine hK _ ?_;clear hK K) | (refine Lx.le (fun K hK=>?_);go_simp;(first|(go_at_call 33;refine(HST.out _ _).mono ?_;rintro e wz ⟨rfl,rfl⟩) | (go_at_call 66;refine(HSP.out _ _ _).mono ?_;rintro e wz ⟨rfl,rfl⟩));refine hK _ _ (by first|exact HC0.out) ?_;clear hK K))
         all_goals (refine Lx.lex_nil ?_)
         go_wp2_with fail
         exact HRT.out _ _ _ _ _ _ _ _ _ _ _ _ _ _ _ _ _ _ _ _ _ _ _ _ _ _ _ _ _ _ _ _ _ _ _ _ _ _ _ _ _ _ _ _ _ _ _ _ _ _ _ _ _ _ _ _ _ _ _ _ _ _ _ _ _ _ _ HE (HB2.out.drew)
        ·have hs5':spF x3 x4=true:=by simpa using hs5
         have hg:goodP (⟨x0,x1,x2,x3,x4⟩:R5)=true:=by unfold goodP;dsimp only;simp[hs0',hs1',hs5',show x0<x1 by omega,show -1≤x2 by omega,show x2≤1 by omega]
         clear hs0 hs1 hx2 hx3 hx4 hs5
         by_cases h0:0<k
         ·have HP:=Eqn.mk (HPY.out h0)
          obtain⟨k',hk'⟩:∃ k',k - 1=k':=⟨_,rfl⟩
          have HYY:=HY.out h0
          rw[hk'] at HYY
          have f0:=HYY 0 (by omega)
          have f1:=HYY 1 (by omega)
          have f2:=HYY 2 (by omega)
          have f3:=HYY 3 (by omega)
          have f4:=HYY 4 (by omega)
          simp only[R5.cell,Nat.add_zero] at f0 f1 f2 f3 f4
          have k1:decide ((0:Int)<(k:Int))=true:=decide_eq_true (by omega)
          have k5:decide (0<k)=true:=decide_eq_true h0
          have r1:IntKind.i64.wrap ((k:Int) - 1)=(k':Int):=by rw[IntWalk.i64_in _ (by omega)];omega
          have r3:(k:Int) - 1=(k':Int):=by omega
          have r4:(0:Int)≤(k':Int):=by omega
          have r5:(k':Int)<(n0:Int):=by omega
          have r9:IntKind.i64.wrap (k':Int)=(k':Int):=IntWalk.i64_in _ (by omega)
          have HG:=Lib.hid hg
          clear hk' hg HYY HY HPY h0
          cases hll:lessL [y0,y1,y2,y3,y4] [x0,x1,x2,x3,x4] with
          | false=>
           have HE:Eqn ans false:=by rw[Eqn,HRR.out,HP.out,goF_not hll];rfl
           clear HRR HP hlt
           refine Lx.region (C:=fun X=>Below W2.heap.size W2 X∧X.cell? ⟨wr.heap.size,0,none⟩=some (.int .i64 x0)∧X.cell? ⟨wr.heap.size,1,none⟩=some (.int .i64 x1)∧X.cell? ⟨wr.heap.size,2,none⟩=some (.int .i64 x2)∧X.cell? ⟨wr.heap.size,3,none⟩=some (.int .i64 x3)∧X.cell? ⟨wr.heap.size,4,none⟩=some (.int .i64 x4)) (hs:=[46]) (by kernel_rfl) (by kernel_rfl) HC0.out ?_
           repeat' (first|((first|refine Lx.ln (fun K hK=>?_) | (first|(refine Lx.lp (v:=?_) ?_ (fun K hK=>?_);rotate_left 1;intro w' hCw;try dsimp only at hCw) | (refine Lx.lr (v:=?_) ?_ (fun K hK=>?_);rotate_left 1));go_simp;first|done | with_reducible rfl);go_simp;refine hK _ ?_;clear hK K) | (refine Lx.le (fun K hK=>?_);go_simp;(first|(go_at_call 33;refine(HST.out _ _).mono ?_;rintro e wz ⟨rfl,rfl⟩) | (go_at_call 66;refine(HSP.out _ _ _).mono ?_;rintro e wz ⟨rfl,rfl⟩) | (go_at_call_of 68 (Value.agg #[.int .i64 y0,.int .i64 y1,.int .i64 y2,.int .i64 y3,.int .i64 y4]);refine(HOFy.out _).mono ?_;rintro e Wy ⟨rfl,hry,hby⟩;simp only[List.length_cons,List.length_nil] at hry;have hbw:Below W2.heap.size W2 Wy:=(Below.refl _ _).drew.trans (hby.mono (Nat.le_refl _))) | (go_at_call_of 68 (Value.agg #[.int .i64 x0,.int .i64 x1,.int .i64 x2,.int .i64 x3,.int .i64 x4]);refine(HOFx.out _).mono ?_;rintro e Wx ⟨rfl,hrx,hbx⟩;simp only[List.length_cons,List.length_nil] at hrx;have hbw2:Below W2.heap.size W2 Wx:=hbw.trans (hbx.mono hbw.size);have hry2:=hry.keep hbx) | (go_at_call 67;refine(HLS.out _ _ _ _ _ hry2 hrx).mono ?_;rintro e Wl ⟨rfl,hbl⟩;have hbw3:Below W2.heap.size W2 Wl:=hbw2.trans (hbl.mono hbw2.size)));refine hK _ _ (by first|exact HCK.out _ hbw3 | exact HCK.out _ hbw2 | exact HCK.out _ hbw | exact HC0.out) ?_;clear hK K))
           all_goals (refine Lx.lex_nil ?_)
           go_wp2_with fail
           exact HRT.out _ _ _ _ _ _ _ _ _ _ _ _ _ _ _ _ _ _ _ _ _ _ _ _ _ _ _ _ _ _ _ _ _ _ _ _ _ _ _ _ _ _ _ _ _ _ _ _ _ _ _ _ _ _ _ _ _ _ _ _ _ _ _ _ _ _ _ HE (HB2.out.trans (hbw3.mono HB2.out.size))
          | true=>
           have HE:Eqn ans (goF goodP R5.nums (prevR r.pairs (k+1)) (r.pairs.drop (k+1))&&goF goodL R5.nums none r.loads&&goF goodC R4.nums none r.caps):=by rw[Eqn,HRR.out,HP.out,goF_less HG.out hll,HNX.out]
           clear HRR HP HNX
           refine Lx.region (C:=fun X=>Below W2.heap.size W2 X∧X.cell? ⟨wr.heap.size,0,none⟩=some (.int .i64 x0)∧X.cell? ⟨wr.heap.size,1,none⟩=some (.int .i64 x1)∧X.cell? ⟨wr.heap.size,2,none⟩=some (.int .i64 x2)∧X.cell? ⟨wr.heap.size,3,none⟩=some (.int .i64 x3)∧X.cell? ⟨wr.heap.size,4,none⟩=some (.int .i64 x4)) (hs:=[46]) (by kernel_rfl) (by kernel_rfl) HC0.out ?_
           repeat' (first|((first|refine Lx.ln (fun K hK=>?_) | (first|(refine Lx.lp (v:=?_) ?_ (fun K hK=>?_);rotate_left 1;intro w' hCw;try dsimp only at hCw) | (refine Lx.lr (v:=?_) ?_ (fun K hK=>?_);rotate_left 1));go_simp;first|done | with_reducible rfl);go_simp;refine hK _ ?_;clear hK K) | (refine Lx.le (fun K hK=>?_);go_simp;(first|(go_at_call 33;refine(HST.out _ _).mono ?_;rintro e wz ⟨rfl,rfl⟩) | (go_at_call 66;refine(HSP.out _ _ _).mono ?_;rintro e wz ⟨rfl,rfl⟩) | (go_at_call_of 68 (Value.agg #[.int .i64 y0,.int .i64 y1,.int .i64 y2,.int .i64 y3,.int .i64 y4]);refine(HOFy.out _).mono ?_;rintro e Wy ⟨rfl,hry,hby⟩;simp only[List.length_cons,List.length_nil] at hry;have hbw:Below W2.heap.size W2 Wy:=(Below.refl _ _).drew.trans (hby.mono (Nat.le_refl _))) | (go_at_call_of 68 (Value.agg #[.int .i64 x0,.int .i64 x1,.int .i64 x2,.int .i64 x3,.int .i64 x4]);refine(HOFx.out _).mono ?_;rintro e Wx ⟨rfl,hrx,hbx⟩;simp only[List.length_cons,List.length_nil] at hrx;have hbw2:Below W2.heap.size W2 Wx:=hbw.trans (hbx.mono hbw.size);have hry2:=hry.keep hbx) | (go_at_call 67;refine(HLS.out _ _ _ _ _ hry2 hrx).mono ?_;rintro e Wl ⟨rfl,hbl⟩;have hbw3:Below W2.heap.size W2 Wl:=hbw2.trans (hbl.mono hbw2.size)));refine hK _ _ (by first|exact HCK.out _ hbw3 | exact HCK.out _ hbw2 | exact HCK.out _ hbw | exact HC0.out) ?_;clear hK K))
           all_goals (refine Lx.lex_nil ?_)
           go_wp2_with fail
           go_roundw
           case rel=>exact⟨k+1,hlt,by go_num,HE,HB2.out.trans (hbw3.mono HB2.out.size)⟩
           case measure=>simp[intOf];omega
         ·have HP0:prevR r.pairs k=none:=by unfold prevR;rw[if_pos (by omega)]
          have HE:Eqn ans (goF goodP R5.nums (prevR r.pairs (k+1)) (r.pairs.drop (k+1))&&goF goodL R5.nums none r.loads&&goF goodC R4.nums none r.caps):=by rw[Eqn,HRR.out,HP0,goF_first hg,HNX.out]
          have k1:decide ((0:Int)<(k:Int))=false:=decide_eq_false (by omega)
          have k5:decide (0<k)=false:=decide_eq_false h0
          clear HRR HNX hg HY HPY h0 HP0
          refine Lx.region (C:=fun X=>Below W2.heap.size W2 X∧X.cell? ⟨wr.heap.size,0,none⟩=some (.int .i64 x0)∧X.cell? ⟨wr.heap.size,1,none⟩=some (.int .i64 x1)∧X.cell? ⟨wr.heap.size,2,none⟩=some (.int .i64 x2)∧X.cell? ⟨wr.heap.size,3,none⟩=some (.int .i64 x3)∧X.cell? ⟨wr.heap.size,4,none⟩=some (.int .i64 x4)) (hs:=[46]) (by kernel_rfl) (by kernel_rfl) HC0.out ?_
          repeat' (first|((first|refine Lx.ln (fun K hK=>?_) | (first|(refine Lx.lp (v:=?_) ?_ (fun K hK=>?_);rotate_left 1;intro w' hCw;try dsimp only at hCw) | (refine Lx.lr (v:=?_) ?_ (fun K hK=>?_);rotate_left 1));go_simp;first|done | with_reducible rfl);go_simp;refine hK _ ?_;clear hK K) | (refine Lx.le (fun K hK=>?_);go_simp;(first|(go_at_call 33;refine(HST.out _ _).mono ?_;rintro e wz ⟨rfl,rfl⟩) | (go_at_call 66;refine(HSP.out _ _ _).mono ?_;rintro e wz ⟨rfl,rfl⟩));refine hK _ _ (by first|exact HC0.out) ?_;clear hK K))
          all_goals (refine Lx.lex_nil ?_)
          go_wp2_with fail
          go_roundw
          case rel=>exact⟨k+1,hlt,by go_num,HE,HB2.out.drew⟩
          case measure=>simp[intOf];omega
  ·obtain rfl:k=n0:=by omega
   have HNEXT:Eqn ans (goF goodL R5.nums none r.loads&&goF goodC R4.nums none r.caps):=by rw[Eqn,HR.out,drop_end (by rw[HL.out.1];omega)];simp[goF]
   clear hB HR hlt hk
   go_wp2_with fail
   exact HQ.out _ _ _ _ _ _ _ _ _ _ _ _ _ _ _ _ _ _ _ _ _ _ _ _ _ _ _ _ _ _ _ _ _ _ _ _ _ _ _ _ _ _ _ _ _ _ _ _ _ _ _ _ _ _ _ _ _ _ _ _ _ _ _ _ _ _ _ _ HNEXT HB.out
end Go.Proofs.YtjakdikhdndlgaaGreatDoor
