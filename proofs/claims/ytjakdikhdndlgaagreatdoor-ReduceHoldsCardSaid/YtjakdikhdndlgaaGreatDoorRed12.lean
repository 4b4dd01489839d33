/- Lemmas of the proof, part 12. Conditions: none. -/
import Derived.Test.YtjakdikhdndlgaaGreatDoorRed11
set_option maxRecDepth 100000
set_option maxHeartbeats 8000000
namespace Go.Proofs.YtjakdikhdndlgaaGreatDoor
open Go.RowKit
def stGo:Option Int→List Int→Bool
 | _,[]=>true
 | prev,x::r=>if stF x=false∨notUp prev x=true then false else stGo (some x) r
theorem stGo_iff:∀(l:List Int) (p:Option Int),stGo p l=true↔(∀ x∈l,stF x=true∧(∀ q,p=some q→q<x))∧l.Pairwise (·<·):=by
 intro l
 induction l with
 | nil=>intro p;simp[stGo]
 | cons x r ih=>
  intro p
  rw[stGo]
  by_cases hb:stF x=false∨notUp p x=true
  ·rw[if_pos hb]
   refine⟨fun h=>(by cases h),fun h=>?_⟩
   obtain⟨h1,h3⟩:=h.1 x (by simp)
   rcases hb with hb | hb
   ·rw[h1] at hb;cases hb
   ·cases p with
    | none=>cases hb
    | some q=>have:=h3 q rfl;simp[notUp] at hb;omega
  ·rw[if_neg hb,ih]
   have hs:stF x=true:=by
    cases h:stF x with
    | true=>rfl
    | false=>exact absurd (.inl h) hb
   have hxp:∀ q,p=some q→q<x:=by
    rintro q rfl
    have:¬notUp (some q) x=true:=fun h=>hb (.inr h)
    simp[notUp] at this
    exact this
   constructor
   ·rintro⟨h1,h2⟩
    refine⟨fun y hy=>?_,List.pairwise_cons.2 ⟨fun y hy=>(h1 y hy).2 x rfl,h2⟩⟩
    rcases List.mem_cons.1 hy with rfl | hy
    ·exact⟨hs,hxp⟩
    ·obtain⟨g1,g3⟩:=h1 y hy
     exact⟨g1,fun q hq=>Int.lt_trans (hxp q hq) (g3 x rfl)⟩
   ·rintro⟨h1,h2⟩
    obtain⟨h3,h4⟩:=List.pairwise_cons.1 h2
    refine⟨fun y hy=>?_,h4⟩
    obtain⟨g1,_⟩:=h1 y (by simp[hy])
    exact⟨g1,fun q hq=>(by cases hq;exact h3 y hy)⟩
theorem stGo_ok (l:List Int):stGo none l=stOk l:=by
 rw[Bool.eq_iff_iff,stGo_iff,stOk,Bool.and_eq_true,inc_cmpF,List.all_eq_true]
 constructor
 ·rintro⟨h1,h2⟩
  exact⟨fun x hx=>(h1 x hx).1,h2⟩
 ·rintro⟨h1,h2⟩
  exact⟨fun x hx=>⟨h1 x hx,fun q hq=>(by cases hq)⟩,h2⟩
theorem rvst_any (A:Option Addr) (n c:Nat) (w:World) (L:List Int) (hn:n≤9223372036854775807) (hl:Row1 intV w w.heap.size A n L):
  Calls Tryz.prog 40 #[.slice A n c] w (RetPost (.bool (stOk L)) w.heap.size w):=by
 rw[←stGo_ok]
 have Hl:=Lib.hid hl
 have Hlen:=Eqn.mk hl.1
 have HST:=Lib.hid (fun x W=>rst_any x W)
 clear hl
 go_enter Tryz.func40,Tryz.ntmps40
 go_wp2_with fail
 go_loopw [3] (fun i wr=>∃ k:Nat,k≤n∧i=.int .i64 k∧Eqn (stGo none L) (stGo (prevOf id L k) (L.drop k))∧Below w.heap.size w wr) (fun i _=>n - (intOf i).toNat)
 case atStart=>exact⟨0,Nat.zero_le _,rfl,rfl,Below.refl _ _⟩
 case round=>
  obtain⟨k,hk,rfl,HR,hB⟩:=hrel
  have HB:=Lib.hid hB
  have hbs:=hB.size
  by_cases hlt:k<n
  ·obtain⟨x,hx,hxd⟩:=drop_at (xs:=L) (k:=k) (by rw[Hlen.out];exact hlt)
   obtain⟨b,off,hA,hbl,hc⟩:=(Hl.out.below hB).2 (by omega)
   subst hA
   have HR2:=HR.out
   rw[hxd,stGo] at HR2
   have hnx:prevOf id L (k+1)=some x:=by rw[prevOf_succ,hx];rfl
   have c0:=hc k x hx
   simp only[intV] at c0
   have hbw:b<wr.heap.size:=by omega
   obtain⟨q,hq,hprev⟩:∃ q:Int,(0<k→wr.cell? ⟨b,off+(k - 1),none⟩=some (.int .i64 q))∧(0<k→prevOf id L k=some q):=by
    by_cases h0:0<k
    ·obtain⟨q,hq,_⟩:=drop_at (xs:=L) (k:=k - 1) (by rw[Hlen.out];omega)
     refine⟨q,fun _=>?_,fun _=>?_⟩
     ·have:=hc (k - 1) q hq;simpa[intV] using this
     ·unfold prevOf;rw[if_neg (by omega),hq];rfl
    ·exact⟨0,fun h=>absurd h h0,fun h=>absurd h h0⟩
   have HQ:=Lib.hid hq
   have HPV:=Lib.hid hprev
   have HNX:=Eqn.mk hnx
   have HRR:=Eqn.mk HR2
   have HSx:=Lib.hid (HST.out x)
   have j0:(k:Int)<(n:Int):=by omega
   clear hc hx hxd HR HR2 hB hq hprev hnx
   cases hs:stF x with
   | false=>
    have HV:=Eqn.mk (HRR.out.trans (if_pos (.inl hs)))
    rw[hs] at HSx
    clear HRR hs
    go_wp2_with fail
    refine Lx.region (C:=fun _=>True) (hs:=[]) (by kernel_rfl) (by kernel_rfl) trivial ?_
    repeat' (first|((first|refine Lx.ln (fun K hK=>?_) | (first|(refine Lx.lp (v:=?_) ?_ (fun K hK=>?_);rotate_left 1;intro w' hCw;try dsimp only at hCw) | (refine Lx.lr (v:=?_) ?_ (fun K hK=>?_);rotate_left 1));go_simp;first|done | with_reducible rfl);go_simp;refine hK _ ?_;clear hK K) | (refine Lx.le (fun K hK=>?_);go_simp;(first|(go_at_call 33;refine(HSx.out _).mono ?_;rintro e w1 ⟨rfl,rfl⟩));refine hK _ _ (trivial) ?_;clear hK K))
    all_goals (refine Lx.lex_nil ?_)
    go_wp2_with fail
    go_ret
    exact⟨ret_bool HV.out.symm,HB.out.drew⟩
   | true=>
    rw[hs] at HSx
    by_cases h0:0<k
    ·have hp:=HPV.out h0
     have qc:=HQ.out h0
     have k1:decide ((0:Int)<(k:Int))=true:=decide_eq_true (by omega)
     have k5:decide (0<k)=true:=decide_eq_true h0
     obtain⟨k',hk'⟩:∃ k',k - 1=k':=⟨_,rfl⟩
     have e1:IntKind.i64.wrap ((k:Int) - 1)=(k':Int):=by rw[IntWalk.i64_in _ (by omega)];omega
     have e3:(k:Int) - 1=(k':Int):=by omega
     have e9:IntKind.i64.wrap (k':Int)=(k':Int):=by rw[IntWalk.i64_in _ (by omega)]
     have e4:(0:Int)≤(k':Int):=by omega
     have e5:(k':Int)<(n:Int):=by omega
     rw[hk'] at qc
     have hup0:notUp (prevOf id L k) x=decide (x≤q):=by rw[hp];rfl
     by_cases b3:x≤q
     ·have HV:=Eqn.mk (HRR.out.trans (if_pos (.inr (by rw[hup0];simpa using b3))))
      have hd3:decide (x≤q)=true:=decide_eq_true b3
      clear HRR HPV HQ hp hup0 hk' h0 b3 hs
      go_wp2_with fail
      refine Lx.region (C:=fun _=>True) (hs:=[]) (by kernel_rfl) (by kernel_rfl) trivial ?_
      repeat' (first|((first|refine Lx.ln (fun K hK=>?_) | (first|(refine Lx.lp (v:=?_) ?_ (fun K hK=>?_);rotate_left 1;intro w' hCw;try dsimp only at hCw) | (refine Lx.lr (v:=?_) ?_ (fun K hK=>?_);rotate_left 1));go_simp;first|done | with_reducible rfl);go_simp;refine hK _ ?_;clear hK K) | (refine Lx.le (fun K hK=>?_);go_simp;(first|(go_at_call 33;refine(HSx.out _).mono ?_;rintro e w1 ⟨rfl,rfl⟩));refine hK _ _ (trivial) ?_;clear hK K))
      all_goals (refine Lx.lex_nil ?_)
      go_wp2_with fail
      go_ret
      exact⟨ret_bool HV.out.symm,HB.out.drew⟩
     ·have hd3:decide (x≤q)=false:=decide_eq_false b3
      have HV:Eqn (stGo none L) (stGo (prevOf id L (k+1)) (L.drop (k+1))):=by
       rw[Eqn,HNX.out]
       exact HRR.out.trans (if_neg (by
        rintro(h | h)
        ·rw[hs] at h;cases h
        ·rw[hup0,hd3] at h;cases h))
      clear HRR HPV HQ hp hup0 hk' h0 b3 hs
      go_wp2_with fail
      refine Lx.region (C:=fun _=>True) (hs:=[]) (by kernel_rfl) (by kernel_rfl) trivial ?_
      repeat' (first|((first|refine Lx.ln (fun K hK=>?_) | (first|(refine Lx.lp (v:=?_) ?_ (fun K hK=>?_);rotate_left 1;intro w' hCw;try dsimp only at hCw) | (refine Lx.lr (v:=?_) ?_ (fun K hK=>?_);rotate_left 1));go_simp;first|done | with_reducible rfl);go_simp;refine hK _ ?_;clear hK K) | (refine Lx.le (fun K hK=>?_);go_simp;(first|(go_at_call 33;refine(HSx.out _).mono ?_;rintro e w1 ⟨rfl,rfl⟩));refine hK _ _ (trivial) ?_;clear hK K))
      all_goals (refine Lx.lex_nil ?_)
      go_wp2_with fail
      clear e1 e3 e9 e4 e5
      go_roundw
      case rel=>exact⟨k+1,by omega,by go_num,HV,HB.out.drew⟩
      case measure=>simp[intOf];omega
    ·obtain rfl:k=0:=by omega
     have HV:Eqn (stGo none L) (stGo (prevOf id L (0+1)) (L.drop (0+1))):=by
      rw[Eqn,HNX.out]
      exact HRR.out.trans (if_neg (by
       rintro(h | h)
       ·rw[hs] at h;cases h
       ·cases h))
     rw[Nat.add_zero] at c0
     clear HRR HPV HQ hs h0
     go_wp2_with fail
     refine Lx.region (C:=fun _=>True) (hs:=[]) (by kernel_rfl) (by kernel_rfl) trivial ?_
     repeat' (first|((first|refine Lx.ln (fun K hK=>?_) | (first|(refine Lx.lp (v:=?_) ?_ (fun K hK=>?_);rotate_left 1;intro w' hCw;try dsimp only at hCw) | (refine Lx.lr (v:=?_) ?_ (fun K hK=>?_);rotate_left 1));go_simp;first|done | with_reducible rfl);go_simp;refine hK _ ?_;clear hK K) | (refine Lx.le (fun K hK=>?_);go_simp;(first|(go_at_call 33;refine(HSx.out _).mono ?_;rintro e w1 ⟨rfl,rfl⟩));refine hK _ _ (trivial) ?_;clear hK K))
     all_goals (refine Lx.lex_nil ?_)
     go_wp2_with fail
     go_roundw
     case rel=>exact⟨0+1,by omega,by go_num,HV,HB.out.drew⟩
     case measure=>simp[intOf];omega
  ·have HV:Eqn (stGo none L) true:=by rw[Eqn,HR.out,drop_end (by rw[Hlen.out];omega)];rfl
   clear HR
   go_wp2_with fail
   go_ret
   exact⟨ret_bool HV.out.symm,HB.out⟩
def rrestF (ds:List Dom) (r:Rul) (L:List Int):(List (Int×List Int)×Rul)×Int:=
 if validR ds r=true∧stOk L=true then (if L.all (inD ds)=true then (((ds.filter fun d=>hasL L d.st).map Dom.say,keepR L r),0) else (([],⟨[],[],[]⟩),9)) else (([],⟨[],[],[]⟩),2)
theorem validR_len {ds:List Dom} {r:Rul} (h:validR ds r=true):ds.length≤512∧r.pairs.length≤4096∧r.loads.length≤1024∧r.caps.length≤1024:=by
 unfold validR at h
 simp only[Bool.and_eq_true,decide_eq_true_eq] at h
 obtain⟨⟨h1,h2⟩,_⟩:=h
 rw[rules_eq] at h2
 exact⟨h1,rules_len h2⟩
theorem rrestrict_any (s:PrbS) (A:Option Addr) (n c:Nat) (w:World) (ds:List Dom) (r:Rul) (L:List Int) (hn:s.nd≤9223372036854775807) (hL:n≤9223372036854775807) (h:PrbAt w w.heap.size s ds r) (hl:Row1 intV w w.heap.size A n L):
  Calls Tryz.prog 14 #[s.val,.slice A n c] w (PrbPost (rrestF ds r L) w):=by
 obtain⟨Ad,nd,cd,⟨A0,n0,c0,A1,n1,c1,A2,n2,c2⟩⟩:=s
 obtain⟨W0,hW0⟩:∃ W0,W0=(w.alloc (.cells #[.slice Ad nd cd,.slice A0 n0 c0,.slice A1 n1 c1,.slice A2 n2 c2] 29)).alloc (.cells #[.slice none 0 0,.slice none 0 0,.slice none 0 0,.slice none 0 0] 29):=⟨_,rfl⟩
 have hB0:Below w.heap.size w W0:=by rw[hW0];exact((Below.refl _ w).alloc (Nat.le_refl _) _).alloc (by simp) _
 have hs0:W0.heap.size=w.heap.size+2:=by rw[hW0];simp
 have HC0:Hid (W0.cell? ⟨w.heap.size,0,none⟩=some (.slice Ad nd cd)∧W0.cell? ⟨w.heap.size,1,none⟩=some (.slice A0 n0 c0)∧W0.cell? ⟨w.heap.size,2,none⟩=some (.slice A1 n1 c1)∧W0.cell? ⟨w.heap.size,3,none⟩=some (.slice A2 n2 c2)):=Lib.hid (by rw[hW0];refine⟨?_,?_,?_,?_⟩<;>simp[go_sem])
 have HC1:Hid (∀ W,Below W0.heap.size W0 W→W.cell? ⟨w.heap.size,0,none⟩=some (.slice Ad nd cd)∧W.cell? ⟨w.heap.size,1,none⟩=some (.slice A0 n0 c0)∧W.cell? ⟨w.heap.size,2,none⟩=some (.slice A1 n1 c1)∧W.cell? ⟨w.heap.size,3,none⟩=some (.slice A2 n2 c2)∧w.heap.size<W.heap.size):=Lib.hid (fun W hb=>by
  obtain⟨q0,q1,q2,q3⟩:=HC0.out
  have hg:∀ {o:Nat} {u:Value},W0.cell? ⟨w.heap.size,o,none⟩=some u→W.cell? ⟨w.heap.size,o,none⟩=some u:=fun {o u} hu=>(hb.cell (p:=⟨w.heap.size,o,none⟩) (by dsimp only;omega)).trans hu
  exact⟨hg q0,hg q1,hg q2,hg q3,by have:=hb.size;omega⟩)
 have HX6:Hid (Blk W0 (w.heap.size+1) 29 [.slice none 0 0,.slice none 0 0,.slice none 0 0,.slice none 0 0]):=Lib.hid (by rw[hW0];have:=blk_new (w.alloc (.cells #[.slice Ad nd cd,.slice A0 n0 c0,.slice A1 n1 c1,.slice A2 n2 c2] 29)) [.slice none 0 0,.slice none 0 0,.slice none 0 0,.slice none 0 0] 29;simpa using this)
 have HLow:Hid (∀ W,Below W0.heap.size W0 W→PrbAt W w.heap.size ⟨Ad,nd,cd,⟨A0,n0,c0,A1,n1,c1,A2,n2,c2⟩⟩ ds r∧Row1 intV W w.heap.size A n L):=Lib.hid (fun W hb=>by
  have hw:=hB0.trans (hb.mono (by omega))
  exact⟨⟨h.1.below hw,h.2.below hw⟩,hl.below hw⟩)
 have HPV:=Lib.hid (rvalid_any ⟨Ad,nd,cd,⟨A0,n0,c0,A1,n1,c1,A2,n2,c2⟩⟩ W0 ds r hn ⟨h.1.keep hB0,h.2.keep hB0⟩)
 have HVS:Hid (∀ W,Below W0.heap.size W0 W→Calls Tryz.prog 40 #[.slice A n c] W (RetPost (.bool (stOk L)) W.heap.size W)):=Lib.hid (fun W hb=>rvst_any A n c W L hL (((HLow.out W hb).2).up (by have:=hb.size;omega)))
 have HFI:Hid (∀(x:Int) W,Below W0.heap.size W0 W→Calls Tryz.prog 21 #[.agg #[.slice Ad nd cd,.slice A0 n0 c0,.slice A1 n1 c1,.slice A2 n2 c2],.int .i64 x] W (RetPost (.int .i64 (findD x 0 ds)) W.heap.size W)):=Lib.hid (fun x W hb=>rfind_any ⟨Ad,nd,cd,⟨A0,n0,c0,A1,n1,c1,A2,n2,c2⟩⟩ x W ds hn (((HLow.out W hb).1.1).up (by have:=hb.size;omega)))
 have HHA:Hid (∀(i:Int) W,Below W0.heap.size W0 W→Calls Tryz.prog 15 #[.slice A n c,.int .i64 i] W fun e w'=>e=.returned (.bool (hasL L i))∧W=w'):=Lib.hid (fun i W hb=>rhas_any A n c i W L hL (((HLow.out W hb).2).up (by have:=hb.size;omega)))
 have HB0:=Lib.hid hB0
 have HBad:Hid (∀(er:Int) W,Below W0.heap.size W0 W→PrbPost (([],⟨[],[],[]⟩),er) w (.returned (.tuple #[.agg #[.slice none 0 0,.slice none 0 0,.slice none 0 0,.slice none 0 0],.int .i64 er])) (((((W.setCell ⟨w.heap.size+1,0,none⟩ (.slice none 0 0)).setCell ⟨w.heap.size+1,1,none⟩ (.slice none 0 0)).setCell ⟨w.heap.size+1,2,none⟩ (.slice none 0 0)).setCell ⟨w.heap.size+1,3,none⟩ (.slice none 0 0)))∧Blk W (w.heap.size+1) 29 [.slice none 0 0,.slice none 0 0,.slice none 0 0,.slice none 0 0]∧Blk ((((W.setCell ⟨w.heap.size+1,0,none⟩ (.slice none 0 0)).setCell ⟨w.heap.size+1,1,none⟩ (.slice none 0 0)).setCell ⟨w.heap.size+1,2,none⟩ (.slice none 0 0)).setCell ⟨w.heap.size+1,3,none⟩ (.slice none 0 0)) (w.heap.size+1) 29 [.slice none 0 0,.slice none 0 0,.slice none 0 0,.slice none 0 0]):=Lib.hid (fun er W hb=>by
  have hb6:=HX6.out.keep hb
  refine⟨⟨⟨none,0,0,⟨none,0,0,none,0,0,none,0,0⟩⟩,[],rfl,prb_nil _ _,rfl,?_⟩,hb6,(((hb6.set_ 0 _).set_ 1 _).set_ 2 _).set_ 3 _⟩
  have h0:=HB0.out.trans (hb.mono (by omega))
  exact(((h0.setCell (p:=⟨w.heap.size+1,0,none⟩) (by dsimp only;omega) _).setCell (p:=⟨w.heap.size+1,1,none⟩) (by dsimp only;omega) _).setCell (p:=⟨w.heap.size+1,2,none⟩) (by dsimp only;omega) _).setCell (p:=⟨w.heap.size+1,3,none⟩) (by dsimp only;omega) _)
 have HlenL:=Eqn.mk hl.1
 have HRF:Hid (∀ b1 b2 b3,validR ds r=b1→stOk L=b2→L.all (inD ds)=b3→rrestF ds r L=if b1=true∧b2=true then (if b3=true then (((ds.filter fun d=>hasL L d.st).map Dom.say,keepR L r),0) else (([],⟨[],[],[]⟩),9)) else (([],⟨[],[],[]⟩),2)):=Lib.hid (fun b1 b2 b3 h1 h2 h3=>by unfold rrestF;rw[h1,h2,h3])
 unfold PrbS.val
 dsimp only at hn ⊢
 clear h hl hB0
 obtain⟨q0,q1,q2,q3,q4⟩:=HC1.out W0 (Below.refl _ _)
 have hvl:Hid (validR ds r=true→ds.length≤512∧r.pairs.length≤4096∧r.loads.length≤1024∧r.caps.length≤1024):=Lib.hid validR_len
 generalize rrestF ds r L=RF at *
 cases hv:validR ds r with
 | false=>
  rw[HRF.out false _ _ hv rfl rfl,if_neg (by simp)]
  rw[hv] at HPV
  clear HRF
  go_enter Tryz.func14,Tryz.ntmps14
  go_upto_region 1 with fail
  rw[←hW0]
  clear hW0
  go_wp2_with fail
  refine HPV.out.mono ?_
  rintro e Wa ⟨rfl,hba⟩
  have HBa:=Lib.hid hba
  clear hba q0 q1 q2 q3 q4
  obtain⟨hpost,hb6,hb7⟩:=HBad.out 2 _ HBa.out
  have f0:=hb6.cell (i:=0) rfl
  have f1:=hb6.cell (i:=1) rfl
  have f2:=hb6.cell (i:=2) rfl
  have f3:=hb6.cell (i:=3) rfl
  have f4:=hb6.lt
  have f5:∀ o,(Wa).frozen? ⟨w.heap.size+1,o,none⟩=false:=hb6.frozen
  have HF:=Lib.hid (And.intro hpost hb7)
  clear hpost hb6 hb7
  go_wp2_with fail
  clear f0 f1 f2 f3 f4 f5
  have k0:=HF.out.2.cell (i:=0) rfl
  have k1:=HF.out.2.cell (i:=1) rfl
  have k2:=HF.out.2.cell (i:=2) rfl
  have k3:=HF.out.2.cell (i:=3) rfl
  refine bodyPost_ret (v:=.tuple #[.agg #[.slice none 0 0,.slice none 0 0,.slice none 0 0,.slice none 0 0],.int .i64 2]) (by simp[results,Tryz.results14,go_sem,k0,k1,k2,k3]) rfl HF.out.1
 | true=>
  rw[hv] at HPV
  obtain⟨hdl,hq0,hq1,hq2⟩:=hvl.out hv
  clear hvl
  cases hst:stOk L with
  | false=>
   rw[HRF.out true false _ hv hst rfl,if_neg (by simp)]
   rw[hst] at HVS
   clear HRF
   go_enter Tryz.func14,Tryz.ntmps14
   go_upto_region 1 with fail
   rw[←hW0]
   clear hW0
   go_wp2_with fail
   refine HPV.out.mono ?_
   rintro e Wa ⟨rfl,hba⟩
   have HBa:=Lib.hid hba
   clear hba q0 q1 q2 q3 q4
   go_wp2_with fail
   refine(HVS.out _ HBa.out).mono ?_
   rintro e Wb ⟨rfl,hbb⟩
   have HBb:=Lib.hid (HBa.out.trans (hbb.mono HBa.out.size))
   clear hbb
   obtain⟨hpost,hb6,hb7⟩:=HBad.out 2 _ HBb.out
   have f0:=hb6.cell (i:=0) rfl
   have f1:=hb6.cell (i:=1) rfl
   have f2:=hb6.cell (i:=2) rfl
   have f3:=hb6.cell (i:=3) rfl
   have f4:=hb6.lt
   have f5:∀ o,(Wb).frozen? ⟨w.heap.size+1,o,none⟩=false:=hb6.frozen
   have HF:=Lib.hid (And.intro hpost hb7)
   clear hpost hb6 hb7
   go_wp2_with fail
   clear f0 f1 f2 f3 f4 f5
   have k0:=HF.out.2.cell (i:=0) rfl
   have k1:=HF.out.2.cell (i:=1) rfl
   have k2:=HF.out.2.cell (i:=2) rfl
   have k3:=HF.out.2.cell (i:=3) rfl
   refine bodyPost_ret (v:=.tuple #[.agg #[.slice none 0 0,.slice none 0 0,.slice none 0 0,.slice none 0 0],.int .i64 2]) (by simp[results,Tryz.results14,go_sem,k0,k1,k2,k3]) rfl HF.out.1
  | true=>
   rw[hst] at HVS
   have HRG:Hid ((L.all (inD ds)=false→RF=(([],⟨[],[],[]⟩),9))∧(L.all (inD ds)=true→RF=(((ds.filter fun d=>hasL L d.st).map Dom.say,keepR L r),0))):=Lib.hid ⟨fun h=>by rw[HRF.out true true false hv hst h];rfl,fun h=>by rw[HRF.out true true true hv hst h];rfl⟩
   clear HRF
   go_enter Tryz.func14,Tryz.ntmps14
   go_upto_region 1 with fail
   rw[←hW0]
   clear hW0
   go_wp2_with fail
   refine HPV.out.mono ?_
   rintro e Wa ⟨rfl,hba⟩
   have HBa:=Lib.hid hba
   clear hba q0 q1 q2 q3 q4
   go_wp2_with fail
   refine(HVS.out _ HBa.out).mono ?_
   rintro e Wb ⟨rfl,hbb⟩
   have HBb:=Lib.hid (HBa.out.trans (hbb.mono HBa.out.size))
   clear hbb HPV HVS
   go_wp2_with fail
   go_loopw [6] (fun i wr=>∃ k:Nat,k≤n∧i=.int .i64 k∧Eqn (L.all (inD ds)) ((L.drop k).all (inD ds))∧Below W0.heap.size W0 wr) (fun i _=>n - (intOf i).toNat)
   case atStart=>exact⟨0,Nat.zero_le _,rfl,rfl,HBb.out⟩
   case round=>
    obtain⟨k,hk,rfl,HR,hB⟩:=hrel
    have HB:=Lib.hid hB
    have hbs:=hB.size
    by_cases hlt:k<n
    ·obtain⟨x,hx,hxd⟩:=drop_at (xs:=L) (k:=k) (by rw[HlenL.out];exact hlt)
     obtain⟨b,off,hA,hbl,hc⟩:=(HLow.out _ hB).2.2 (by omega)
     subst hA
     have HR2:=HR.out
     rw[hxd,List.all_cons] at HR2
     have hid':inD ds x=decide (0≤findD x 0 ds):=rfl
     rw[hid'] at HR2
     have HFx:=Lib.hid (HFI.out x)
     have c0:=hc k x hx
     simp only[intV] at c0
     obtain⟨q0,q1,q2,q3,q4⟩:=HC1.out _ hB
     have hbw:b<wr.heap.size:=by omega
     have j0:(k:Int)<(n:Int):=by omega
     generalize findD x 0 ds=fx at *
     have HRR:=Eqn.mk HR2
     have HBd:=Lib.hid hB.drew
     clear hc hx hxd HR HR2 hB hid'
     by_cases hfx:fx<0
     ·have HV:Eqn (L.all (inD ds)) false:=by rw[Eqn,HRR.out,decide_eq_false (by omega)];rfl
      have hd1:decide (fx<0)=true:=decide_eq_true hfx
      rw[HRG.out.1 HV.out]
      clear HRR
      go_wp2_with fail
      refine Lx.region (C:=fun _=>True) (hs:=[]) (by kernel_rfl) (by kernel_rfl) trivial ?_
      repeat' (first|((first|refine Lx.ln (fun K hK=>?_) | (first|(refine Lx.lp (v:=?_) ?_ (fun K hK=>?_);rotate_left 1;intro w' hCw;try dsimp only at hCw) | (refine Lx.lr (v:=?_) ?_ (fun K hK=>?_);rotate_left 1));go_simp;first|done | with_reducible rfl);go_simp;refine hK _ ?_;clear hK K) | (refine Lx.le (fun K hK=>?_);go_simp;(first|(go_at_call 21;refine(HFx.out _ HBd.out).mono ?_;rintro e Wc ⟨rfl,hbc⟩;have HBc:=Lib.hid (HBd.out.trans (hbc.mono HBd.out.size))));refine hK _ _ (trivial) ?_;clear hK K))
      all_goals (refine Lx.lex_nil ?_)
      clear q0 q1 q2 q3 q4 c0
      obtain⟨hpost,hb6,hb7⟩:=HBad.out 9 _ HBc.out
      have f0:=hb6.cell (i:=0) rfl
      have f1:=hb6.cell (i:=1) rfl
      have f2:=hb6.cell (i:=2) rfl
      have f3:=hb6.cell (i:=3) rfl
      have f4:=hb6.lt
      have f5:∀ o,(Wc).frozen? ⟨w.heap.size+1,o,none⟩=false:=hb6.frozen
      have HF:=Lib.hid (And.intro hpost hb7)
      clear hpost hb6 hb7
      go_wp2_with fail
      clear f0 f1 f2 f3 f4 f5
      have k0:=HF.out.2.cell (i:=0) rfl
      have k1:=HF.out.2.cell (i:=1) rfl
      have k2:=HF.out.2.cell (i:=2) rfl
      have k3:=HF.out.2.cell (i:=3) rfl
      refine bodyPost_ret (v:=.tuple #[.agg #[.slice none 0 0,.slice none 0 0,.slice none 0 0,.slice none 0 0],.int .i64 9]) (by simp[results,Tryz.results14,go_sem,k0,k1,k2,k3]) rfl HF.out.1
     ·have HV:Eqn (L.all (inD ds)) ((L.drop (k+1)).all (inD ds)):=by rw[Eqn,HRR.out,decide_eq_true (by omega)];rfl
      have hd1:decide (fx<0)=false:=decide_eq_false hfx
      clear HRR
      go_wp2_with fail
      refine Lx.region (C:=fun _=>True) (hs:=[]) (by kernel_rfl) (by kernel_rfl) trivial ?_
      repeat' (first|((first|refine Lx.ln (fun K hK=>?_) | (first|(refine Lx.lp (v:=?_) ?_ (fun K hK=>?_);rotate_left 1;intro w' hCw;try dsimp only at hCw) | (refine Lx.lr (v:=?_) ?_ (fun K hK=>?_);rotate_left 1));go_simp;first|done | with_reducible rfl);go_simp;refine hK _ ?_;clear hK K) | (refine Lx.le (fun K hK=>?_);go_simp;(first|(go_at_call 21;refine(HFx.out _ HBd.out).mono ?_;rintro e Wc ⟨rfl,hbc⟩;have HBc:=Lib.hid (HBd.out.trans (hbc.mono HBd.out.size))));refine hK _ _ (trivial) ?_;clear hK K))
      all_goals (refine Lx.lex_nil ?_)
      clear q0 q1 q2 q3 q4 c0
      go_wp2_with fail
      go_roundw
      case rel=>exact⟨k+1,by omega,by go_num,HV,HBc.out⟩
      case measure=>simp[intOf];omega
    ·have HV:Eqn (L.all (inD ds)) true:=by rw[Eqn,HR.out,drop_end (by rw[HlenL.out];omega)];rfl
     have HRT:=Eqn.mk (HRG.out.2 HV.out)
     obtain⟨W1,rfl⟩:∃ wo:World,wo=wr:=⟨_,rfl⟩
     obtain⟨V0,hV0⟩:∃ V0,V0=W1.alloc (.cells #[.slice none 0 0,.slice none 0 0,.slice none 0 0,.slice none 0 0] 29):=⟨_,rfl⟩
     have HP0:Hid (QSt w.heap.size W1 W1.heap.size ⟨nilS,nilS,nilS,nilS⟩ ⟨[],[],[],[]⟩ V0):=Lib.hid (by
      rw[hV0]
      exact⟨(Below.refl _ W1).alloc (Nat.le_refl _) _,Nat.le_refl _,blk_new W1 [nilS,nilS,nilS,nilS] 29,World.ownsRow_nil _ _ _ _,(fun d h=>by cases h),World.ownsRow_nil _ _ _ _,World.ownsRow_nil _ _ _ _,World.ownsRow_nil _ _ _ _⟩)
     have HBW:Hid (∀ W,Below W1.heap.size W1 W→Below W0.heap.size W0 W):=Lib.hid (fun W h=>HB.out.trans (h.mono hbs))
     have hw1:w.heap.size+2≤W1.heap.size:=by omega
     have HND:Eqn ds.length nd:=(HLow.out _ hB).1.1.1.1
     have l9:nd≤512:=by have:=HND.out;omega
     clear HR hB HFI HRG
     go_upto_region 10 with fail
     rw[←hV0]
     clear hV0
     go_loopw [8] (fun i wr=>∃(k:Nat) (dv:Value) (xd:List Dom),k≤nd∧i=.int .i64 k∧QSt w.heap.size W1 W1.heap.size ⟨dv,nilS,nilS,nilS⟩ ⟨xd,[],[],[]⟩ wr∧Eqn (xd.map Dom.say) (((ds.take k).filter fun d=>hasL L d.st).map Dom.say)∧xd.length≤k) (fun i _=>nd - (intOf i).toNat)
     case atStart=>exact⟨0,nilS,[],Nat.zero_le _,rfl,HP0.out,rfl,Nat.le_refl _⟩
     case round=>
      clear HP0
      obtain⟨k,dv,xd,hk,rfl,hP,HE,hxl⟩:=hrel
      obtain⟨wo,rfl⟩:∃ wo:World,wo=wr:=⟨_,rfl⟩
      have HXL:=Lib.hid hxl
      clear hxl
      have hbs1:=hP.1.size
      have hwo:W1.heap.size<wo.heap.size:=hP.2.2.1.lt
      obtain⟨q0,_,_,_,q4⟩:=HC1.out _ (HBW.out _ hP.1)
      by_cases hlt2:k<nd
      ·obtain⟨p,hp,_⟩:=drop_at (xs:=ds) (k:=k) (by rw[HND.out];exact hlt2)
       obtain⟨b,off,hA,hbl,hc⟩:=(HLow.out _ (HBW.out _ hP.1)).1.1.1.2 (by dsimp only;omega)
       dsimp only at hA
       subst hA
       have hrow:=(HLow.out W1 HB.out).1.1.2 p (List.mem_of_getElem? hp)
       have c0':=hc k p hp 0 (by omega)
       have c1':=hc k p hp 1 (by omega)
       simp only[Dom.cell,Nat.add_zero] at c0' c1'
       have HTD:=Eqn.mk (filter_take (fun d:Dom=>hasL L d.st) ds k p hp)
       have HHP:=Lib.hid (HHA.out p.st)
       obtain⟨st,adr,len,cap,chs⟩:=p
       dsimp only at *
       have HCK:=Lib.hid hrow
       have HHH:=Lib.hid (HBW.out _ hP.1)
       have HPk:=Lib.hid hP
       have j0:(k:Int)<(nd:Int):=by omega
       have hbw:b<wo.heap.size:=by omega
       obtain⟨dA,dcap,hdv,_⟩:=own_formS (by decide) hP.2.2.2.1
       dsimp only at hdv
       subst hdv
       have g0:wo.cell? ⟨W1.heap.size,0,none⟩=some (.slice dA xd.length dcap):=hP.2.2.1.cell rfl
       have g1:=hP.2.2.1.lt
       clear hc hp hrow hP
       go_wp2_with fail
       refine(HHP.out _ HHH.out).mono ?_
       rintro e wz ⟨rfl,rfl⟩
       cases hsa:hasL L st with
       | false=>
        go_wp2_with fail
        go_roundw
        case rel=>exact⟨k+1,_,xd,by omega,by go_num,HPk.out,by rw[Eqn,HTD.out,HE.out];simp[hsa],by have:=HXL.out;omega⟩
        case measure=>simp[intOf];omega
       | true=>
        obtain⟨i0,hi,hz0,hz1,hz2⟩:=info_parts dom_info
        have HPA:Hid (QSt w.heap.size W1 W1.heap.size ⟨.slice dA xd.length dcap,nilS,nilS,nilS⟩ ⟨xd,[],[],[]⟩ (wo.alloc (.cells #[.int .i64 st,.slice adr len cap] 64)).drew):=Lib.hid ((HPk.out.alloc (.cells #[.int .i64 st,.slice adr len cap] 64)).call (Below.refl _ _).drew)
        go_wp2_with fail
        refine Lx.regionT (C:=fun X=>X.cell? ⟨W1.heap.size,0,none⟩=some (.slice dA xd.length dcap)) (C':=fun _=>True) (hs:=[1]) 10 (List.take 10 _) (List.drop 10 _) (List.take_append_drop 10 _).symm rfl (by kernel_rfl) (by kernel_rfl) (by kernel_rfl) g0 ?_
        simp only[List.take_succ_cons,List.take_zero,List.drop_succ_cons,List.drop_zero]
        repeat' (first|((first|refine Lx.ln (fun K hK=>?_) | (first|(refine Lx.lp (v:=?_) ?_ (fun K hK=>?_);rotate_left 1;intro w' hCw;try dsimp only at hCw) | (refine Lx.lr (v:=?_) ?_ (fun K hK=>?_);rotate_left 1));go_simp;first|done | with_reducible rfl);go_simp;refine hK _ ?_;clear hK K) | (refine Lx.le (fun K hK=>?_);go_simp;(first|fail | skip);refine hK _ _ (HPA.out.2.2.1.cell rfl) ?_;clear hK K))
        refine Lx.lex_append rfl rfl _ _ 22 rfl W1.heap.size 64 i0 (.agg #[.int .i64 0,.slice none 0 0]) 2 32 Tryz.underlying22 hi hz0 hz1 hz2 rfl (by decide) _ _ _ rfl (by exact HPA.out.2.2.2.1) ⟨wo.heap.size,0,none⟩ 1 1 [.int .i64 st,.slice adr len cap] rfl rfl (by exact cells_newN wo _ _) (by simp[Value.oneCell']) (by have:=HXL.out;dsimp only;unfold maxLen;omega) (by have:=HXL.out;dsimp only;omega) (by simp;omega) ?_
        intro v' w3 hown' hgrow hor
        replace hgrow:World.grownBy _ w3 (Value.slice dA xd.length dcap).ownBlock:=hgrow
        replace hown':w3.ownsRow W1.heap.size 64 2 v' (xd.length+1) (flat 2 Dom.cell xd++(List.range 2).map (Dom.cell ⟨st,adr,len,cap,chs⟩)):=hown'
        have H3:=Lib.hid (And.intro hown' hgrow)
        rw[←flat_snoc] at hown'
        obtain⟨vA,vc,rfl,_⟩:=own_formS (by decide) hown'
        have HPB:=Lib.hid (HPA.out.addD (y:=⟨st,adr,len,cap,chs⟩) hgrow H3.out.1 (.inr HCK.out))
        have hb8:=blk_kept HPA.out.2.2.1 hgrow (blk_not_row HPA.out.2.2.1 (by decide) HPA.out.2.2.2.1)
        have q0':w3.cell? ⟨W1.heap.size,0,none⟩=some (.slice dA xd.length dcap):=hb8.cell rfl
        have q1':=hb8.frozen 0
        have q2':=hb8.lt
        refine⟨q0',?_⟩
        clear hown' hgrow hor hb8 g0 g1 c0' c1' q0
        repeat' (first|((first|refine Lx.ln (fun K hK=>?_) | (first|(refine Lx.lp (v:=?_) ?_ (fun K hK=>?_);rotate_left 1;intro w' hCw;try dsimp only at hCw) | (refine Lx.lr (v:=?_) ?_ (fun K hK=>?_);rotate_left 1));go_simp;first|done | with_reducible rfl);go_simp;refine hK _ ?_;clear hK K) | (refine Lx.le (fun K hK=>?_);go_simp;(first|fail);refine hK _ _ (q0') ?_;clear hK K))
        all_goals (refine Lx.lex_nil ?_)
        refine⟨trivial,?_⟩
        repeat' (first|((first|refine Lx.ln (fun K hK=>?_) | (first|(refine Lx.lp (v:=?_) ?_ (fun K hK=>?_);rotate_left 1;intro w' hCw;try dsimp only at hCw) | (refine Lx.lr (v:=?_) ?_ (fun K hK=>?_);rotate_left 1));go_simp;first|done | with_reducible rfl);go_simp;refine hK _ ?_;clear hK K) | (refine Lx.le (fun K hK=>?_);go_simp;(first|skip);refine hK _ _ (trivial) ?_;clear hK K))
        all_goals (refine Lx.lex_nil ?_)
        clear q0' q1'
        go_wp2_with fail
        go_roundw
        case rel=>exact⟨k+1,_,xd++[⟨st,adr,len,cap,chs⟩],by omega,by go_num,HPB.out,by rw[Eqn,HTD.out,List.map_append,HE.out];simp[hsa,Dom.say],by rw[List.length_append];have:=HXL.out;simp;omega⟩
        case measure=>simp[intOf];omega
      ·obtain rfl:k=nd:=by omega
       have hTk:ds.take k=ds:=List.take_of_length_le (by rw[HND.out];omega)
       rw[hTk] at HE
       obtain⟨r0,r1,r2⟩:=r
       obtain⟨R0,R1,R2,_⟩:=(HLow.out W1 HB.out).1.2
       dsimp only at R0 R1 R2 hq0 hq1 hq2
       have hz0:=R0.1
       have hz1:=R1.1
       have hz2:=R2.1
       have HR0:=Lib.hid R0
       have HRr1:=Lib.hid R1
       have HRr2:=Lib.hid R2
       have l0:n0≤4096:=by omega
       have l1:n1≤1024:=by omega
       have l2:n2≤1024:=by omega
       have Hz0:=Eqn.mk hz0
       have Hz1:=Eqn.mk hz1
       have Hz2:=Eqn.mk hz2
       have HPk:=Lib.hid hP
       clear R0 R1 R2 hz0 hz1 hz2 hq0 hq1 hq2 hP hTk
       go_wp2_with fail
       clear q0 q4
       go_loopw [9] (fun i wi=>∃(m:Nat) (pv:Value) (ps:List R5),m≤n0∧i=.int .i64 m∧QSt w.heap.size W1 W1.heap.size ⟨dv,pv,nilS,nilS⟩ ⟨xd,ps,[],[]⟩ wi∧Eqn ps ((r0.take m).filter (fun c=>hasL L c.a&&hasL L c.b))∧ps.length≤m) (fun i _=>n0 - (intOf i).toNat)
       case atStart=>exact⟨0,nilS,[],Nat.zero_le _,rfl,HPk.out,by rw[List.take_zero];rfl,Nat.le_refl _⟩
       case round=>
        obtain⟨m,pv,ps,hm,rfl,hP,HE0,hpl⟩:=hrel
        obtain⟨wo,rfl⟩:∃ wo:World,wo=wr:=⟨_,rfl⟩
        have hbs1:=hP.1.size
        obtain⟨_,q0,_,_,q4⟩:=HC1.out _ (HBW.out _ hP.1)
        by_cases hlt:m<n0
        ·obtain⟨y,hy,_⟩:=drop_at (xs:=r0) (k:=m) (by rw[Hz0.out];exact hlt)
         obtain⟨b,off,hA,hbl,hc⟩:=(HR0.out.below (hP.1.mono (by omega))).2 (by omega)
         have HFT:=Eqn.mk (filter_take (fun c=>hasL L c.a&&hasL L c.b) r0 m y hy)
         rw[←HE0.out] at HFT
         obtain⟨y0,y1,y2,y3,y4⟩:=y
         have e0:=hc m _ hy 0 (by omega)
         have e1:=hc m _ hy 1 (by omega)
         have e2:=hc m _ hy 2 (by omega)
         have e3:=hc m _ hy 3 (by omega)
         have e4:=hc m _ hy 4 (by omega)
         simp only[R5.cell,Nat.add_zero] at e0 e1 e2 e3 e4
         dsimp only at HFT
         have hbw:b<wo.heap.size:=by omega
         have m0:(m:Int)<(n0:Int):=by omega
         have HV2:=Lib.hid (And.intro hP (HBW.out _ hP.1))
         obtain⟨pA,pcap,hpv,_⟩:=own_formS (by decide) hP.2.2.2.2.2.1
         dsimp only at hpv
         subst hpv
         have g0:wo.cell? ⟨W1.heap.size,1,none⟩=some (.slice pA ps.length pcap):=hP.2.2.1.cell rfl
         have g1:=hP.2.2.1.lt
         subst hA
         clear hc hy hP
         go_wp2_with fail
         refine(HHA.out _ _ HV2.out.2).mono ?_
         rintro e wz ⟨rfl,rfl⟩
         cases hsa:hasL L y0 with
         | false=>
          go_wp2_with fail
          go_roundw
          case rel=>exact⟨m+1,_,ps,by omega,by go_num,HV2.out.1,by rw[Eqn,HFT.out];simp[hsa],by omega⟩
          case measure=>simp[intOf];omega
         | true=>
          go_wp2_with fail
          refine(HHA.out _ _ HV2.out.2).mono ?_
          rintro e wz ⟨rfl,rfl⟩
          cases hsb:hasL L y1 with
          | false=>
           go_wp2_with fail
           go_roundw
           case rel=>exact⟨m+1,_,ps,by omega,by go_num,HV2.out.1,by rw[Eqn,HFT.out];simp[hsa,hsb],by omega⟩
           case measure=>simp[intOf];omega
          | true=>
           obtain⟨i0,hi,hz0,hz1,hz2⟩:=info_parts pair_info
           have HPA:Hid (QSt w.heap.size W1 W1.heap.size ⟨dv,.slice pA ps.length pcap,nilS,nilS⟩ ⟨xd,ps,[],[]⟩ (wo.alloc (.cells #[.int .i64 y0,.int .i64 y1,.int .i64 y2,.int .i64 y3,.int .i64 y4] 67)).drew):=Lib.hid ((HV2.out.1.alloc (.cells #[.int .i64 y0,.int .i64 y1,.int .i64 y2,.int .i64 y3,.int .i64 y4] 67)).call (Below.refl _ _).drew)
           go_wp2_with fail
           refine Lx.regionT (C:=fun X=>X.cell? ⟨W1.heap.size,1,none⟩=some (.slice pA ps.length pcap)) (C':=fun _=>True) (hs:=[2]) 13 (List.take 13 _) (List.drop 13 _) (List.take_append_drop 13 _).symm rfl (by kernel_rfl) (by kernel_rfl) (by kernel_rfl) g0 ?_
           simp only[List.take_succ_cons,List.take_zero,List.drop_succ_cons,List.drop_zero]
           repeat' (first|((first|refine Lx.ln (fun K hK=>?_) | (first|(refine Lx.lp (v:=?_) ?_ (fun K hK=>?_);rotate_left 1;intro w' hCw;try dsimp only at hCw) | (refine Lx.lr (v:=?_) ?_ (fun K hK=>?_);rotate_left 1));go_simp;first|done | with_reducible rfl);go_simp;refine hK _ ?_;clear hK K) | (refine Lx.le (fun K hK=>?_);go_simp;(first|fail | skip);refine hK _ _ (HPA.out.2.2.1.cell rfl) ?_;clear hK K))
           refine Lx.lex_append rfl rfl _ _ 23 rfl W1.heap.size 67 i0 (.agg #[.int .i64 0,.int .i64 0,.int .i64 0,.int .i64 0,.int .i64 0]) 5 40 Tryz.underlying23 hi hz0 hz1 hz2 rfl (by decide) _ _ _ rfl (by exact HPA.out.2.2.2.2.2.1) ⟨wo.heap.size,0,none⟩ 1 1 [.int .i64 y0,.int .i64 y1,.int .i64 y2,.int .i64 y3,.int .i64 y4] rfl rfl (by exact cells_newN wo _ _) (by simp[Value.oneCell']) (by dsimp only;unfold maxLen;omega) (by dsimp only;omega) (by simp;omega) ?_
           intro v' w3 hown' hgrow hor
           replace hgrow:World.grownBy _ w3 (Value.slice pA ps.length pcap).ownBlock:=hgrow
           replace hown':w3.ownsRow W1.heap.size 67 5 v' (ps.length+1) (flat 5 R5.cell ps++(List.range 5).map (R5.cell ⟨y0,y1,y2,y3,y4⟩)):=hown'
           have H3:=Lib.hid (And.intro hown' hgrow)
           rw[←flat_snoc] at hown'
           obtain⟨vA,vc,rfl,_⟩:=own_formS (by decide) hown'
           have HPB:=Lib.hid (HPA.out.addP (y:=⟨y0,y1,y2,y3,y4⟩) hgrow H3.out.1)
           have hb8:=blk_kept HPA.out.2.2.1 hgrow (blk_not_row HPA.out.2.2.1 (by decide) HPA.out.2.2.2.2.2.1)
           have q0':w3.cell? ⟨W1.heap.size,1,none⟩=some (.slice pA ps.length pcap):=hb8.cell rfl
           have q1':=hb8.frozen 1
           have q2':=hb8.lt
           refine⟨q0',?_⟩
           clear hown' hgrow hor hb8 g0 g1 e0 e1 e2 e3 e4 q0
           repeat' (first|((first|refine Lx.ln (fun K hK=>?_) | (first|(refine Lx.lp (v:=?_) ?_ (fun K hK=>?_);rotate_left 1;intro w' hCw;try dsimp only at hCw) | (refine Lx.lr (v:=?_) ?_ (fun K hK=>?_);rotate_left 1));go_simp;first|done | with_reducible rfl);go_simp;refine hK _ ?_;clear hK K) | (refine Lx.le (fun K hK=>?_);go_simp;(first|fail);refine hK _ _ (q0') ?_;clear hK K))
           all_goals (refine Lx.lex_nil ?_)
           refine⟨trivial,?_⟩
           repeat' (first|((first|refine Lx.ln (fun K hK=>?_) | (first|(refine Lx.lp (v:=?_) ?_ (fun K hK=>?_);rotate_left 1;intro w' hCw;try dsimp only at hCw) | (refine Lx.lr (v:=?_) ?_ (fun K hK=>?_);rotate_left 1));go_simp;first|done | with_reducible rfl);go_simp;refine hK _ ?_;clear hK K) | (refine Lx.le (fun K hK=>?_);go_simp;(first|skip);refine hK _ _ (trivial) ?_;clear hK K))
           all_goals (refine Lx.lex_nil ?_)
           clear q0' q1'
           go_wp2_with fail
           go_roundw
           case rel=>exact⟨m+1,_,ps++[⟨y0,y1,y2,y3,y4⟩],by omega,by go_num,HPB.out,by rw[Eqn,HFT.out];simp[hsa,hsb],by rw[List.length_append];simp;omega⟩
           case measure=>simp[intOf];omega
        ·obtain rfl:m=n0:=by omega
         have hTm:r0.take m=r0:=List.take_of_length_le (by rw[Hz0.out];omega)
         have HF0:Eqn ps (r0.filter (fun c=>hasL L c.a&&hasL L c.b)):=by rw[Eqn,HE0.out,hTm]
         obtain⟨pv0,rfl⟩:∃ pv0:Value,pv0=pv:=⟨_,rfl⟩
         obtain⟨ps0,rfl⟩:∃ ps0:List R5,ps0=ps:=⟨_,rfl⟩
         have HPk0:=Lib.hid hP
         clear hP HE0 hTm
         go_wp2_with fail
         clear q0 q4
         go_loopw [10] (fun i wi=>∃(m:Nat) (pv:Value) (ps:List R5),m≤n1∧i=.int .i64 m∧QSt w.heap.size W1 W1.heap.size ⟨dv,pv0,pv,nilS⟩ ⟨xd,ps0,ps,[]⟩ wi∧Eqn ps ((r1.take m).filter (fun c=>hasL L c.a&&hasL L c.b))∧ps.length≤m) (fun i _=>n1 - (intOf i).toNat)
         case atStart=>exact⟨0,nilS,[],Nat.zero_le _,rfl,HPk0.out,by rw[List.take_zero];rfl,Nat.le_refl _⟩
         case round=>
          obtain⟨m,pv,ps,hm,rfl,hP,HE1,hpl⟩:=hrel
          obtain⟨wo,rfl⟩:∃ wo:World,wo=wr:=⟨_,rfl⟩
          have hbs1:=hP.1.size
          obtain⟨_,_,q0,_,q4⟩:=HC1.out _ (HBW.out _ hP.1)
          by_cases hlt:m<n1
          ·obtain⟨y,hy,_⟩:=drop_at (xs:=r1) (k:=m) (by rw[Hz1.out];exact hlt)
           obtain⟨b,off,hA,hbl,hc⟩:=(HRr1.out.below (hP.1.mono (by omega))).2 (by omega)
           have HFT:=Eqn.mk (filter_take (fun c=>hasL L c.a&&hasL L c.b) r1 m y hy)
           rw[←HE1.out] at HFT
           obtain⟨y0,y1,y2,y3,y4⟩:=y
           have e0:=hc m _ hy 0 (by omega)
           have e1:=hc m _ hy 1 (by omega)
           have e2:=hc m _ hy 2 (by omega)
           have e3:=hc m _ hy 3 (by omega)
           have e4:=hc m _ hy 4 (by omega)
           simp only[R5.cell,Nat.add_zero] at e0 e1 e2 e3 e4
           dsimp only at HFT
           have hbw:b<wo.heap.size:=by omega
           have m0:(m:Int)<(n1:Int):=by omega
           have HV2:=Lib.hid (And.intro hP (HBW.out _ hP.1))
           obtain⟨pA,pcap,hpv,_⟩:=own_formS (by decide) hP.2.2.2.2.2.2.1
           dsimp only at hpv
           subst hpv
           have g0:wo.cell? ⟨W1.heap.size,2,none⟩=some (.slice pA ps.length pcap):=hP.2.2.1.cell rfl
           have g1:=hP.2.2.1.lt
           subst hA
           clear hc hy hP
           go_wp2_with fail
           refine(HHA.out _ _ HV2.out.2).mono ?_
           rintro e wz ⟨rfl,rfl⟩
           cases hsa:hasL L y0 with
           | false=>
            go_wp2_with fail
            go_roundw
            case rel=>exact⟨m+1,_,ps,by omega,by go_num,HV2.out.1,by rw[Eqn,HFT.out];simp[hsa],by omega⟩
            case measure=>simp[intOf];omega
           | true=>
            go_wp2_with fail
            refine(HHA.out _ _ HV2.out.2).mono ?_
            rintro e wz ⟨rfl,rfl⟩
            cases hsb:hasL L y1 with
            | false=>
             go_wp2_with fail
             go_roundw
             case rel=>exact⟨m+1,_,ps,by omega,by go_num,HV2.out.1,by rw[Eqn,HFT.out];simp[hsa,hsb],by omega⟩
             case measure=>simp[intOf];omega
            | true=>
             obtain⟨i0,hi,hz0,hz1,hz2⟩:=info_parts load_info
             have HPA:Hid (QSt w.heap.size W1 W1.heap.size ⟨dv,pv0,.slice pA ps.length pcap,nilS⟩ ⟨xd,ps0,ps,[]⟩ (wo.alloc (.cells #[.int .i64 y0,.int .i64 y1,.int .i64 y2,.int .i64 y3,.int .i64 y4] 69)).drew):=Lib.hid ((HV2.out.1.alloc (.cells #[.int .i64 y0,.int .i64 y1,.int .i64 y2,.int .i64 y3,.int .i64 y4] 69)).call (Below.refl _ _).drew)
             go_wp2_with fail
             refine Lx.regionT (C:=fun X=>X.cell? ⟨W1.heap.size,2,none⟩=some (.slice pA ps.length pcap)) (C':=fun _=>True) (hs:=[2]) 13 (List.take 13 _) (List.drop 13 _) (List.take_append_drop 13 _).symm rfl (by kernel_rfl) (by kernel_rfl) (by kernel_rfl) g0 ?_
             simp only[List.take_succ_cons,List.take_zero,List.drop_succ_cons,List.drop_zero]
             repeat' (first|((first|refine Lx.ln (fun K hK=>?_) | (first|(refine Lx.lp (v:=?_) ?_ (fun K hK=>?_);rotate_left 1;intro w' hCw;try dsimp only at hCw) | (refine Lx.lr (v:=?_) ?_ (fun K hK=>?_);rotate_left 1));go_simp;first|done | with_reducible rfl);go_simp;refine hK _ ?_;clear hK K) | (refine Lx.le (fun K hK=>?_);go_simp;(first|fail | skip);refine hK _ _ (HPA.out.2.2.1.cell rfl) ?_;clear hK K))
             refine Lx.lex_append rfl rfl _ _ 24 rfl W1.heap.size 69 i0 (.agg #[.int .i64 0,.int .i64 0,.int .i64 0,.int .i64 0,.int .i64 0]) 5 40 Tryz.underlying24 hi hz0 hz1 hz2 rfl (by decide) _ _ _ rfl (by exact HPA.out.2.2.2.2.2.2.1) ⟨wo.heap.size,0,none⟩ 1 1 [.int .i64 y0,.int .i64 y1,.int .i64 y2,.int .i64 y3,.int .i64 y4] rfl rfl (by exact cells_newN wo _ _) (by simp[Value.oneCell']) (by dsimp only;unfold maxLen;omega) (by dsimp only;omega) (by simp;omega) ?_
             intro v' w3 hown' hgrow hor
             replace hgrow:World.grownBy _ w3 (Value.slice pA ps.length pcap).ownBlock:=hgrow
             replace hown':w3.ownsRow W1.heap.size 69 5 v' (ps.length+1) (flat 5 R5.cell ps++(List.range 5).map (R5.cell ⟨y0,y1,y2,y3,y4⟩)):=hown'
             have H3:=Lib.hid (And.intro hown' hgrow)
             rw[←flat_snoc] at hown'
             obtain⟨vA,vc,rfl,_⟩:=own_formS (by decide) hown'
             have HPB:=Lib.hid (HPA.out.addL (y:=⟨y0,y1,y2,y3,y4⟩) hgrow H3.out.1)
             have hb8:=blk_kept HPA.out.2.2.1 hgrow (blk_not_row HPA.out.2.2.1 (by decide) HPA.out.2.2.2.2.2.2.1)
             have q0':w3.cell? ⟨W1.heap.size,2,none⟩=some (.slice pA ps.length pcap):=hb8.cell rfl
             have q1':=hb8.frozen 2
             have q2':=hb8.lt
             refine⟨q0',?_⟩
             clear hown' hgrow hor hb8 g0 g1 e0 e1 e2 e3 e4 q0
             repeat' (first|((first|refine Lx.ln (fun K hK=>?_) | (first|(refine Lx.lp (v:=?_) ?_ (fun K hK=>?_);rotate_left 1;intro w' hCw;try dsimp only at hCw) | (refine Lx.lr (v:=?_) ?_ (fun K hK=>?_);rotate_left 1));go_simp;first|done | with_reducible rfl);go_simp;refine hK _ ?_;clear hK K) | (refine Lx.le (fun K hK=>?_);go_simp;(first|fail);refine hK _ _ (q0') ?_;clear hK K))
             all_goals (refine Lx.lex_nil ?_)
             refine⟨trivial,?_⟩
             repeat' (first|((first|refine Lx.ln (fun K hK=>?_) | (first|(refine Lx.lp (v:=?_) ?_ (fun K hK=>?_);rotate_left 1;intro w' hCw;try dsimp only at hCw) | (refine Lx.lr (v:=?_) ?_ (fun K hK=>?_);rotate_left 1));go_simp;first|done | with_reducible rfl);go_simp;refine hK _ ?_;clear hK K) | (refine Lx.le (fun K hK=>?_);go_simp;(first|skip);refine hK _ _ (trivial) ?_;clear hK K))
             all_goals (refine Lx.lex_nil ?_)
             clear q0' q1'
             go_wp2_with fail
             go_roundw
             case rel=>exact⟨m+1,_,ps++[⟨y0,y1,y2,y3,y4⟩],by omega,by go_num,HPB.out,by rw[Eqn,HFT.out];simp[hsa,hsb],by rw[List.length_append];simp;omega⟩
             case measure=>simp[intOf];omega
          ·obtain rfl:m=n1:=by omega
           have hTm:r1.take m=r1:=List.take_of_length_le (by rw[Hz1.out];omega)
           have HF1:Eqn ps (r1.filter (fun c=>hasL L c.a&&hasL L c.b)):=by rw[Eqn,HE1.out,hTm]
           obtain⟨pv1,rfl⟩:∃ pv1:Value,pv1=pv:=⟨_,rfl⟩
           obtain⟨ps1,rfl⟩:∃ ps1:List R5,ps1=ps:=⟨_,rfl⟩
           have HPk1:=Lib.hid hP
           clear hP HE1 hTm
           go_wp2_with fail
           clear q0 q4
           go_loopw [11] (fun i wi=>∃(m:Nat) (pv:Value) (ps:List R4),m≤n2∧i=.int .i64 m∧QSt w.heap.size W1 W1.heap.size ⟨dv,pv0,pv1,pv⟩ ⟨xd,ps0,ps1,ps⟩ wi∧Eqn ps ((r2.take m).filter (fun c=>hasL L c.a))∧ps.length≤m) (fun i _=>n2 - (intOf i).toNat)
           case atStart=>exact⟨0,nilS,[],Nat.zero_le _,rfl,HPk1.out,by rw[List.take_zero];rfl,Nat.le_refl _⟩
           case round=>
            obtain⟨m,pv,ps,hm,rfl,hP,HE2,hpl⟩:=hrel
            obtain⟨wo,rfl⟩:∃ wo:World,wo=wr:=⟨_,rfl⟩
            have hbs1:=hP.1.size
            obtain⟨_,_,_,q0,q4⟩:=HC1.out _ (HBW.out _ hP.1)
            by_cases hlt:m<n2
            ·obtain⟨y,hy,_⟩:=drop_at (xs:=r2) (k:=m) (by rw[Hz2.out];exact hlt)
             obtain⟨b,off,hA,hbl,hc⟩:=(HRr2.out.below (hP.1.mono (by omega))).2 (by omega)
             have HFT:=Eqn.mk (filter_take (fun c=>hasL L c.a) r2 m y hy)
             rw[←HE2.out] at HFT
             obtain⟨y0,y1,y2,y3⟩:=y
             have e0:=hc m _ hy 0 (by omega)
             have e1:=hc m _ hy 1 (by omega)
             have e2:=hc m _ hy 2 (by omega)
             have e3:=hc m _ hy 3 (by omega)
             simp only[R4.cell,Nat.add_zero] at e0 e1 e2 e3
             dsimp only at HFT
             have hbw:b<wo.heap.size:=by omega
             have m0:(m:Int)<(n2:Int):=by omega
             have HV2:=Lib.hid (And.intro hP (HBW.out _ hP.1))
             obtain⟨pA,pcap,hpv,_⟩:=own_formS (by decide) hP.2.2.2.2.2.2.2
             dsimp only at hpv
             subst hpv
             have g0:wo.cell? ⟨W1.heap.size,3,none⟩=some (.slice pA ps.length pcap):=hP.2.2.1.cell rfl
             have g1:=hP.2.2.1.lt
             subst hA
             clear hc hy hP
             go_wp2_with fail
             refine(HHA.out _ _ HV2.out.2).mono ?_
             rintro e wz ⟨rfl,rfl⟩
             cases hsa:hasL L y0 with
             | false=>
              go_wp2_with fail
              go_roundw
              case rel=>exact⟨m+1,_,ps,by omega,by go_num,HV2.out.1,by rw[Eqn,HFT.out];simp[hsa],by omega⟩
              case measure=>simp[intOf];omega
             | true=>
              obtain⟨i0,hi,hz0,hz1,hz2⟩:=info_parts cap_info
              have HPA:Hid (QSt w.heap.size W1 W1.heap.size ⟨dv,pv0,pv1,.slice pA ps.length pcap⟩ ⟨xd,ps0,ps1,ps⟩ (wo.alloc (.cells #[.int .i64 y0,.int .i64 y1,.int .i64 y2,.int .i64 y3] 71)).drew):=Lib.hid ((HV2.out.1.alloc (.cells #[.int .i64 y0,.int .i64 y1,.int .i64 y2,.int .i64 y3] 71)).call (Below.refl _ _).drew)
              go_wp2_with fail
              refine Lx.regionT (C:=fun X=>X.cell? ⟨W1.heap.size,3,none⟩=some (.slice pA ps.length pcap)) (C':=fun _=>True) (hs:=[2]) 13 (List.take 13 _) (List.drop 13 _) (List.take_append_drop 13 _).symm rfl (by kernel_rfl) (by kernel_rfl) (by kernel_rfl) g0 ?_
              simp only[List.take_succ_cons,List.take_zero,List.drop_succ_cons,List.drop_zero]
              repeat' (first|((first|refine Lx.ln (fun K hK=>?_) | (first|(refine Lx.lp (v:=?_) ?_ (fun K hK=>?_);rotate_left 1;intro w' hCw;try dsimp only at hCw) | (refine Lx.lr (v:=?_) ?_ (fun K hK=>?_);rotate_left 1));go_simp;first|done | with_reducible rfl);go_simp;refine hK _ ?_;clear hK K) | (refine Lx.le (fun K hK=>?_);go_simp;(first|fail | skip);refine hK _ _ (HPA.out.2.2.1.cell rfl) ?_;clear hK K))
              refine Lx.lex_append rfl rfl _ _ 25 rfl W1.heap.size 71 i0 (.agg #[.int .i64 0,.int .i64 0,.int .i64 0,.int .i64 0]) 4 32 Tryz.underlying25 hi hz0 hz1 hz2 rfl (by decide) _ _ _ rfl (by exact HPA.out.2.2.2.2.2.2.2) ⟨wo.heap.size,0,none⟩ 1 1 [.int .i64 y0,.int .i64 y1,.int .i64 y2,.int .i64 y3] rfl rfl (by exact cells_newN wo _ _) (by simp[Value.oneCell']) (by dsimp only;unfold maxLen;omega) (by dsimp only;omega) (by simp;omega) ?_
              intro v' w3 hown' hgrow hor
              replace hgrow:World.grownBy _ w3 (Value.slice pA ps.length pcap).ownBlock:=hgrow
              replace hown':w3.ownsRow W1.heap.size 71 4 v' (ps.length+1) (flat 4 R4.cell ps++(List.range 4).map (R4.cell ⟨y0,y1,y2,y3⟩)):=hown'
              have H3:=Lib.hid (And.intro hown' hgrow)
              rw[←flat_snoc] at hown'
              obtain⟨vA,vc,rfl,_⟩:=own_formS (by decide) hown'
              have HPB:=Lib.hid (HPA.out.addC (y:=⟨y0,y1,y2,y3⟩) hgrow H3.out.1)
              have hb8:=blk_kept HPA.out.2.2.1 hgrow (blk_not_row HPA.out.2.2.1 (by decide) HPA.out.2.2.2.2.2.2.2)
              have q0':w3.cell? ⟨W1.heap.size,3,none⟩=some (.slice pA ps.length pcap):=hb8.cell rfl
              have q1':=hb8.frozen 3
              have q2':=hb8.lt
              refine⟨q0',?_⟩
              clear hown' hgrow hor hb8 g0 g1 e0 e1 e2 e3 q0
              repeat' (first|((first|refine Lx.ln (fun K hK=>?_) | (first|(refine Lx.lp (v:=?_) ?_ (fun K hK=>?_);rotate_left 1;intro w' hCw;try dsimp only at hCw) | (refine Lx.lr (v:=?_) ?_ (fun K hK=>?_);rotate_left 1));go_simp;first|done | with_reducible rfl);go_simp;refine hK _ ?_;clear hK K) | (refine Lx.le (fun K hK=>?_);go_simp;(first|fail);refine hK _ _ (q0') ?_;clear hK K))
              all_goals (refine Lx.lex_nil ?_)
              refine⟨trivial,?_⟩
              repeat' (first|((first|refine Lx.ln (fun K hK=>?_) | (first|(refine Lx.lp (v:=?_) ?_ (fun K hK=>?_);rotate_left 1;intro w' hCw;try dsimp only at hCw) | (refine Lx.lr (v:=?_) ?_ (fun K hK=>?_);rotate_left 1));go_simp;first|done | with_reducible rfl);go_simp;refine hK _ ?_;clear hK K) | (refine Lx.le (fun K hK=>?_);go_simp;(first|skip);refine hK _ _ (trivial) ?_;clear hK K))
              all_goals (refine Lx.lex_nil ?_)
              clear q0' q1'
              go_wp2_with fail
              go_roundw
              case rel=>exact⟨m+1,_,ps++[⟨y0,y1,y2,y3⟩],by omega,by go_num,HPB.out,by rw[Eqn,HFT.out];simp[hsa],by rw[List.length_append];simp;omega⟩
              case measure=>simp[intOf];omega
            ·obtain rfl:m=n2:=by omega
             have hTm:r2.take m=r2:=List.take_of_length_le (by rw[Hz2.out];omega)
             have HF2:Eqn ps (r2.filter (fun c=>hasL L c.a)):=by rw[Eqn,HE2.out,hTm]
             obtain⟨pv2,rfl⟩:∃ pv2:Value,pv2=pv:=⟨_,rfl⟩
             obtain⟨ps2,rfl⟩:∃ ps2:List R4,ps2=ps:=⟨_,rfl⟩
             obtain⟨dA,dc,rfl,hD⟩:=own_formS (by decide) hP.2.2.2.1
             obtain⟨A3,c3,rfl,hp0⟩:=own_formS (by decide) hP.2.2.2.2.2.1
             obtain⟨A4,c4,rfl,hp1⟩:=own_formS (by decide) hP.2.2.2.2.2.2.1
             obtain⟨A5,c5,rfl,hp2⟩:=own_formS (by decide) hP.2.2.2.2.2.2.2
             dsimp only at *
             have b8:=hP.2.2.1
             have g0:=b8.cell (i:=0) rfl
             have g1:=b8.cell (i:=1) rfl
             have g2:=b8.cell (i:=2) rfl
             have g3:=b8.cell (i:=3) rfl
             have g4:=b8.lt
             have b6:=HX6.out.keep (HBW.out _ hP.1)
             have f0:=b6.cell (i:=0) rfl
             have f1:=b6.cell (i:=1) rfl
             have f2:=b6.cell (i:=2) rfl
             have f3:=b6.cell (i:=3) rfl
             have f4:=b6.lt
             have f5:∀ o,wo.frozen? ⟨w.heap.size+1,o,none⟩=false:=b6.frozen
             have HPf:=Lib.hid hP
             have HB6:=Lib.hid b6
             have HH2:=Lib.hid (HB0.out.trans ((HBW.out _ hP.1).mono (by omega)))
             clear hP HE2 hTm b8 b6
             go_wp2_with fail
             obtain⟨Wf,hWf⟩:∃ Wf,Wf=(((wo.setCell ⟨w.heap.size+1,0,none⟩ (.slice dA xd.length dc)).setCell ⟨w.heap.size+1,1,none⟩ (.slice A3 ps0.length c3)).setCell ⟨w.heap.size+1,2,none⟩ (.slice A4 ps1.length c4)).setCell ⟨w.heap.size+1,3,none⟩ (.slice A5 ps2.length c5):=⟨_,rfl⟩
             have hbf:Blk Wf (w.heap.size+1) 29 [.slice dA xd.length dc,.slice A3 ps0.length c3,.slice A4 ps1.length c4,.slice A5 ps2.length c5]:=by rw[hWf];exact(((HB6.out.set_ 0 _).set_ 1 _).set_ 2 _).set_ 3 _
             have hrow:∀ {e size m:Nat} {v:Value} {xs:List Value},wo.ownsRow W1.heap.size e size v m xs→Wf.ownsRow W1.heap.size e size v m xs:=by
              intro e size m v xs h
              rw[hWf]
              exact own_set (own_set (own_set (own_set h (by dsimp only;omega) _) (by dsimp only;omega) _) (by dsimp only;omega) _) (by dsimp only;omega) _
             have hBf:Below w.heap.size w Wf:=by
              have h0:=HH2.out
              rw[hWf]
              exact(((h0.setCell (p:=⟨w.heap.size+1,0,none⟩) (by dsimp only;omega) _).setCell (p:=⟨w.heap.size+1,1,none⟩) (by dsimp only;omega) _).setCell (p:=⟨w.heap.size+1,2,none⟩) (by dsimp only;omega) _).setCell (p:=⟨w.heap.size+1,3,none⟩) (by dsimp only;omega) _
             have hB1f:Below w.heap.size W1 Wf:=by
              have h0:Below w.heap.size W1 wo:=HPf.out.1.mono (by omega)
              rw[hWf]
              exact(((h0.setCell (p:=⟨w.heap.size+1,0,none⟩) (by dsimp only;omega) _).setCell (p:=⟨w.heap.size+1,1,none⟩) (by dsimp only;omega) _).setCell (p:=⟨w.heap.size+1,2,none⟩) (by dsimp only;omega) _).setCell (p:=⟨w.heap.size+1,3,none⟩) (by dsimp only;omega) _
             rw[←hWf]
             have k0:=hbf.cell (i:=0) rfl
             have k1:=hbf.cell (i:=1) rfl
             have k2:=hbf.cell (i:=2) rfl
             have k3:=hbf.cell (i:=3) rfl
             clear hWf f0 f1 f2 f3 f4 f5 g0 g1 g2 g3 g4
             have hP:=HPf.out
             rw[HRT.out]
             refine bodyPost_ret (v:=.tuple #[.agg #[.slice dA xd.length dc,.slice A3 ps0.length c3,.slice A4 ps1.length c4,.slice A5 ps2.length c5],.int .i64 0]) (by simp[results,Tryz.results14,go_sem,k0,k1,k2,k3]) rfl ?_
             refine⟨⟨dA,xd.length,dc,⟨A3,ps0.length,c3,A4,ps1.length,c4,A5,ps2.length,c5⟩⟩,xd,rfl,⟨⟨rowS_own (by decide) (hrow hP.2.2.2.1),fun d hd=>?_⟩,?_,?_,?_,?_,?_,?_⟩,HE.out,hBf⟩
             ·rcases hP.2.2.2.2.1 d hd with h | h
              ·exact row1_own (hrow h)
              ·exact(h.below hB1f).up (by have:=hBf.size;omega)
             ·have:=rowS_own (by decide) (hrow hP.2.2.2.2.2.1);dsimp only[keepR] at this ⊢;rw[←HF0.out];exact this
             ·have:=rowS_own (by decide) (hrow hP.2.2.2.2.2.2.1);dsimp only[keepR] at this ⊢;rw[←HF1.out];exact this
             ·have:=rowS_own (by decide) (hrow hP.2.2.2.2.2.2.2);dsimp only[keepR] at this ⊢;rw[←HF2.out];exact this
             ·dsimp only;omega
             ·dsimp only;omega
             ·dsimp only;omega
def onF:List (Int×Int)→Int→Int
 | [],_=>0
 | x::r,n=>if x.1=n then x.2 else onF r n
def bpF (x:R5) (l:List (Int×Int)):Bool:=!decide (onF l x.a=0)&&(!decide (onF l x.b=0)&&(decide (x.d≤onF l x.a)&&(decide (onF l x.a≤x.e)&&decide (onF l x.b=wrap64 (onF l x.a+x.c)))))
def lossB (n ch:Int) (l:List (Int×Int)) (x:R5):Bool:=decide (x.a=n)&&(decide (onF l x.b=ch)&&(decide (x.d≤ch)&&decide (ch≤x.e)))
def lossGo (n ch:Int) (l:List (Int×Int)):Int→List R5→Int
 | s,[]=>s
 | s,x::r=>lossGo n ch l (if lossB n ch l x then wrap64 (s+x.c) else s) r
def bcF (loads:List R5) (x:R4) (l:List (Int×Int)):Bool:=!decide (onF l x.a=0)&&(decide (x.c≤onF l x.a)&&(decide (onF l x.a≤x.d)&&decide (x.b<lossGo x.a (onF l x.a) l 0 loads)))
def bdF (all:Bool) (l:List (Int×Int)) (d:Dom):Bool:=(decide (onF l d.st=0)&&all)||(!decide (onF l d.st=0)&&!hasL d.chs (onF l d.st))
def okF (ds:List Dom) (r:Rul) (l:List (Int×Int)) (all:Bool):Bool:=
 ds.all (fun d=>!bdF all l d)&&(l.all (fun x=>inD ds x.1)&&(r.pairs.all (fun x=>!bpF x l)&&r.caps.all (fun x=>!bcF r.loads x l)))
def vlGo:Option Int→List (Int×Int)→Bool
 | _,[]=>true
 | prev,x::r=>if stF x.1=false∨x.2<2∨51<x.2∨notUp prev x.1=true then false else vlGo (some x.1) r
def fineF (ds:List Dom) (r:Rul) (l:List (Int×Int)):Bool:=vlGo none l&&okF ds r l true
end Go.Proofs.YtjakdikhdndlgaaGreatDoor
