/- Reduction in plain Lean: what the extension holds. -/
import Derived.Test.YtjakdikhdndlgaaGreatDoorRed14
set_option maxRecDepth 100000
set_option maxHeartbeats 8000000
namespace Go.Proofs.YtjakdikhdndlgaaGreatDoor
open Go.RowKit Go.ChangeShapes Go.WideShapes Go.ChangeAt Go.Deep Go.Joins
section
variable {H : Type} {enc : TypeId × Value → H} {w : World} {base b0 : Nat} {spare : Nat → Bool} {held : Bool} {r : Reach}
theorem arg_chos {v:Value} {d:DataW H} {p:List MemPlace} (hv:Value.okWide Tryz.prog w r b0 53 v) (h:DataW.Trod enc Tryz.prog w base spare held 53 v d p):
  ∃ A n c xs,v=.slice A n c∧RowS 2 chC w w.heap.size A n xs∧n≤9223372036854775807:=by
 obtain⟨A,n,c,rfl⟩:=okWide_slice Tryz.underlying53 hv
 obtain⟨fuel,hf⟩:=h
 obtain⟨hn,G,m,h1,h2⟩:=elems_of_trod (sz:=2) Tryz.underlying53 (by kernel_rfl) (by omega) (by simpa[Value.cells] using hf)
 obtain⟨xs,hx,_⟩:=rowS_of_elems (w:=w) (A:=A) chC (fun _=>True) G (fun i hi=>by
  obtain⟨_,y,hy⟩:=h1 i hi
  obtain⟨g,hg⟩:=ints_of_struct Tryz.underlying75 (by kernel_rfl) (by kernel_rfl) (by kernel_rfl) hy
  refine⟨(g 0,g 1),trivial,fun j hj=>?_⟩
  have:=(hg j hj).1
  match j,hj with
  | 0,_=>exact this
  | 1,_=>exact this) h2
 exact⟨A,n,c,xs,rfl,hx,hn⟩
end
end Go.Proofs.YtjakdikhdndlgaaGreatDoor
namespace Go.Proofs.YtjakdikhdndlgaaGreatDoor
open Go.RowKit
theorem ron_any (A:Option Addr) (n c:Nat) (x:Int) (w:World) (l:List (Int×Int)) (hn:n≤9223372036854775807) (hl:RowS 2 chC w w.heap.size A n l):
  Calls Tryz.prog 64 #[.slice A n c,.int .i64 x] w fun e w'=>e=.returned (.int .i64 (onF l x))∧w=w':=by
 have Hl:=Lib.hid hl
 have Hlen:=Eqn.mk hl.1
 clear hl
 go_enter Tryz.func64,Tryz.ntmps64
 go_wp2_with fail
 go_loopw [5] (fun i wr=>∃ k:Nat,k≤n∧i=.int .i64 k∧Eqn (onF l x) (onF (l.drop k) x)∧w=wr) (fun i _=>n - (intOf i).toNat)
 case atStart=>exact⟨0,Nat.zero_le _,rfl,rfl,rfl⟩
 case round=>
  obtain⟨k,hk,rfl,HR,rfl⟩:=hrel
  by_cases hlt:k<n
  ·obtain⟨p,hp,hpd⟩:=drop_at (xs:=l) (k:=k) (by rw[Hlen.out];exact hlt)
   obtain⟨b,off,hA,hbl,hc⟩:=Hl.out.2 (by omega)
   subst hA
   have c0:=hc k p hp 0 (by omega)
   have c1:=hc k p hp 1 (by omega)
   simp only[chC,Nat.add_zero] at c0 c1
   have HR2:=HR.out
   rw[hpd,onF] at HR2
   have HRR:=Eqn.mk HR2
   have j0:(k:Int)<(n:Int):=by omega
   clear hc hp hpd HR HR2
   by_cases he:p.1=x
   ·have HE:=Eqn.mk (HRR.out.trans (if_pos he))
    have hd:(p.1 == x)=true:=by simpa using he
    clear HRR he
    go_wp2_with fail
    go_ret
    exact⟨ret_int HE.out.symm,rfl⟩
   ·have HE:=Eqn.mk (HRR.out.trans (if_neg he))
    have hd:(p.1 == x)=false:=by simpa using he
    clear HRR he
    go_wp2_with fail
    go_roundw
    case rel=>exact⟨k+1,by omega,by go_num,HE,trivial⟩
    case measure=>simp[intOf];omega
  ·obtain rfl:k=n:=by omega
   go_wp2_with fail
   go_ret
   exact⟨ret_int (by rw[HR.out,drop_end (by rw[Hlen.out];omega)];rfl),rfl⟩
theorem rbp_any (x:R5) (A:Option Addr) (n c:Nat) (w:World) (l:List (Int×Int)) (hn:n≤9223372036854775807) (hl:RowS 2 chC w w.heap.size A n l):
  Calls Tryz.prog 100 #[x.val,.slice A n c] w (RetPost (.bool (bpF x l)) w.heap.size w):=by
 obtain⟨x0,x1,x2,x3,x4⟩:=x
 obtain⟨W0,hW0⟩:∃ W0,W0=w.alloc (.cells #[.int .i64 x0,.int .i64 x1,.int .i64 x2,.int .i64 x3,.int .i64 x4] 67):=⟨_,rfl⟩
 have hB0:Below w.heap.size w W0:=by rw[hW0];exact(Below.refl _ w).alloc (Nat.le_refl _) _
 have hX:Blk W0 w.heap.size 67 [.int .i64 x0,.int .i64 x1,.int .i64 x2,.int .i64 x3,.int .i64 x4]:=by rw[hW0];exact blk_new w _ _
 have q0:W0.cell? ⟨w.heap.size,0,none⟩=some (.int .i64 x0):=hX.cell rfl
 have q1:W0.cell? ⟨w.heap.size,1,none⟩=some (.int .i64 x1):=hX.cell rfl
 have q2:W0.cell? ⟨w.heap.size,2,none⟩=some (.int .i64 x2):=hX.cell rfl
 have q3:W0.cell? ⟨w.heap.size,3,none⟩=some (.int .i64 x3):=hX.cell rfl
 have q4:W0.cell? ⟨w.heap.size,4,none⟩=some (.int .i64 x4):=hX.cell rfl
 have q5:=hX.lt
 have HON:Hid (∀ i:Int,Calls Tryz.prog 64 #[.slice A n c,.int .i64 i] W0.drew fun e w'=>e=.returned (.int .i64 (onF l i))∧W0.drew=w'):=Lib.hid (fun i=>ron_any A n c i W0.drew l hn (hl.keep hB0.drew))
 have HB0:=Lib.hid hB0.drew
 have HF:Eqn (bpF ⟨x0,x1,x2,x3,x4⟩ l) (!decide (onF l x0=0)&&(!decide (onF l x1=0)&&(decide (x3≤onF l x0)&&(decide (onF l x0≤x4)&&decide (onF l x1=wrap64 (onF l x0+x2)))))):=rfl
 generalize bpF ⟨x0,x1,x2,x3,x4⟩ l=R at *
 have HO0:=Lib.hid (HON.out x0)
 have HO1:=Lib.hid (HON.out x1)
 generalize onF l x0=a at *
 generalize onF l x1=b at *
 unfold R5.val
 dsimp only
 clear hB0 hX HON hl
 go_enter Tryz.func100,Tryz.ntmps100
 go_wp2_with fail
 rw[←hW0]
 clear hW0
 refine Lx.region (C:=fun X=>X.cell? ⟨w.heap.size,1,none⟩=some (.int .i64 x1)) (hs:=[6]) (by kernel_rfl) (by kernel_rfl) q1 ?_
 repeat' (first|((first|refine Lx.ln (fun K hK=>?_) | (first|(refine Lx.lp (v:=?_) ?_ (fun K hK=>?_);rotate_left 1;intro w' hCw;try dsimp only at hCw) | (refine Lx.lr (v:=?_) ?_ (fun K hK=>?_);rotate_left 1));go_simp;first|done | with_reducible rfl);go_simp;refine hK _ ?_;clear hK K) | (refine Lx.le (fun K hK=>?_);go_simp;(first|(go_at_call 64;first|(refine HO0.out.mono ?_;rintro e w1 ⟨rfl,rfl⟩;clear HO0) | (refine HO1.out.mono ?_;rintro e w1 ⟨rfl,rfl⟩)));refine hK _ _ (q1) ?_;clear hK K))
 all_goals (refine Lx.lex_nil ?_)
 clear HO1
 have hj:∀ i v,W0.cell? ⟨w.heap.size,i,none⟩=some v→W0.drew.cell? ⟨w.heap.size,i,none⟩=some v:=fun i v h=>h
 replace q0:=hj _ _ q0
 replace q1:=hj _ _ q1
 replace q2:=hj _ _ q2
 replace q3:=hj _ _ q3
 replace q4:=hj _ _ q4
 have q6:w.heap.size<W0.drew.heap.size:=q5
 clear hj q5
 generalize W0.drew=W1 at *
 by_cases h1:a=0
 ·have hd:(a != 0)=false:=by simpa using h1
  have HV:Eqn R false:=by rw[Eqn,HF.out];simp[h1]
  clear h1 HF
  go_wp2_with fail
  go_ret
  exact⟨ret_bool HV.out.symm,HB0.out⟩
 have hd:(a != 0)=true:=by simpa using h1
 have hb:(!decide (a=0))=true:=by simp[h1]
 rw[hb] at HF
 by_cases h2:b=0
 ·have hd2:(b != 0)=false:=by simpa using h2
  have HV:Eqn R false:=by rw[Eqn,HF.out];simp[h2]
  clear h1 hb h2 HF
  go_wp2_with fail
  go_ret
  exact⟨ret_bool HV.out.symm,HB0.out⟩
 have hd2:(b != 0)=true:=by simpa using h2
 have hb2:(!decide (b=0))=true:=by simp[h2]
 rw[hb2] at HF
 clear h1 hb h2 hb2
 cases h3:decide (x3≤a) with
 | false=>
  rw[h3] at HF
  go_wp2_with fail
  go_ret
  exact⟨ret_bool HF.out.symm,HB0.out⟩
 | true=>
  rw[h3] at HF
  cases h4:decide (a≤x4) with
  | false=>
   rw[h4] at HF
   go_wp2_with fail
   go_ret
   exact⟨ret_bool HF.out.symm,HB0.out⟩
  | true=>
   rw[h4] at HF
   go_wp2_with fail
   go_ret
   exact⟨ret_bool (by rw[HF.out];first|rfl | simp),HB0.out⟩
theorem rloss_any (s:PrbS) (m ch:Int) (A:Option Addr) (n c:Nat) (w:World) (rl:List R5) (l:List (Int×Int)) (hn:n≤9223372036854775807) (hN:s.rs.n1≤9223372036854775807) (hl:RowS 2 chC w w.heap.size A n l) (hr:RowS 5 R5.cell w w.heap.size s.rs.a1 s.rs.n1 rl):
  Calls Tryz.prog 127 #[s.val,.int .i64 m,.int .i64 ch,.slice A n c] w (RetPost (.int .i64 (lossGo m ch l 0 rl)) w.heap.size w):=by
 obtain⟨Ad,nd,cd,⟨A0,n0,c0,A1,n1,c1,A2,n2,c2⟩⟩:=s
 dsimp only at hr hN
 obtain⟨W0,hW0⟩:∃ W0,W0=w.alloc (.cells #[.slice Ad nd cd,.slice A0 n0 c0,.slice A1 n1 c1,.slice A2 n2 c2] 29):=⟨_,rfl⟩
 have hB0:Below w.heap.size w W0:=by rw[hW0];exact(Below.refl _ w).alloc (Nat.le_refl _) _
 have hX:Blk W0 w.heap.size 29 [.slice Ad nd cd,.slice A0 n0 c0,.slice A1 n1 c1,.slice A2 n2 c2]:=by rw[hW0];exact blk_new w _ _
 have HQ:Hid (∀ W,Below W0.heap.size W0 W→W.cell? ⟨w.heap.size,2,none⟩=some (.slice A1 n1 c1)∧w.heap.size<W.heap.size):=Lib.hid (fun W hb=>⟨(hX.keep hb).cell rfl,(hX.keep hb).lt⟩)
 have HON:Hid (∀(i:Int) W,Below W0.heap.size W0 W→Calls Tryz.prog 64 #[.slice A n c,.int .i64 i] W fun e w'=>e=.returned (.int .i64 (onF l i))∧W=w'):=Lib.hid (fun i W hb=>ron_any A n c i W l hn ((hl.keep hB0).keep hb))
 have Hr:=Lib.hid (hr.keep hB0)
 have Hlen:=Eqn.mk hr.1
 have HBW:Hid (∀ W,Below W0.heap.size W0 W→Below w.heap.size w W):=Lib.hid (fun W hb=>hB0.trans (hb.mono hB0.size))
 have q2:W0.cell? ⟨w.heap.size,2,none⟩=some (.slice A1 n1 c1):=hX.cell rfl
 have q5:=hX.lt
 unfold PrbS.val
 dsimp only
 clear hl hr hB0 hX
 go_enter Tryz.func127,Tryz.ntmps127
 go_upto_region 1 with fail
 rw[←hW0]
 clear hW0 q2 q5
 go_wp2_with fail
 go_loopw [9,10] (fun sv i wr=>∃(k:Nat) (sm:Int),k≤n1∧i=.int .i64 k∧sv=.int .i64 sm∧Eqn (lossGo m ch l 0 rl) (lossGo m ch l sm (rl.drop k))∧Below W0.heap.size W0 wr) (fun _ i _=>n1 - (intOf i).toNat)
 case atStart=>exact⟨0,0,Nat.zero_le _,rfl,rfl,rfl,Below.refl _ _⟩
 case round=>
  obtain⟨k,sm,hk,rfl,rfl,HR,hB⟩:=hrel
  obtain⟨wo,rfl⟩:∃ wo:World,wo=wr:=⟨_,rfl⟩
  have hbs:=hB.size
  obtain⟨q2,q5⟩:=HQ.out _ hB
  by_cases hlt:k<n1
  ·obtain⟨p,hp,hpd⟩:=drop_at (xs:=rl) (k:=k) (by rw[Hlen.out];exact hlt)
   obtain⟨b,off,hA,hbl,hc⟩:=(Hr.out.below hB).2 (by omega)
   subst hA
   have HR2:=HR.out
   rw[hpd,lossGo] at HR2
   obtain⟨x0,x1,x2,x3,x4⟩:=p
   have e0:=hc k _ hp 0 (by omega)
   have e1:=hc k _ hp 1 (by omega)
   have e2:=hc k _ hp 2 (by omega)
   have e3:=hc k _ hp 3 (by omega)
   have e4:=hc k _ hp 4 (by omega)
   simp only[R5.cell,Nat.add_zero] at e0 e1 e2 e3 e4
   have hLB:lossB m ch l ⟨x0,x1,x2,x3,x4⟩=(decide (x0=m)&&(decide (onF l x1=ch)&&(decide (x3≤ch)&&decide (ch≤x4)))):=rfl
   rw[hLB] at HR2
   dsimp only at HR2
   obtain⟨V1,hV1⟩:∃ V1,V1=wo.alloc (.cells #[.int .i64 x0,.int .i64 x1,.int .i64 x2,.int .i64 x3,.int .i64 x4] 69):=⟨_,rfl⟩
   have hbv:Below W0.heap.size W0 V1:=by rw[hV1];exact hB.alloc hbs _
   have h11:Blk V1 wo.heap.size 69 [.int .i64 x0,.int .i64 x1,.int .i64 x2,.int .i64 x3,.int .i64 x4]:=by rw[hV1];exact blk_new wo _ _
   have y0:V1.cell? ⟨wo.heap.size,0,none⟩=some (.int .i64 x0):=h11.cell rfl
   have y1:V1.cell? ⟨wo.heap.size,1,none⟩=some (.int .i64 x1):=h11.cell rfl
   have y2:V1.cell? ⟨wo.heap.size,2,none⟩=some (.int .i64 x2):=h11.cell rfl
   have y3:V1.cell? ⟨wo.heap.size,3,none⟩=some (.int .i64 x3):=h11.cell rfl
   have y4:V1.cell? ⟨wo.heap.size,4,none⟩=some (.int .i64 x4):=h11.cell rfl
   have y5:=h11.lt
   have HOx:=Lib.hid (HON.out x1 V1 hbv)
   have HV:=Lib.hid hbv
   generalize onF l x1=o at *
   have HRR:=Eqn.mk HR2
   have j0:(k:Int)<(n1:Int):=by omega
   have hbw:b<wo.heap.size:=by omega
   clear hc hp hpd HR HR2 hB hLB hbv h11
   by_cases h1:x0=m
   ·have hb1:decide (x0=m)=true:=by simpa using h1
    rw[hb1] at HRR
    clear hb1
    subst h1
    go_wp2_with fail
    rw[←hV1]
    clear hV1 e0 e1 e2 e3 e4 q2 q5
    go_wp2_with fail
    refine HOx.out.mono ?_
    rintro e w1 ⟨rfl,rfl⟩
    by_cases h2:o=ch
    ·have hb2:decide (o=ch)=true:=by simpa using h2
     rw[hb2] at HRR
     clear hb2 HOx
     subst h2
     cases h3:decide (x3≤o) with
     | false=>
      rw[h3] at HRR
      go_wp2_with fail
      go_roundw
      case rel=>exact⟨k+1,_,by omega,by go_num,rfl,HRR.out,HV.out⟩
      case measure=>simp[intOf];omega
     | true=>
      rw[h3] at HRR
      cases h4:decide (o≤x4) with
      | false=>
       rw[h4] at HRR
       go_wp2_with fail
       go_roundw
       case rel=>exact⟨k+1,_,by omega,by go_num,rfl,HRR.out,HV.out⟩
       case measure=>simp[intOf];omega
      | true=>
       rw[h4] at HRR
       go_wp2_with fail
       go_roundw
       case rel=>exact⟨k+1,_,by omega,by go_num,rfl,HRR.out,HV.out⟩
       case measure=>simp[intOf];omega
    ·have hd2:(o == ch)=false:=by simpa using h2
     have hb2:decide (o=ch)=false:=by simpa using h2
     rw[hb2] at HRR
     clear h2 hb2
     go_wp2_with fail
     go_roundw
     case rel=>exact⟨k+1,_,by omega,by go_num,rfl,HRR.out,HV.out⟩
     case measure=>simp[intOf];omega
   ·have hd1:(x0 == m)=false:=by simpa using h1
    have hb1:decide (x0=m)=false:=by simpa using h1
    rw[hb1] at HRR
    go_wp2_with fail
    rw[←hV1]
    clear hV1 e0 e1 e2 e3 e4 h1 hb1 q2 q5
    go_wp2_with fail
    go_roundw
    case rel=>exact⟨k+1,_,by omega,by go_num,rfl,HRR.out,HV.out⟩
    case measure=>simp[intOf];omega
  ·obtain rfl:k=n1:=by omega
   have HV:Eqn (lossGo m ch l 0 rl) sm:=by rw[Eqn,HR.out,drop_end (by rw[Hlen.out];omega)];rfl
   have HE:=Lib.hid (HBW.out _ hB)
   clear HR hB
   go_wp2_with fail
   go_ret
   exact⟨ret_int HV.out.symm,HE.out⟩
theorem rbc_any (s:PrbS) (x:R4) (A:Option Addr) (n c:Nat) (w:World) (rl:List R5) (l:List (Int×Int)) (hn:n≤9223372036854775807) (hN:s.rs.n1≤9223372036854775807) (hl:RowS 2 chC w w.heap.size A n l) (hr:RowS 5 R5.cell w w.heap.size s.rs.a1 s.rs.n1 rl):
  Calls Tryz.prog 111 #[s.val,x.val,.slice A n c] w (RetPost (.bool (bcF rl x l)) w.heap.size w):=by
 obtain⟨x0,x1,x2,x3⟩:=x
 have HLS:Hid (∀(ch:Int) W,Below w.heap.size w W→Calls Tryz.prog 127 #[s.val,.int .i64 x0,.int .i64 ch,.slice A n c] W (RetPost (.int .i64 (lossGo x0 ch l 0 rl)) W.heap.size W)):=Lib.hid (fun ch W hb=>rloss_any s x0 ch A n c W rl l hn hN (hl.keep hb) (hr.keep hb))
 have HON:Hid (∀ W,Below w.heap.size w W→Calls Tryz.prog 64 #[.slice A n c,.int .i64 x0] W fun e w'=>e=.returned (.int .i64 (onF l x0))∧W=w'):=Lib.hid (fun W hb=>ron_any A n c x0 W l hn (hl.keep hb))
 clear hl hr hN
 obtain⟨Ad,nd,cd,⟨A0,n0,c0,A1,n1,c1,A2,n2,c2⟩⟩:=s
 unfold PrbS.val at HLS ⊢
 unfold R4.val
 dsimp only at *
 obtain⟨W0,hW0⟩:∃ W0,W0=(w.alloc (.cells #[.slice Ad nd cd,.slice A0 n0 c0,.slice A1 n1 c1,.slice A2 n2 c2] 29)).alloc (.cells #[.int .i64 x0,.int .i64 x1,.int .i64 x2,.int .i64 x3] 71):=⟨_,rfl⟩
 have hB0:Below w.heap.size w W0:=by rw[hW0];exact((Below.refl _ w).alloc (Nat.le_refl _) _).alloc (by simp) _
 have hX:Blk W0 w.heap.size 29 [.slice Ad nd cd,.slice A0 n0 c0,.slice A1 n1 c1,.slice A2 n2 c2]:=by rw[hW0];exact(blk_new w _ _).alloc _
 have hY:Blk W0 (w.heap.size+1) 71 [.int .i64 x0,.int .i64 x1,.int .i64 x2,.int .i64 x3]:=by
  rw[hW0]
  have:=blk_new (w.alloc (.cells #[.slice Ad nd cd,.slice A0 n0 c0,.slice A1 n1 c1,.slice A2 n2 c2] 29)) [.int .i64 x0,.int .i64 x1,.int .i64 x2,.int .i64 x3] 71
  rwa [World.size_alloc] at this
 have q0:W0.cell? ⟨w.heap.size,0,none⟩=some (.slice Ad nd cd):=hX.cell rfl
 have q1:W0.cell? ⟨w.heap.size,1,none⟩=some (.slice A0 n0 c0):=hX.cell rfl
 have q2:W0.cell? ⟨w.heap.size,2,none⟩=some (.slice A1 n1 c1):=hX.cell rfl
 have q3:W0.cell? ⟨w.heap.size,3,none⟩=some (.slice A2 n2 c2):=hX.cell rfl
 have q4:=hX.lt
 have y0:W0.cell? ⟨w.heap.size+1,0,none⟩=some (.int .i64 x0):=hY.cell rfl
 have y1:W0.cell? ⟨w.heap.size+1,1,none⟩=some (.int .i64 x1):=hY.cell rfl
 have y2:W0.cell? ⟨w.heap.size+1,2,none⟩=some (.int .i64 x2):=hY.cell rfl
 have y3:W0.cell? ⟨w.heap.size+1,3,none⟩=some (.int .i64 x3):=hY.cell rfl
 have y4:=hY.lt
 have HY1:Hid (∀ W,Below W0.heap.size W0 W→W.cell? ⟨w.heap.size+1,1,none⟩=some (.int .i64 x1)):=Lib.hid (fun W hb=>(hY.keep hb).cell rfl)
 have HO:=Lib.hid (HON.out W0 hB0)
 have HF:Eqn (bcF rl ⟨x0,x1,x2,x3⟩ l) (!decide (onF l x0=0)&&(decide (x2≤onF l x0)&&(decide (onF l x0≤x3)&&decide (x1<lossGo x0 (onF l x0) l 0 rl)))):=rfl
 generalize bcF rl ⟨x0,x1,x2,x3⟩ l=R at *
 have HLo:=Lib.hid (HLS.out (onF l x0) W0.drew hB0.drew)
 have HBD:=Lib.hid hB0.drew
 have HB0:=Lib.hid hB0
 generalize lossGo x0 (onF l x0) l 0 rl=sm at *
 generalize onF l x0=a at *
 clear hB0 hX hY HON HLS
 go_enter Tryz.func111,Tryz.ntmps111
 go_upto_region 1 with fail
 rw[←hW0]
 clear hW0
 go_wp2_with fail
 refine HO.out.mono ?_
 rintro e w1 ⟨rfl,rfl⟩
 have HDR:=Lib.hid ((Below.refl W0.heap.size W0).drew)
 by_cases h1:a=0
 ·have hd:(a != 0)=false:=by simpa using h1
  have HV:Eqn R false:=by rw[Eqn,HF.out];simp[h1]
  clear h1 HF
  go_wp2_with fail
  refine Lx.region (C:=fun X=>X.cell? ⟨w.heap.size+1,1,none⟩=some (.int .i64 x1)) (hs:=[22]) (by kernel_rfl) (by kernel_rfl) y1 ?_
  repeat' (first|((first|refine Lx.ln (fun K hK=>?_) | (first|(refine Lx.lp (v:=?_) ?_ (fun K hK=>?_);rotate_left 1;intro w' hCw;try dsimp only at hCw) | (refine Lx.lr (v:=?_) ?_ (fun K hK=>?_);rotate_left 1));go_simp;first|done | with_reducible rfl);go_simp;refine hK _ ?_;clear hK K) | (refine Lx.le (fun K hK=>?_);go_simp;(first|fail);refine hK _ _ (y1) ?_;clear hK K))
  all_goals (refine Lx.lex_nil ?_)
  go_wp2_with fail
  go_ret
  exact⟨ret_bool HV.out.symm,HBD.out⟩
 have hd:(a != 0)=true:=by simpa using h1
 have hb:(!decide (a=0))=true:=by simp[h1]
 rw[hb] at HF
 clear h1 hb
 cases h3:decide (x2≤a) with
 | false=>
  rw[h3] at HF
  go_wp2_with fail
  refine Lx.region (C:=fun X=>X.cell? ⟨w.heap.size+1,1,none⟩=some (.int .i64 x1)) (hs:=[22]) (by kernel_rfl) (by kernel_rfl) y1 ?_
  repeat' (first|((first|refine Lx.ln (fun K hK=>?_) | (first|(refine Lx.lp (v:=?_) ?_ (fun K hK=>?_);rotate_left 1;intro w' hCw;try dsimp only at hCw) | (refine Lx.lr (v:=?_) ?_ (fun K hK=>?_);rotate_left 1));go_simp;first|done | with_reducible rfl);go_simp;refine hK _ ?_;clear hK K) | (refine Lx.le (fun K hK=>?_);go_simp;(first|fail);refine hK _ _ (y1) ?_;clear hK K))
  all_goals (refine Lx.lex_nil ?_)
  go_wp2_with fail
  go_ret
  exact⟨ret_bool HF.out.symm,HBD.out⟩
 | true=>
  rw[h3] at HF
  cases h4:decide (a≤x3) with
  | false=>
   rw[h4] at HF
   go_wp2_with fail
   refine Lx.region (C:=fun X=>X.cell? ⟨w.heap.size+1,1,none⟩=some (.int .i64 x1)) (hs:=[22]) (by kernel_rfl) (by kernel_rfl) y1 ?_
   repeat' (first|((first|refine Lx.ln (fun K hK=>?_) | (first|(refine Lx.lp (v:=?_) ?_ (fun K hK=>?_);rotate_left 1;intro w' hCw;try dsimp only at hCw) | (refine Lx.lr (v:=?_) ?_ (fun K hK=>?_);rotate_left 1));go_simp;first|done | with_reducible rfl);go_simp;refine hK _ ?_;clear hK K) | (refine Lx.le (fun K hK=>?_);go_simp;(first|fail);refine hK _ _ (y1) ?_;clear hK K))
   all_goals (refine Lx.lex_nil ?_)
   go_wp2_with fail
   go_ret
   exact⟨ret_bool HF.out.symm,HBD.out⟩
  | true=>
   rw[h4] at HF
   go_wp2_with fail
   refine Lx.region (C:=fun X=>X.cell? ⟨w.heap.size+1,1,none⟩=some (.int .i64 x1)) (hs:=[22]) (by kernel_rfl) (by kernel_rfl) y1 ?_
   repeat' (first|((first|refine Lx.ln (fun K hK=>?_) | (first|(refine Lx.lp (v:=?_) ?_ (fun K hK=>?_);rotate_left 1;intro w' hCw;try dsimp only at hCw) | (refine Lx.lr (v:=?_) ?_ (fun K hK=>?_);rotate_left 1));go_simp;first|done | with_reducible rfl);go_simp;refine hK _ ?_;clear hK K) | (refine Lx.le (fun K hK=>?_);go_simp;(first|(go_at_call 127;refine HLo.out.mono ?_;rintro e W2 ⟨rfl,hb2⟩;have z1:=HY1.out _ (HDR.out.trans (hb2.mono HDR.out.size));have HB2:=Lib.hid (HBD.out.trans (hb2.mono HBD.out.size))));refine hK _ _ (z1) ?_;clear hK K))
   all_goals (refine Lx.lex_nil ?_)
   go_wp2_with fail
   go_ret
   exact⟨ret_bool (by rw[HF.out];first|rfl | simp),HB2.out⟩
theorem rvl_any (A:Option Addr) (n c:Nat) (w:World) (l:List (Int×Int)) (hn:n≤9223372036854775807) (hl:RowS 2 chC w w.heap.size A n l):
  Calls Tryz.prog 28 #[.slice A n c] w (RetPost (.bool (vlGo none l)) w.heap.size w):=by
 have Hl:=Lib.hid hl
 have Hlen:=Eqn.mk hl.1
 have HST:=Lib.hid (fun x W=>rst_any x W)
 clear hl
 go_enter Tryz.func28,Tryz.ntmps28
 go_wp2_with fail
 go_loopw [3] (fun i wr=>∃ k:Nat,k≤n∧i=.int .i64 k∧Eqn (vlGo none l) (vlGo (prevOf Prod.fst l k) (l.drop k))∧Below w.heap.size w wr) (fun i _=>n - (intOf i).toNat)
 case atStart=>exact⟨0,Nat.zero_le _,rfl,rfl,Below.refl _ _⟩
 case round=>
  obtain⟨k,hk,rfl,HR,hB⟩:=hrel
  have HB:=Lib.hid hB
  have hbs:=hB.size
  by_cases hlt:k<n
  ·obtain⟨x,hx,hxd⟩:=drop_at (xs:=l) (k:=k) (by rw[Hlen.out];exact hlt)
   obtain⟨b,off,hA,hbl,hc⟩:=(Hl.out.below hB).2 (by omega)
   subst hA
   have HR2:=HR.out
   rw[hxd,vlGo] at HR2
   have hnx:prevOf Prod.fst l (k+1)=some x.1:=by rw[prevOf_succ,hx];rfl
   have c0:=hc k x hx 0 (by omega)
   have c1:=hc k x hx 1 (by omega)
   simp only[chC,Nat.add_zero] at c0 c1
   have hbw:b<wr.heap.size:=by omega
   obtain⟨q,hq,hprev⟩:∃ q:Int,(0<k→wr.cell? ⟨b,off+(k - 1) * 2,none⟩=some (.int .i64 q))∧(0<k→prevOf Prod.fst l k=some q):=by
    by_cases h0:0<k
    ·obtain⟨q,hq,_⟩:=drop_at (xs:=l) (k:=k - 1) (by rw[Hlen.out];omega)
     refine⟨q.1,fun _=>?_,fun _=>?_⟩
     ·have:=hc (k - 1) q hq 0 (by omega);simpa[chC] using this
     ·unfold prevOf;rw[if_neg (by omega),hq];rfl
    ·exact⟨0,fun h=>absurd h h0,fun h=>absurd h h0⟩
   obtain⟨xs,xc⟩:=x
   dsimp only at *
   have HQ:=Lib.hid hq
   have HPV:=Lib.hid hprev
   have HNX:=Eqn.mk hnx
   have HRR:=Eqn.mk HR2
   have HSx:=Lib.hid (HST.out xs)
   have j0:(k:Int)<(n:Int):=by omega
   clear hc hx hxd HR HR2 hB hq hprev hnx
   cases hs:stF xs with
   | false=>
    have HV:=Eqn.mk (HRR.out.trans (if_pos (.inl hs)))
    rw[hs] at HSx
    clear HRR hs
    go_wp2_with fail
    refine Lx.region (C:=fun _=>True) (hs:=[]) (by kernel_rfl) (by kernel_rfl) trivial ?_
    repeat' (first|((first|refine Lx.ln (fun K hK=>?_) | (first|(refine Lx.lp (v:=?_) ?_ (fun K hK=>?_);rotate_left 1;intro w' hCw;try dsimp only at hCw) | (refine Lx.lr (v:=?_) ?_ (fun K hK=>?_);rotate_left 1));go_simp;first|done | with_reducible rfl);go_simp;refine hK _ ?_;clear hK K) | (refine Lx.le (fun K hK=>?_);go_simp;(first|(go_at_call 33;refine(HSx.out _).mono ?_;rintro e w1 ⟨rfl,rfl⟩));refine hK _ _ (trivial) ?_;clear hK K))
    all_goals (refine Lx.lex_nil ?_)
    go_wp2_with fail
    go_ret
    exact⟨ret_bool HV.out.symm,HB.out.drew⟩
   | true=>
    rw[hs] at HSx
    by_cases b1:xc<2
    ·have HV:=Eqn.mk (HRR.out.trans (if_pos (.inr (.inl b1))))
     have hd1:decide (xc<2)=true:=decide_eq_true b1
     clear HRR hs b1
     go_wp2_with fail
     refine Lx.region (C:=fun _=>True) (hs:=[]) (by kernel_rfl) (by kernel_rfl) trivial ?_
     repeat' (first|((first|refine Lx.ln (fun K hK=>?_) | (first|(refine Lx.lp (v:=?_) ?_ (fun K hK=>?_);rotate_left 1;intro w' hCw;try dsimp only at hCw) | (refine Lx.lr (v:=?_) ?_ (fun K hK=>?_);rotate_left 1));go_simp;first|done | with_reducible rfl);go_simp;refine hK _ ?_;clear hK K) | (refine Lx.le (fun K hK=>?_);go_simp;(first|(go_at_call 33;refine(HSx.out _).mono ?_;rintro e w1 ⟨rfl,rfl⟩));refine hK _ _ (trivial) ?_;clear hK K))
     all_goals (refine Lx.lex_nil ?_)
     go_wp2_with fail
     go_ret
     exact⟨ret_bool HV.out.symm,HB.out.drew⟩
    have hd1:decide (xc<2)=false:=decide_eq_false b1
    by_cases b2:51<xc
    ·have HV:=Eqn.mk (HRR.out.trans (if_pos (.inr (.inr (.inl b2)))))
     have hd2:decide (51<xc)=true:=decide_eq_true b2
     clear HRR hs b1 b2
     go_wp2_with fail
     refine Lx.region (C:=fun _=>True) (hs:=[]) (by kernel_rfl) (by kernel_rfl) trivial ?_
     repeat' (first|((first|refine Lx.ln (fun K hK=>?_) | (first|(refine Lx.lp (v:=?_) ?_ (fun K hK=>?_);rotate_left 1;intro w' hCw;try dsimp only at hCw) | (refine Lx.lr (v:=?_) ?_ (fun K hK=>?_);rotate_left 1));go_simp;first|done | with_reducible rfl);go_simp;refine hK _ ?_;clear hK K) | (refine Lx.le (fun K hK=>?_);go_simp;(first|(go_at_call 33;refine(HSx.out _).mono ?_;rintro e w1 ⟨rfl,rfl⟩));refine hK _ _ (trivial) ?_;clear hK K))
     all_goals (refine Lx.lex_nil ?_)
     go_wp2_with fail
     go_ret
     exact⟨ret_bool HV.out.symm,HB.out.drew⟩
    have hd2:decide (51<xc)=false:=decide_eq_false b2
    have HNO:Hid (notUp (prevOf Prod.fst l k) xs=false→vlGo none l=vlGo (prevOf Prod.fst l (k+1)) (l.drop (k+1))):=Lib.hid (fun hu=>by
     rw[HNX.out]
     exact HRR.out.trans (if_neg (by
      rintro(h | h | h | h)
      ·rw[hs] at h;cases h
      ·exact b1 h
      ·exact b2 h
      ·rw[hu] at h;cases h)))
    have HYES:Hid (notUp (prevOf Prod.fst l k) xs=true→vlGo none l=false):=Lib.hid (fun hu=>HRR.out.trans (if_pos (.inr (.inr (.inr hu)))))
    clear HRR hs b1 b2
    by_cases h0:0<k
    ·have hp:=HPV.out h0
     have qc:=HQ.out h0
     have k1:decide ((0:Int)<(k:Int))=true:=decide_eq_true (by omega)
     have k5:decide (0<k)=true:=decide_eq_true h0
     obtain⟨k',hk'⟩:∃ k',k - 1=k':=⟨_,rfl⟩
     have e1:IntKind.i64.wrap ((k:Int) - 1)=(k':Int):=by rw[IntWalk.i64_in _ (by omega)];omega
     have e3:(k:Int) - 1=(k':Int):=by omega
     have e9:IntKind.i64.wrap (k':Int)=(k':Int):=by rw[IntWalk.i64_in _ (by omega)]
     have e4:(0:Int)≤(k':Int):=by omega
     have e5:(k':Int)<(n:Int):=by omega
     rw[hk'] at qc
     have hup0:notUp (prevOf Prod.fst l k) xs=decide (xs≤q):=by rw[hp];rfl
     by_cases b3:xs≤q
     ·have hd3:decide (xs≤q)=true:=decide_eq_true b3
      have HV:Eqn (vlGo none l) false:=HYES.out (by rw[hup0];exact hd3)
      clear HPV HQ hp hup0 hk' h0 b3 HNO HYES
      go_wp2_with fail
      refine Lx.region (C:=fun _=>True) (hs:=[]) (by kernel_rfl) (by kernel_rfl) trivial ?_
      repeat' (first|((first|refine Lx.ln (fun K hK=>?_) | (first|(refine Lx.lp (v:=?_) ?_ (fun K hK=>?_);rotate_left 1;intro w' hCw;try dsimp only at hCw) | (refine Lx.lr (v:=?_) ?_ (fun K hK=>?_);rotate_left 1));go_simp;first|done | with_reducible rfl);go_simp;refine hK _ ?_;clear hK K) | (refine Lx.le (fun K hK=>?_);go_simp;(first|(go_at_call 33;refine(HSx.out _).mono ?_;rintro e w1 ⟨rfl,rfl⟩));refine hK _ _ (trivial) ?_;clear hK K))
      all_goals (refine Lx.lex_nil ?_)
      go_wp2_with fail
      go_ret
      exact⟨ret_bool HV.out.symm,HB.out.drew⟩
     ·have hd3:decide (xs≤q)=false:=decide_eq_false b3
      have HV:Eqn (vlGo none l) (vlGo (prevOf Prod.fst l (k+1)) (l.drop (k+1))):=HNO.out (by rw[hup0];exact hd3)
      clear HPV HQ hp hup0 hk' h0 b3 HNO HYES
      go_wp2_with fail
      refine Lx.region (C:=fun _=>True) (hs:=[]) (by kernel_rfl) (by kernel_rfl) trivial ?_
      repeat' (first|((first|refine Lx.ln (fun K hK=>?_) | (first|(refine Lx.lp (v:=?_) ?_ (fun K hK=>?_);rotate_left 1;intro w' hCw;try dsimp only at hCw) | (refine Lx.lr (v:=?_) ?_ (fun K hK=>?_);rotate_left 1));go_simp;first|done | with_reducible rfl);go_simp;refine hK _ ?_;clear hK K) | (refine Lx.le (fun K hK=>?_);go_simp;(first|(go_at_call 33;refine(HSx.out _).mono ?_;rintro e w1 ⟨rfl,rfl⟩));refine hK _ _ (trivial) ?_;clear hK K))
      all_goals (refine Lx.lex_nil ?_)
      go_wp2_with fail
      clear e1 e3 e9 e4 e5
      go_roundw
      case rel=>exact⟨k+1,by omega,by go_num,HV,HB.out.drew⟩
      case measure=>simp[intOf];omega
    ·obtain rfl:k=0:=by omega
     have HV:Eqn (vlGo none l) (vlGo (prevOf Prod.fst l (0+1)) (l.drop (0+1))):=HNO.out rfl
     rw[Nat.zero_mul,Nat.add_zero] at c0 c1
     clear HPV HQ h0 HNO HYES
     go_wp2_with fail
     refine Lx.region (C:=fun _=>True) (hs:=[]) (by kernel_rfl) (by kernel_rfl) trivial ?_
     repeat' (first|((first|refine Lx.ln (fun K hK=>?_) | (first|(refine Lx.lp (v:=?_) ?_ (fun K hK=>?_);rotate_left 1;intro w' hCw;try dsimp only at hCw) | (refine Lx.lr (v:=?_) ?_ (fun K hK=>?_);rotate_left 1));go_simp;first|done | with_reducible rfl);go_simp;refine hK _ ?_;clear hK K) | (refine Lx.le (fun K hK=>?_);go_simp;(first|(go_at_call 33;refine(HSx.out _).mono ?_;rintro e w1 ⟨rfl,rfl⟩));refine hK _ _ (trivial) ?_;clear hK K))
     all_goals (refine Lx.lex_nil ?_)
     go_wp2_with fail
     go_roundw
     case rel=>exact⟨0+1,by omega,by go_num,HV,HB.out.drew⟩
     case measure=>simp[intOf];omega
  ·have HV:Eqn (vlGo none l) true:=by rw[Eqn,HR.out,drop_end (by rw[Hlen.out];omega)];rfl
   clear HR
   go_wp2_with fail
   go_ret
   exact⟨ret_bool HV.out.symm,HB.out⟩
theorem rfirst_any (s:PrbS) (A:Option Addr) (n c:Nat) (all:Bool) (w:World) (ds:List Dom) (r:Rul) (l:List (Int×Int)) (hn:n≤9223372036854775807) (hN:s.nd≤9223372036854775807) (hl:RowS 2 chC w w.heap.size A n l) (h:PrbAt w w.heap.size s ds r) (hd:∀ d∈ds,d.len≤9223372036854775807):
  Calls Tryz.prog 65 #[s.val,.slice A n c,.bool all] w fun e w'=>∃ k a,e=.returned (.agg #[.int .i64 k,.int .i64 a])∧((okF ds r l all=true∧k=0∧a=0)∨(okF ds r l all=false∧k≠0))∧Below w.heap.size w w':=by
 obtain⟨Ad,nd,cd,⟨A0,n0,c0,A1,n1,c1,A2,n2,c2⟩⟩:=s
 obtain⟨W0,hW0⟩:∃ W0,W0=(w.alloc (.cells #[.slice Ad nd cd,.slice A0 n0 c0,.slice A1 n1 c1,.slice A2 n2 c2] 29)).alloc (.cells #[.int .i64 0,.int .i64 0] 119):=⟨_,rfl⟩
 have hB0:Below w.heap.size w W0:=by rw[hW0];exact((Below.refl _ w).alloc (Nat.le_refl _) _).alloc (by simp) _
 have hX:Blk W0 w.heap.size 29 [.slice Ad nd cd,.slice A0 n0 c0,.slice A1 n1 c1,.slice A2 n2 c2]:=by rw[hW0];exact(blk_new w _ _).alloc _
 have hY:Blk W0 (w.heap.size+1) 119 [.int .i64 0,.int .i64 0]:=by
  rw[hW0]
  have:=blk_new (w.alloc (.cells #[.slice Ad nd cd,.slice A0 n0 c0,.slice A1 n1 c1,.slice A2 n2 c2] 29)) [.int .i64 0,.int .i64 0] 119
  rwa [World.size_alloc] at this
 have hs0:W0.heap.size=w.heap.size+2:=by rw[hW0];simp
 have HC1:Hid (∀ W,Below W0.heap.size W0 W→W.cell? ⟨w.heap.size,0,none⟩=some (.slice Ad nd cd)∧W.cell? ⟨w.heap.size,1,none⟩=some (.slice A0 n0 c0)∧W.cell? ⟨w.heap.size,2,none⟩=some (.slice A1 n1 c1)∧W.cell? ⟨w.heap.size,3,none⟩=some (.slice A2 n2 c2)∧w.heap.size<W.heap.size):=Lib.hid (fun W hb=>⟨(hX.keep hb).cell rfl,(hX.keep hb).cell rfl,(hX.keep hb).cell rfl,(hX.keep hb).cell rfl,(hX.keep hb).lt⟩)
 have HEx:Hid (∀(kd a:Int) W,Below W0.heap.size W0 W→Blk W (w.heap.size+1) 119 [.int .i64 0,.int .i64 0]∧Blk ((W.setCell ⟨w.heap.size+1,0,none⟩ (.int .i64 kd)).setCell ⟨w.heap.size+1,1,none⟩ (.int .i64 a)) (w.heap.size+1) 119 [.int .i64 kd,.int .i64 a]∧Below w.heap.size w ((W.setCell ⟨w.heap.size+1,0,none⟩ (.int .i64 kd)).setCell ⟨w.heap.size+1,1,none⟩ (.int .i64 a))):=Lib.hid (fun kd a W hb=>by
  have hy:=hY.keep hb
  have h0:=hB0.trans (hb.mono (by omega))
  exact⟨hy,(hy.set_ 0 _).set_ 1 _,(h0.setCell (p:=⟨w.heap.size+1,0,none⟩) (by dsimp only;omega) _).setCell (p:=⟨w.heap.size+1,1,none⟩) (by dsimp only;omega) _⟩)
 have HPA:Hid (∀ W,Below W0.heap.size W0 W→PrbAt W W0.heap.size ⟨Ad,nd,cd,⟨A0,n0,c0,A1,n1,c1,A2,n2,c2⟩⟩ ds r):=Lib.hid (fun W hb=>⟨(h.1.keep hB0).below hb,(h.2.keep hB0).below hb⟩)
 have Hl:Hid (∀ W,Below W0.heap.size W0 W→RowS 2 chC W W0.heap.size A n l):=Lib.hid (fun W hb=>(hl.keep hB0).below hb)
 have HON:Hid (∀(i:Int) W,Below W0.heap.size W0 W→Calls Tryz.prog 64 #[.slice A n c,.int .i64 i] W fun e w'=>e=.returned (.int .i64 (onF l i))∧W=w'):=Lib.hid (fun i W hb=>ron_any A n c i W l hn ((Hl.out W hb).up hb.size))
 have HHA:Hid (∀(x:Int) (d:Dom) W,d∈ds→Below W0.heap.size W0 W→Calls Tryz.prog 15 #[.slice d.adr d.len d.cap,.int .i64 x] W fun e w'=>e=.returned (.bool (hasL d.chs x))∧W=w'):=Lib.hid (fun x d W hm hb=>rhas_any d.adr d.len d.cap x W d.chs (hd d hm) (((HPA.out W hb).1.2 d hm).up hb.size))
 have HFI:Hid (∀(x:Int) W,Below W0.heap.size W0 W→Calls Tryz.prog 21 #[.agg #[.slice Ad nd cd,.slice A0 n0 c0,.slice A1 n1 c1,.slice A2 n2 c2],.int .i64 x] W (RetPost (.int .i64 (findD x 0 ds)) W.heap.size W)):=Lib.hid (fun x W hb=>rfind_any ⟨Ad,nd,cd,⟨A0,n0,c0,A1,n1,c1,A2,n2,c2⟩⟩ x W ds hN (((HPA.out W hb).1).up hb.size))
 have HBP:Hid (∀(x:R5) W,Below W0.heap.size W0 W→Calls Tryz.prog 100 #[x.val,.slice A n c] W (RetPost (.bool (bpF x l)) W.heap.size W)):=Lib.hid (fun x W hb=>rbp_any x A n c W l hn ((Hl.out W hb).up hb.size))
 have HBC:Hid (∀(x:R4) W,Below W0.heap.size W0 W→Calls Tryz.prog 111 #[.agg #[.slice Ad nd cd,.slice A0 n0 c0,.slice A1 n1 c1,.slice A2 n2 c2],x.val,.slice A n c] W (RetPost (.bool (bcF r.loads x l)) W.heap.size W)):=Lib.hid (fun x W hb=>rbc_any ⟨Ad,nd,cd,⟨A0,n0,c0,A1,n1,c1,A2,n2,c2⟩⟩ x A n c W r.loads l hn (by exact h.2.2.2.2.2.1) ((Hl.out W hb).up hb.size) (((HPA.out W hb).2.2.1).up hb.size))
 have HND:Eqn ds.length nd:=h.1.1.1
 have HL1:=Eqn.mk hl.1
 have hl0:=h.2.2.2.2.1
 have hl2:=h.2.2.2.2.2.2
 have Hz0:Eqn r.pairs.length n0:=h.2.1.1
 have Hz2:Eqn r.caps.length n2:=h.2.2.2.1.1
 have HF:Hid ((ds.all (fun d=>!bdF all l d)=false→okF ds r l all=false)∧(l.all (fun x=>inD ds x.1)=false→okF ds r l all=false)∧(r.pairs.all (fun x=>!bpF x l)=false→okF ds r l all=false)∧(r.caps.all (fun x=>!bcF r.loads x l)=false→okF ds r l all=false)∧(ds.all (fun d=>!bdF all l d)=true→l.all (fun x=>inD ds x.1)=true→r.pairs.all (fun x=>!bpF x l)=true→r.caps.all (fun x=>!bcF r.loads x l)=true→okF ds r l all=true)):=Lib.hid (by
  unfold okF
  refine⟨fun h=>by rw[h];rfl,fun h=>by rw[h];simp,fun h=>by rw[h];simp,fun h=>by rw[h];simp,fun h1 h2 h3 h4=>by rw[h1,h2,h3,h4];rfl⟩)
 generalize okF ds r l all=OK at *
 obtain⟨q0,q1,q2,q3,q4⟩:=HC1.out W0 (Below.refl _ _)
 have B0:=Lib.hid (Below.refl W0.heap.size W0)
 unfold PrbS.val
 unfold R5.val at HBP
 unfold R4.val at HBC
 dsimp only at hN hl0 hl2 ⊢
 clear h hl hB0 hX hY hd
 go_enter Tryz.func65,Tryz.ntmps65
 go_upto_region 1 with fail
 rw[←hW0]
 clear hW0 q0 q1 q2 q3 q4
 go_wp2_with fail
 go_loopw [7] (fun i wr=>∃ k:Nat,k≤nd∧i=.int .i64 k∧Eqn (ds.all (fun d=>!bdF all l d)) ((ds.drop k).all (fun d=>!bdF all l d))∧Below W0.heap.size W0 wr) (fun i _=>nd - (intOf i).toNat)
 case atStart=>exact⟨0,Nat.zero_le _,rfl,rfl,B0.out⟩
 case round=>
  obtain⟨k,hk,rfl,HR,hB⟩:=hrel
  obtain⟨wo,rfl⟩:∃ wo:World,wo=wr:=⟨_,rfl⟩
  have HB:=Lib.hid hB
  have hbs:=hB.size
  obtain⟨q0,_,_,_,q4⟩:=HC1.out _ hB
  by_cases hlt:k<nd
  ·obtain⟨p,hp,hpd⟩:=drop_at (xs:=ds) (k:=k) (by rw[HND.out];exact hlt)
   obtain⟨b,off,hA,hbl,hc⟩:=(HPA.out _ hB).1.1.2 (by dsimp only;omega)
   dsimp only at hA
   subst hA
   have e0:=hc k _ hp 0 (by omega)
   have e1:=hc k _ hp 1 (by omega)
   simp only[Dom.cell,Nat.add_zero] at e0 e1
   have HR2:=HR.out
   rw[hpd,List.all_cons] at HR2
   have hbd:bdF all l p=((decide (onF l p.st=0)&&all)||(!decide (onF l p.st=0)&&!hasL p.chs (onF l p.st))):=rfl
   rw[hbd] at HR2
   have HOx:=Lib.hid (HON.out p.st wo hB)
   have HHx:=Lib.hid (HHA.out (onF l p.st) p wo (List.mem_of_getElem? hp) hB)
   obtain⟨st,adr,len,cap,chs⟩:=p
   dsimp only at *
   generalize hasL chs (onF l st)=hs at *
   generalize onF l st=o at *
   have HRR:=Eqn.mk HR2
   have j0:(k:Int)<(nd:Int):=by omega
   have hbw:b<wo.heap.size:=by omega
   clear hc hp hpd HR HR2 hB hbd
   go_wp2_with fail
   refine HOx.out.mono ?_
   rintro e w1 ⟨rfl,rfl⟩
   by_cases h1:o=0
   ·have hb1:decide (o=0)=true:=by simpa using h1
    rw[hb1] at HRR
    clear hb1 HOx HHx
    subst h1
    cases all with
    | true=>
     have HV:=Eqn.mk (HF.out.1 (by rw[HRR.out];rfl))
     obtain⟨hb6,hb7,hbe⟩:=HEx.out 1 k _ HB.out
     have f0:=hb6.cell (i:=0) rfl
     have f1:=hb6.cell (i:=1) rfl
     have f4:=hb6.lt
     have f5:∀ o,(wo).frozen? ⟨w.heap.size+1,o,none⟩=false:=hb6.frozen
     have HF:=Lib.hid (And.intro hb7 hbe)
     clear hb6 hb7 hbe
     go_wp2_with fail
     clear f0 f1 f4 f5
     have k0:=HF.out.1.cell (i:=0) rfl
     have k1:=HF.out.1.cell (i:=1) rfl
     refine bodyPost_ret (v:=.agg #[.int .i64 1,.int .i64 k]) (by simp[results,Tryz.results65,go_sem,k0,k1]) rfl ⟨_,_,rfl,.inr ⟨HV.out,by decide⟩,HF.out.2⟩
    | false=>
     have HV:Eqn (ds.all (fun d=>!bdF false l d)) ((ds.drop (k+1)).all (fun d=>!bdF false l d)):=by rw[Eqn,HRR.out];simp
     clear HRR
     go_wp2_with fail
     go_roundw
     case rel=>exact⟨k+1,by omega,by go_num,HV,HB.out⟩
     case measure=>simp[intOf];omega
   ·have hd1:(o == 0)=false:=by simpa using h1
    have hd2:(o != 0)=true:=by simpa using h1
    have hb1:decide (o=0)=false:=by simpa using h1
    rw[hb1] at HRR
    clear h1 hb1 HOx
    go_wp2_with fail
    refine HHx.out.mono ?_
    rintro e w1 ⟨rfl,rfl⟩
    cases hs with
    | false=>
     have HV:=Eqn.mk (HF.out.1 (by rw[HRR.out];rfl))
     obtain⟨hb6,hb7,hbe⟩:=HEx.out 1 k _ HB.out
     have f0:=hb6.cell (i:=0) rfl
     have f1:=hb6.cell (i:=1) rfl
     have f4:=hb6.lt
     have f5:∀ o,(wo).frozen? ⟨w.heap.size+1,o,none⟩=false:=hb6.frozen
     have HF:=Lib.hid (And.intro hb7 hbe)
     clear hb6 hb7 hbe
     go_wp2_with fail
     clear f0 f1 f4 f5
     have k0:=HF.out.1.cell (i:=0) rfl
     have k1:=HF.out.1.cell (i:=1) rfl
     refine bodyPost_ret (v:=.agg #[.int .i64 1,.int .i64 k]) (by simp[results,Tryz.results65,go_sem,k0,k1]) rfl ⟨_,_,rfl,.inr ⟨HV.out,by decide⟩,HF.out.2⟩
    | true=>
     have HV:Eqn (ds.all (fun d=>!bdF all l d)) ((ds.drop (k+1)).all (fun d=>!bdF all l d)):=by rw[Eqn,HRR.out];simp
     clear HRR
     go_wp2_with fail
     go_roundw
     case rel=>exact⟨k+1,by omega,by go_num,HV,HB.out⟩
     case measure=>simp[intOf];omega
  ·have HD1:Eqn (ds.all (fun d=>!bdF all l d)) true:=by rw[Eqn,HR.out,drop_end (by rw[HND.out];omega)];rfl
   clear HR hB
   go_wp2_with fail
   clear q0 q4
   go_loopw [9] (fun i wr=>∃ k:Nat,k≤n∧i=.int .i64 k∧Eqn (l.all (fun x=>inD ds x.1)) ((l.drop k).all (fun x=>inD ds x.1))∧Below W0.heap.size W0 wr) (fun i _=>n - (intOf i).toNat)
   case atStart=>exact⟨0,Nat.zero_le _,rfl,rfl,HB.out⟩
   case round=>
    clear HB
    obtain⟨k,hk,rfl,HR,hB⟩:=hrel
    obtain⟨wo,rfl⟩:∃ wo:World,wo=wr:=⟨_,rfl⟩
    have HB:=Lib.hid hB
    have hbs:=hB.size
    by_cases hlt2:k<n
    ·obtain⟨x,hx,hxd⟩:=drop_at (xs:=l) (k:=k) (by rw[HL1.out];exact hlt2)
     obtain⟨b,off,hA,hbl,hc⟩:=(Hl.out _ hB).2 (by omega)
     subst hA
     have HR2:=HR.out
     rw[hxd,List.all_cons] at HR2
     have hid':inD ds x.1=decide (0≤findD x.1 0 ds):=rfl
     rw[hid'] at HR2
     have HFx:=Lib.hid (HFI.out x.1)
     have e0:=hc k x hx 0 (by omega)
     simp only[chC,Nat.add_zero] at e0
     obtain⟨q0,q1,q2,q3,q4⟩:=HC1.out _ hB
     have hbw:b<wo.heap.size:=by omega
     have j0:(k:Int)<(n:Int):=by omega
     generalize findD x.1 0 ds=fx at *
     have HRR:=Eqn.mk HR2
     have HBd:=Lib.hid hB.drew
     clear hc hx hxd HR HR2 hB hid'
     by_cases hfx:fx<0
     ·have HV:=Eqn.mk (HF.out.2.1 (by rw[HRR.out,decide_eq_false (by omega)];rfl))
      have hd1:decide (fx<0)=true:=decide_eq_true hfx
      clear HRR
      go_wp2_with fail
      refine Lx.region (C:=fun _=>True) (hs:=[]) (by kernel_rfl) (by kernel_rfl) trivial ?_
      repeat' (first|((first|refine Lx.ln (fun K hK=>?_) | (first|(refine Lx.lp (v:=?_) ?_ (fun K hK=>?_);rotate_left 1;intro w' hCw;try dsimp only at hCw) | (refine Lx.lr (v:=?_) ?_ (fun K hK=>?_);rotate_left 1));go_simp;first|done | with_reducible rfl);go_simp;refine hK _ ?_;clear hK K) | (refine Lx.le (fun K hK=>?_);go_simp;(first|(go_at_call 21;refine(HFx.out _ HBd.out).mono ?_;rintro e Wc ⟨rfl,hbc⟩;have HBc:=Lib.hid (HBd.out.trans (hbc.mono HBd.out.size))));refine hK _ _ (trivial) ?_;clear hK K))
      all_goals (refine Lx.lex_nil ?_)
      clear q0 q1 q2 q3 q4 e0
      obtain⟨hb6,hb7,hbe⟩:=HEx.out 2 k _ HBc.out
      have f0:=hb6.cell (i:=0) rfl
      have f1:=hb6.cell (i:=1) rfl
      have f4:=hb6.lt
      have f5:∀ o,(Wc).frozen? ⟨w.heap.size+1,o,none⟩=false:=hb6.frozen
      have HF:=Lib.hid (And.intro hb7 hbe)
      clear hb6 hb7 hbe
      go_wp2_with fail
      clear f0 f1 f4 f5
      have k0:=HF.out.1.cell (i:=0) rfl
      have k1:=HF.out.1.cell (i:=1) rfl
      refine bodyPost_ret (v:=.agg #[.int .i64 2,.int .i64 k]) (by simp[results,Tryz.results65,go_sem,k0,k1]) rfl ⟨_,_,rfl,.inr ⟨HV.out,by decide⟩,HF.out.2⟩
     ·have HV:Eqn (l.all (fun x=>inD ds x.1)) ((l.drop (k+1)).all (fun x=>inD ds x.1)):=by rw[Eqn,HRR.out,decide_eq_true (by omega)];rfl
      have hd1:decide (fx<0)=false:=decide_eq_false hfx
      clear HRR
      go_wp2_with fail
      refine Lx.region (C:=fun _=>True) (hs:=[]) (by kernel_rfl) (by kernel_rfl) trivial ?_
      repeat' (first|((first|refine Lx.ln (fun K hK=>?_) | (first|(refine Lx.lp (v:=?_) ?_ (fun K hK=>?_);rotate_left 1;intro w' hCw;try dsimp only at hCw) | (refine Lx.lr (v:=?_) ?_ (fun K hK=>?_);rotate_left 1));go_simp;first|done | with_reducible rfl);go_simp;refine hK _ ?_;clear hK K) | (refine Lx.le (fun K hK=>?_);go_simp;(first|(go_at_call 21;refine(HFx.out _ HBd.out).mono ?_;rintro e Wc ⟨rfl,hbc⟩;have HBc:=Lib.hid (HBd.out.trans (hbc.mono HBd.out.size))));refine hK _ _ (trivial) ?_;clear hK K))
      all_goals (refine Lx.lex_nil ?_)
      clear q0 q1 q2 q3 q4 e0
      go_wp2_with fail
      go_roundw
      case rel=>exact⟨k+1,by omega,by go_num,HV,HBc.out⟩
      case measure=>simp[intOf];omega
    ·have HD2:Eqn (l.all (fun x=>inD ds x.1)) true:=by rw[Eqn,HR.out,drop_end (by rw[HL1.out];omega)];rfl
     clear HR hB
     go_wp2_with fail
     go_loopw [10] (fun i wr=>∃ k:Nat,k≤n0∧i=.int .i64 k∧Eqn (r.pairs.all (fun x=>!bpF x l)) ((r.pairs.drop k).all (fun x=>!bpF x l))∧Below W0.heap.size W0 wr) (fun i _=>n0 - (intOf i).toNat)
     case atStart=>exact⟨0,Nat.zero_le _,rfl,rfl,HB.out⟩
     case round=>
      clear HB
      obtain⟨k,hk,rfl,HR,hB⟩:=hrel
      obtain⟨wo,rfl⟩:∃ wo:World,wo=wr:=⟨_,rfl⟩
      have HB:=Lib.hid hB
      have hbs:=hB.size
      obtain⟨_,q1,_,_,q4⟩:=HC1.out _ hB
      by_cases hlt3:k<n0
      ·obtain⟨x,hx,hxd⟩:=drop_at (xs:=r.pairs) (k:=k) (by rw[Hz0.out];exact hlt3)
       obtain⟨b,off,hA,hbl,hc⟩:=(HPA.out _ hB).2.1.2 (by dsimp only;omega)
       dsimp only at hA
       subst hA
       have HR2:=HR.out
       rw[hxd,List.all_cons] at HR2
       have HBx:=Lib.hid (HBP.out x wo hB)
       obtain⟨x0,x1,x2,x3,x4⟩:=x
       have e0:=hc k _ hx 0 (by omega)
       have e1:=hc k _ hx 1 (by omega)
       have e2:=hc k _ hx 2 (by omega)
       have e3:=hc k _ hx 3 (by omega)
       have e4:=hc k _ hx 4 (by omega)
       simp only[R5.cell,Nat.add_zero] at e0 e1 e2 e3 e4
       dsimp only at HBx
       have hbw:b<wo.heap.size:=by omega
       have j0:(k:Int)<(n0:Int):=by omega
       generalize bpF ⟨x0,x1,x2,x3,x4⟩ l=bb at *
       have HRR:=Eqn.mk HR2
       clear hc hx hxd HR HR2 hB
       go_wp2_with fail
       refine HBx.out.mono ?_
       rintro e Wc ⟨rfl,hbc⟩
       have HBc:=Lib.hid (HB.out.trans (hbc.mono HB.out.size))
       clear hbc e0 e1 e2 e3 e4 q1 q4
       cases bb with
       | true=>
        have HV:=Eqn.mk (HF.out.2.2.1 (by rw[HRR.out];rfl))
        obtain⟨hb6,hb7,hbe⟩:=HEx.out 3 k _ HBc.out
        have f0:=hb6.cell (i:=0) rfl
        have f1:=hb6.cell (i:=1) rfl
        have f4:=hb6.lt
        have f5:∀ o,(Wc).frozen? ⟨w.heap.size+1,o,none⟩=false:=hb6.frozen
        have HF:=Lib.hid (And.intro hb7 hbe)
        clear hb6 hb7 hbe
        go_wp2_with fail
        clear f0 f1 f4 f5
        have k0:=HF.out.1.cell (i:=0) rfl
        have k1:=HF.out.1.cell (i:=1) rfl
        refine bodyPost_ret (v:=.agg #[.int .i64 3,.int .i64 k]) (by simp[results,Tryz.results65,go_sem,k0,k1]) rfl ⟨_,_,rfl,.inr ⟨HV.out,by decide⟩,HF.out.2⟩
       | false=>
        have HV:Eqn (r.pairs.all (fun x=>!bpF x l)) ((r.pairs.drop (k+1)).all (fun x=>!bpF x l)):=by rw[Eqn,HRR.out];rfl
        clear HRR
        go_wp2_with fail
        go_roundw
        case rel=>exact⟨k+1,by omega,by go_num,HV,HBc.out⟩
        case measure=>simp[intOf];omega
      ·have HD3:Eqn (r.pairs.all (fun x=>!bpF x l)) true:=by rw[Eqn,HR.out,drop_end (by rw[Hz0.out];omega)];rfl
       clear HR hB
       go_wp2_with fail
       clear q1 q4
       go_loopw [11] (fun i wr=>∃ k:Nat,k≤n2∧i=.int .i64 k∧Eqn (r.caps.all (fun x=>!bcF r.loads x l)) ((r.caps.drop k).all (fun x=>!bcF r.loads x l))∧Below W0.heap.size W0 wr) (fun i _=>n2 - (intOf i).toNat)
       case atStart=>exact⟨0,Nat.zero_le _,rfl,rfl,HB.out⟩
       case round=>
        clear HB
        obtain⟨k,hk,rfl,HR,hB⟩:=hrel
        obtain⟨wo,rfl⟩:∃ wo:World,wo=wr:=⟨_,rfl⟩
        have HB:=Lib.hid hB
        have hbs:=hB.size
        obtain⟨q0,q1,q2,q3,q4⟩:=HC1.out _ hB
        by_cases hlt4:k<n2
        ·obtain⟨x,hx,hxd⟩:=drop_at (xs:=r.caps) (k:=k) (by rw[Hz2.out];exact hlt4)
         obtain⟨b,off,hA,hbl,hc⟩:=(HPA.out _ hB).2.2.2.1.2 (by dsimp only;omega)
         dsimp only at hA
         subst hA
         have HR2:=HR.out
         rw[hxd,List.all_cons] at HR2
         have HBd:=Lib.hid hB.drew
         have HBx:=Lib.hid (HBC.out x wo.drew hB.drew)
         obtain⟨x0,x1,x2,x3⟩:=x
         have e0:=hc k _ hx 0 (by omega)
         have e1:=hc k _ hx 1 (by omega)
         have e2:=hc k _ hx 2 (by omega)
         have e3:=hc k _ hx 3 (by omega)
         simp only[R4.cell,Nat.add_zero] at e0 e1 e2 e3
         dsimp only at HBx
         have hbw:b<wo.heap.size:=by omega
         have j0:(k:Int)<(n2:Int):=by omega
         generalize bcF r.loads ⟨x0,x1,x2,x3⟩ l=bb at *
         have HRR:=Eqn.mk HR2
         clear hc hx hxd HR HR2 hB
         go_wp2_with fail
         refine Lx.region (C:=fun _=>True) (hs:=[]) (by kernel_rfl) (by kernel_rfl) trivial ?_
         repeat' (first|((first|refine Lx.ln (fun K hK=>?_) | (first|(refine Lx.lp (v:=?_) ?_ (fun K hK=>?_);rotate_left 1;intro w' hCw;try dsimp only at hCw) | (refine Lx.lr (v:=?_) ?_ (fun K hK=>?_);rotate_left 1));go_simp;first|done | with_reducible rfl);go_simp;refine hK _ ?_;clear hK K) | (refine Lx.le (fun K hK=>?_);go_simp;(first|(go_at_call 111;refine HBx.out.mono ?_;rintro e Wc ⟨rfl,hbc⟩;have HBc:=Lib.hid (HBd.out.trans (hbc.mono HBd.out.size))));refine hK _ _ (trivial) ?_;clear hK K))
         all_goals (refine Lx.lex_nil ?_)
         clear e0 e1 e2 e3 q0 q1 q2 q3 q4
         cases bb with
         | true=>
          have HV:=Eqn.mk (HF.out.2.2.2.1 (by rw[HRR.out];rfl))
          obtain⟨hb6,hb7,hbe⟩:=HEx.out 4 k _ HBc.out
          have f0:=hb6.cell (i:=0) rfl
          have f1:=hb6.cell (i:=1) rfl
          have f4:=hb6.lt
          have f5:∀ o,(Wc).frozen? ⟨w.heap.size+1,o,none⟩=false:=hb6.frozen
          have HF:=Lib.hid (And.intro hb7 hbe)
          clear hb6 hb7 hbe
          go_wp2_with fail
          clear f0 f1 f4 f5
          have k0:=HF.out.1.cell (i:=0) rfl
          have k1:=HF.out.1.cell (i:=1) rfl
          refine bodyPost_ret (v:=.agg #[.int .i64 4,.int .i64 k]) (by simp[results,Tryz.results65,go_sem,k0,k1]) rfl ⟨_,_,rfl,.inr ⟨HV.out,by decide⟩,HF.out.2⟩
         | false=>
          have HV:Eqn (r.caps.all (fun x=>!bcF r.loads x l)) ((r.caps.drop (k+1)).all (fun x=>!bcF r.loads x l)):=by rw[Eqn,HRR.out];rfl
          clear HRR
          go_wp2_with fail
          go_roundw
          case rel=>exact⟨k+1,by omega,by go_num,HV,HBc.out⟩
          case measure=>simp[intOf];omega
        ·have HD4:Eqn (r.caps.all (fun x=>!bcF r.loads x l)) true:=by rw[Eqn,HR.out,drop_end (by rw[Hz2.out];omega)];rfl
         have HV:=Eqn.mk (HF.out.2.2.2.2 HD1.out HD2.out HD3.out HD4.out)
         clear HR hB
         obtain⟨hb6,hb7,hbe⟩:=HEx.out 0 0 _ HB.out
         have f0:=hb6.cell (i:=0) rfl
         have f1:=hb6.cell (i:=1) rfl
         have f4:=hb6.lt
         have f5:∀ o,(wo).frozen? ⟨w.heap.size+1,o,none⟩=false:=hb6.frozen
         have HF:=Lib.hid (And.intro hb7 hbe)
         clear hb6 hb7 hbe
         go_wp2_with fail
         clear f0 f1 f4 f5
         have k0:=HF.out.1.cell (i:=0) rfl
         have k1:=HF.out.1.cell (i:=1) rfl
         refine bodyPost_ret (v:=.agg #[.int .i64 0,.int .i64 0]) (by simp[results,Tryz.results65,go_sem,k0,k1]) rfl ⟨_,_,rfl,.inl ⟨HV.out,rfl,rfl⟩,HF.out.2⟩
theorem viol_eql (w:World) (a b:Int):(binOp .eql 119 (.agg #[.int .i64 a,.int .i64 b]) (.agg #[.int .i64 0,.int .i64 0])).run Tryz.prog w=.ok (.bool (decide (a=0∧b=0))) w:=by
 have h1:Tryz.prog.stoodInHeld 119=false:=by kernel_rfl
 have h2:Tryz.prog.underlying 119=some (.struct (Tryz.prog.fieldsOf 119)):=by simp only[Program.fieldsOf,Tryz.underlying119]
 have p0:∀ w' a b,(part 117 #[.int .i64 a,.int .i64 b] 0).run Tryz.prog w'=.ok (.int .i64 a) w':=fun _ _ _=>by kernel_rfl
 have p1:∀ w' a b,(part 3 #[.int .i64 a,.int .i64 b] 1).run Tryz.prog w'=.ok (.int .i64 b) w':=fun _ _ _=>by kernel_rfl
 rw[run_eql_struct,run_equalIn_agg w 9999 _ _ _ h2 h1]
 simp only[Program.fieldsOf,Tryz.underlying119,Op.eqFields]
 by_cases ha:a=0
 ·by_cases hb:b=0
  ·simp[Sem.run_bind,p0,p1,run_equalIn_int (P:=Tryz.prog) _ 9998 3 .i64 .i64 _ _ Tryz.underlying3,run_equalIn_int (P:=Tryz.prog) _ 9998 117 .i64 .i64 _ _ Tryz.underlying117,ha,hb]
  ·simp[Sem.run_bind,p0,p1,run_equalIn_int (P:=Tryz.prog) _ 9998 3 .i64 .i64 _ _ Tryz.underlying3,run_equalIn_int (P:=Tryz.prog) _ 9998 117 .i64 .i64 _ _ Tryz.underlying117,ha,hb]
 ·simp[Sem.run_bind,p0,p1,run_equalIn_int (P:=Tryz.prog) _ 9998 3 .i64 .i64 _ _ Tryz.underlying3,run_equalIn_int (P:=Tryz.prog) _ 9998 117 .i64 .i64 _ _ Tryz.underlying117,ha]
theorem rfine_any (s:PrbS) (A:Option Addr) (n c:Nat) (w:World) (ds:List Dom) (r:Rul) (l:List (Int×Int)) (hn:n≤9223372036854775807) (hN:s.nd≤9223372036854775807) (hl:RowS 2 chC w w.heap.size A n l) (h:PrbAt w w.heap.size s ds r) (hd:∀ d∈ds,d.len≤9223372036854775807):
  Calls Tryz.prog 29 #[s.val,.slice A n c] w (RetPost (.bool (fineF ds r l)) w.heap.size w):=by
 have HVL:=Lib.hid (fun W (hb:Below w.heap.size w W)=>rvl_any A n c W l hn (hl.keep hb))
 have HFR:=Lib.hid (fun W (hb:Below w.heap.size w W)=>rfirst_any s A n c true W ds r l hn hN (hl.keep hb) ⟨h.1.keep hb,h.2.keep hb⟩ hd)
 have HF:Eqn (fineF ds r l) (vlGo none l&&okF ds r l true):=rfl
 rw[HF.out]
 clear HF hl h hd
 generalize vlGo none l=v at *
 generalize okF ds r l true=k at *
 obtain⟨Ad,nd,cd,⟨A0,n0,c0,A1,n1,c1,A2,n2,c2⟩⟩:=s
 unfold PrbS.val at HFR ⊢
 dsimp only at *
 obtain⟨W0,hW0⟩:∃ W0,W0=w.alloc (.cells #[.slice Ad nd cd,.slice A0 n0 c0,.slice A1 n1 c1,.slice A2 n2 c2] 29):=⟨_,rfl⟩
 have hB0:Below w.heap.size w W0:=by rw[hW0];exact(Below.refl _ w).alloc (Nat.le_refl _) _
 have hX:Blk W0 w.heap.size 29 [.slice Ad nd cd,.slice A0 n0 c0,.slice A1 n1 c1,.slice A2 n2 c2]:=by rw[hW0];exact blk_new w _ _
 have HX:=Lib.hid hX
 have HB0:=Lib.hid hB0
 clear hB0 hX
 go_enter Tryz.func29,Tryz.ntmps29
 go_upto_region 1 with fail
 rw[←hW0]
 clear hW0
 go_wp2_with fail
 refine(HVL.out _ HB0.out).mono ?_
 rintro e W1 ⟨rfl,hb1⟩
 have HB1:=Lib.hid (HB0.out.trans (hb1.mono HB0.out.size))
 have hx:=HX.out.keep hb1
 have q0:=hx.cell (i:=0) rfl
 have q1:=hx.cell (i:=1) rfl
 have q2:=hx.cell (i:=2) rfl
 have q3:=hx.cell (i:=3) rfl
 have q4:=hx.lt
 clear hb1 hx
 cases v with
 | false=>
  go_wp2_with fail
  go_ret
  exact⟨ret_bool rfl,HB1.out⟩
 | true=>
  go_wp2_with fail
  refine(HFR.out _ HB1.out).mono ?_
  rintro e W2 ⟨kd,a,rfl,hka,hb2⟩
  have HB2:=Lib.hid (HB1.out.trans (hb2.mono HB1.out.size))
  clear hb2 q0 q1 q2 q3 q4
  have he:decide (kd=0∧a=0)=k:=by
   rcases hka with ⟨h1,h2,h3⟩ | ⟨h1,h2⟩
   ·rw[h1,h2,h3];rfl
   ·rw[h1];exact decide_eq_false (fun hh=>h2 hh.1)
  have HVE:=fun W=>viol_eql W kd a
  rw[he] at HVE
  clear hka he
  go_wp2_with (rw[HVE])
  go_ret
  exact⟨ret_bool (by first|rfl | simp),HB2.out⟩
abbrev Chs:=List (Int×Int)
def sumW (l:List R5):Int:=(l.map R5.c).sum
theorem sumW_cons (x:R5) (l:List R5):sumW (x::l)=x.c+sumW l:=by unfold sumW;simp
theorem sumW_le {p q:R5→Bool}:∀ {l:List R5},(∀ x∈l,1≤x.c)→(∀ x∈l,p x=true→q x=true)→sumW (l.filter p)≤sumW (l.filter q)
 | [],_,_=>Int.le_refl _
 | x::r,h,hpq=>by
  have ih:=sumW_le (fun y hy=>h y (by simp[hy]):∀ y∈r,_) (fun y hy=>hpq y (by simp[hy]))
  have h1:=h x (by simp)
  have h2:=hpq x (by simp)
  rw[List.filter_cons,List.filter_cons]
  cases hp:p x with
  | true=>rw[h2 hp,if_pos rfl,if_pos rfl,sumW_cons,sumW_cons];omega
  | false=>
   rw[if_neg (by decide)]
   split
   ·rw[sumW_cons];omega
   ·exact ih
theorem loss_sum (n ch:Int) (l:Chs):∀(rl:List R5) (s:Int),(∀ x∈rl,1≤x.c∧x.c≤1073741824)→0≤s→s+1073741824 * (rl.length:Int)≤9223372036854775807→lossGo n ch l s rl=s+sumW (rl.filter (lossB n ch l))
 | [],s,_,_,_=>by show s=s+0;omega
 | x::r,s,h,h0,hb=>by
  have h1:=h x (by simp)
  rw[List.length_cons] at hb
  rw[lossGo,List.filter_cons]
  split
  ·have e:wrap64 (s+x.c)=s+x.c:=by unfold wrap64;omega
   rw[e,loss_sum n ch l r _ (fun y hy=>h y (by simp[hy])) (by omega) (by omega),sumW_cons];omega
  ·exact loss_sum n ch l r _ (fun y hy=>h y (by simp[hy])) h0 (by omega)
theorem on_filter (p:Int→Bool) (n:Int):∀ l:Chs,onF (l.filter fun x=>p x.1) n=if p n=true then onF l n else 0
 | []=>by simp[onF]
 | x::r=>by
  rw[List.filter_cons]
  by_cases hx:p x.1=true
  ·rw[if_pos hx,onF,onF]
   by_cases hn:x.1=n
   ·rw[if_pos hn,if_pos hn,if_pos (by rw[←hn];exact hx)]
   ·rw[if_neg hn,if_neg hn];exact on_filter p n r
  ·rw[if_neg hx,on_filter p n r,onF]
   by_cases hn:x.1=n
   ·rw[if_neg (by rw[←hn];exact hx),if_neg (by rw[←hn];exact hx)]
   ·rw[if_neg hn]
theorem rest_asg {ds:List Dom} {r:Rul} {l:Chs} {S T:Nat} (hr:VPr ds r) (hST:∀ x,hasS T x=true→hasS S x=true) (h:okF (resD S ds) (resR S r) l true=true):okF (resD T ds) (resR T r) (l.filter fun x=>hasS T x.1) true=true:=by
 have hon:∀ n,hasS T n=true→onF (l.filter fun x=>hasS T x.1) n=onF l n:=fun n hn=>by rw[on_filter (hasS T),if_pos hn]
 unfold okF at h ⊢
 simp only[Bool.and_eq_true,List.all_eq_true] at h ⊢
 obtain⟨h1,h2,h3,h4⟩:=h
 refine⟨fun d hd=>?_,fun x hx=>?_,fun x hx=>?_,fun x hx=>?_⟩
 ·obtain⟨hd1,hd2⟩:=List.mem_filter.1 hd
  have:=h1 d (List.mem_filter.2 ⟨hd1,hST _ hd2⟩)
  unfold bdF at this ⊢
  rw[hon _ hd2];exact this
 ·obtain⟨hx1,hx2⟩:=List.mem_filter.1 hx
  have:=h2 x hx1
  rw[inD_mem,decide_eq_true_eq] at this ⊢
  obtain⟨d,hd,e⟩:=List.mem_map.1 this
  exact List.mem_map.2 ⟨d,List.mem_filter.2 ⟨(List.mem_filter.1 hd).1,by rw[e];exact hx2⟩,e⟩
 ·unfold resR at hx
  dsimp only at hx
  obtain⟨hx1,hx2⟩:=List.mem_filter.1 hx
  rw[Bool.and_eq_true] at hx2
  have:=h3 x (List.mem_filter.2 ⟨hx1,by rw[hST _ hx2.1,hST _ hx2.2];rfl⟩)
  unfold bpF at this ⊢
  rw[hon _ hx2.1,hon _ hx2.2];exact this
 ·unfold resR at hx
  dsimp only at hx
  obtain⟨hx1,hx2⟩:=List.mem_filter.1 hx
  have hb:=h4 x (List.mem_filter.2 ⟨hx1,hST _ hx2⟩)
  have hw:∀ U:Nat,∀ y∈(resR U r).loads,1≤y.c∧y.c≤1073741824:=fun U y hy=>(hr.lds y (List.mem_filter.1 hy).1).2.1
  have hlen:∀ U:Nat,(0:Int)+1073741824 * ((resR U r).loads.length:Int)≤9223372036854775807:=fun U=>by
   have h1:=hr.sts.2.2.2.2.1
   have h2:(resR U r).loads.length≤r.loads.length:=List.length_filter_le _ _
   omega
  have e1:=loss_sum x.a (onF l x.a) l (resR S r).loads 0 (hw S) (Int.le_refl _) (hlen S)
  have e2:=loss_sum x.a (onF l x.a) (l.filter fun x=>hasS T x.1) (resR T r).loads 0 (hw T) (Int.le_refl _) (hlen T)
  have hle:sumW ((resR T r).loads.filter (lossB x.a (onF l x.a) (l.filter fun x=>hasS T x.1)))≤sumW ((resR S r).loads.filter (lossB x.a (onF l x.a) l)):=by
   unfold resR
   dsimp only
   rw[List.filter_filter,List.filter_filter]
   refine sumW_le (fun y hy=>(hr.lds y hy).2.1.1) (fun y hy hs=>?_)
   simp only[Bool.and_eq_true] at hs ⊢
   obtain⟨q1,q2,q3⟩:=hs
   refine⟨?_,hST _ q2,hST _ q3⟩
   unfold lossB at q1 ⊢
   rw[hon _ q3] at q1;exact q1
  rw[Bool.not_eq_true'] at hb ⊢
  unfold bcF at hb ⊢
  rw[hon _ hx2,e2]
  rw[e1] at hb
  cases g1:decide (onF l x.a=0) with
  | true=>simp
  | false=>
   rw[g1] at hb
   cases g2:decide (x.c≤onF l x.a) with
   | false=>simp
   | true=>
    rw[g2] at hb
    cases g3:decide (onF l x.a≤x.d) with
    | false=>simp
    | true=>
     rw[g3] at hb
     simp at hb ⊢
     omega
structure ExI (D:Dms) (r:Rul) (l pl:List (Int×Int)):Prop where
 nd:(pl.map Prod.fst).Nodup
 all:∀ s,s∈pl.map Prod.fst↔s∈D.map Prod.fst
 ch:∀ s∈D.map Prod.fst,onF pl s∈chsOf D s
 core:∀ s∈(peelF D r).2,onF pl s=onF l s
 ok:∀ s∈D.map Prod.fst,∀ t∈D.map Prod.fst,s∉(peelF D r).2→blkd r s (onF pl s) t (onF pl t)=false
theorem ext_all {D:Dms} {r:Rul} (hD:(D.map Prod.fst).Nodup) (h0:∀ s,∀ c∈chsOf D s,c≠0) {l:List (Int×Int)} (hl:l.map Prod.fst=(peelF D r).2) (hc:∀ x∈l,x.2∈chsOf D x.1):ExI D r l (extG D r (peelF D r).1.reverse l):=by
 have h:=ext_pl hD h0 hl hc (peelF D r).1.length 0 (by omega)
 rw[List.drop_zero] at h
 obtain⟨q,hq1,hq2⟩:=h.ex
 have hm:=peelG_mem D r D.length [] (D.map Prod.fst)
 have hall:∀ s,s∈(extG D r (peelF D r).1.reverse l).map Prod.fst↔s∈D.map Prod.fst:=by
  intro s
  have:=hm s
  simp only[List.not_mem_nil,false_or] at this
  rw[hq1,List.map_append,List.mem_append,hl,hq2,List.mem_reverse,←this];exact Or.comm
 have hon:∀ s∈D.map Prod.fst,(s,onF (extG D r (peelF D r).1.reverse l) s)∈extG D r (peelF D r).1.reverse l:=by
  intro s hs
  obtain⟨x,hx,rfl⟩:=List.mem_map.1 ((hall s).2 hs)
  rw[on_of h.nd hx];exact hx
 refine⟨h.nd,hall,fun s hs=>h.ch _ (hon s hs),fun s hs=>?_,fun s hs t ht hn=>?_⟩
 ·rw[hq1,on_append,if_pos (by rw[hl];exact hs)]
 ·refine h.ok _ (hon s hs) _ (hon t ht) ?_
  have:=(hm s).2 (.inr hs)
  rw[List.mem_reverse]
  exact this.resolve_right hn
theorem on_outF (D:Dms) (pl:List (Int×Int)) (s:Int):onF (outF D pl) s=if s∈D.map Prod.fst then onF pl s else 0:=by
 unfold outF
 induction D with
 | nil=>simp[onF]
 | cons d q ih=>
  rw[List.map_cons,onF,List.map_cons]
  dsimp only
  by_cases h:d.1=s
  ·rw[if_pos h,if_pos (by simp[h]),h]
  ·rw[if_neg h,ih]
   by_cases h2:s∈q.map Prod.fst
   ·rw[if_pos h2,if_pos (by simp[h2])]
   ·rw[if_neg h2,if_neg (by simp only[List.mem_cons,not_or];exact⟨fun e=>h e.symm,h2⟩)]
end Go.Proofs.YtjakdikhdndlgaaGreatDoor
