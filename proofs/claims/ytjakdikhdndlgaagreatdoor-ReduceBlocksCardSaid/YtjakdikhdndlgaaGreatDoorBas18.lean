/- Lemmas of the proof, part 18. Conditions: none. -/
import Derived.Shelf.Small.Wraps
import Derived.Shelf.Slices.Turned
import Derived.Shelf.Slices.Reverse
import Derived.Ground.Names2Prog
import Derived.Shelf.Slices.Clone
import Derived.Shelf.Slices.SearchI
import Derived.Shelf.Slices.Cells
import Derived.Shelf.Slices.Empties
import Derived.Ground.SlgnProg
import Derived.Shelf.SlicesE.Reverse
import Derived.Shelf.SlicesE.Clone
import Derived.Test.YtjakdikhdndlgaaGreatDoorBas12
namespace Go.Proofs
open Go.Shelf
def Tryz.lays112_ren:Go.Shelf.Ren:=⟨fun | 112=>62 | n=>n,fun | 28=>32 | 3=>3 | 4=>4 | 0=>0 | n=>n,fun | n=>n⟩
theorem Tryz.lays112:Go.Proofs.Lays.n112 Tryz.prog Tryz.lays112_ren:={
 mixed:=by kernel_rfl
 f112:=Tryz.func62.trans (congrArg some (by kernel_rfl))
 t0:=Tryz.underlying0
 a0:=Tryz.isAgg0
 z0:=Tryz.sizeOf0
 v0:=Tryz.zeroValue0
 t3:=Tryz.underlying3
 a3:=Tryz.isAgg3
 z3:=Tryz.sizeOf3
 v3:=Tryz.zeroValue3
 t4:=Tryz.underlying4
 a4:=Tryz.isAgg4
 z4:=Tryz.sizeOf4
 v4:=Tryz.zeroValue4
 t28:=Tryz.underlying32
 a28:=Tryz.isAgg32
 z28:=Tryz.sizeOf32
 v28:=Tryz.zeroValue32 }
open Go.RowKit Go.Lib Go.Sort in
theorem Tryz.slices_Reverse_int_empty (a:Option Addr) (cap:Nat) (w:World):
  Calls Tryz.prog 62 #[.slice a 0 cap] w fun e w'=>e=.returned (.tuple #[])∧w'=w:=Any.slices_Reverse_int_empty Tryz.lays112 a cap w
def Tryz.laysNm225_ren:Go.Shelf.Ren:=⟨fun | 25=>46 | 31=>90 | 32=>91 | 37=>124 | n=>n,fun | 22=>32 | 3=>3 | 4=>4 | 40=>156 | 0=>0 | n=>n,fun | n=>n⟩
theorem Tryz.laysNm225:Go.Proofs.Lays2.n25 Tryz.prog Tryz.laysNm225_ren:={
 mixed:=by kernel_rfl
 f25:=Tryz.func46.trans (congrArg some (by kernel_rfl))
 f31:=Tryz.func90.trans (congrArg some (by kernel_rfl))
 f32:=Tryz.func91.trans (congrArg some (by kernel_rfl))
 f37:=Tryz.func124.trans (congrArg some (by kernel_rfl))
 t0:=Tryz.underlying0
 a0:=Tryz.isAgg0
 z0:=Tryz.sizeOf0
 v0:=Tryz.zeroValue0
 t3:=Tryz.underlying3
 a3:=Tryz.isAgg3
 z3:=Tryz.sizeOf3
 v3:=Tryz.zeroValue3
 t4:=Tryz.underlying4
 a4:=Tryz.isAgg4
 z4:=Tryz.sizeOf4
 v4:=Tryz.zeroValue4
 t22:=Tryz.underlying32
 a22:=Tryz.isAgg32
 z22:=Tryz.sizeOf32
 v22:=Tryz.zeroValue32
 t40:=Tryz.underlying156
 a40:=Tryz.isAgg156
 z40:=Tryz.sizeOf156
 v40:=Tryz.zeroValue156 }
open Go.RowKit Go.Lib in
theorem Tryz.slices_BinarySearch_int (b off n c:Nat) (zs:List Int) (x:Int) (w:World) (hz:n≤zs.length) (hbig:n<4611686018427387904) (hc:∀ j,j<zs.length→w.cell? ⟨b,off+j,none⟩=some (.int .i64 (zs.getD j 0))) (hs:(zs.take n).Pairwise (·≤·)):
  Calls Tryz.prog 46 #[.slice (some ⟨b,off,none⟩) n c,.int .i64 x] w fun e w'=>e=.returned (.tuple #[.int .i64 ((zs.take n).countP (·<x):Nat),.bool ((zs.take n).contains x)])∧∃ q,w'=w.drewN q:=Any.slices_BinarySearch_int Tryz.laysNm225 b off n c zs x w hz hbig hc hs
open Go.RowKit Go.Lib Go.Sort in
theorem Tryz.slices_Reverse_int_cells (b off n c:Nat) (zs:List Int) (w:World) (hz:n≤zs.length) (hbig:n≤9223372036854775807) (hc:∀ j,j<zs.length→w.cell? ⟨b,off+j,none⟩=some (.int .i64 (zs.getD j 0))) (hf:∀ j,j<n→w.frozen? ⟨b,off+j,none⟩=false):
  Calls Tryz.prog 62 #[.slice (some ⟨b,off,none⟩) n c] w fun e w'=>e=.returned (.tuple #[])∧∃ q,w'=(w.drewN q).setCells b off ((zs.take n).reverse.map (Value.int .i64)):=Any.slices_Reverse_int_cells Tryz.lays112 b off n c zs w hz hbig hc hf
open Go.RowKit Go.Lib in
theorem Tryz.slices_BinarySearch_int_empty (a:Option Addr) (c:Nat) (x:Int) (w:World):
  Calls Tryz.prog 46 #[.slice a 0 c,.int .i64 x] w fun e w'=>e=.returned (.tuple #[.int .i64 0,.bool false])∧w'=w:=Any.slices_BinarySearch_int_empty Tryz.laysNm225 a c x w
end Go.Proofs
set_option maxRecDepth 100000
namespace Go.Proofs.YtjakdikhdndlgaaGreatDoor
open Go.RowKit
def lessN (zs:List Int) (x:Int):Nat:=zs.countP (·<x)
theorem less_at:∀ {zs:List Int} {x:Int},zs.Pairwise (·<·)→x∈zs→zs[lessN zs x]?=some x
 | [],_,_,h=>by cases h
 | z::r,x,hs,h=>by
  rw[List.pairwise_cons] at hs
  unfold lessN
  rw[List.countP_cons]
  rcases List.mem_cons.1 h with rfl | hr
  ·have:r.countP (·<x)=0:=List.countP_eq_zero.2 (fun y hy=>by have:=hs.1 y hy;simp;omega)
   rw[this];simp
  ·have h1:=hs.1 x hr
   have:=less_at hs.2 hr
   unfold lessN at this
   rw[if_pos (by simpa using h1),List.getElem?_cons_succ]
   exact this
theorem below_drewNz (w:World):∀ q,Below w.heap.size w (w.drewN q):=fun q=>by
 induction q with
 | zero=>exact Below.refl _ _
 | succ q ih=>exact ih.trans ((Below.refl _ (w.drewN q)).drew.mono ih.size)
theorem bsearch_any (A:Option Addr) (n c:Nat) (zs:List Int) (x:Int) (w:World) (hr:Row1 intV w w.heap.size A n zs) (hn:n≤512) (hs:zs.Pairwise (·<·)):
  Calls Tryz.prog 46 #[.slice A n c,.int .i64 x] w (RetPost (.tuple #[.int .i64 (lessN zs x:Nat),.bool (decide (x∈zs))]) w.heap.size w):=by
 rcases Nat.eq_zero_or_pos n with rfl | hpos
 ·have:zs=[]:=List.eq_nil_of_length_eq_zero hr.1
  subst this
  refine(Tryz.slices_BinarySearch_int_empty A c x w).mono ?_
  rintro e w' ⟨rfl,rfl⟩
  exact⟨rfl,Below.refl _ _⟩
 ·obtain⟨b,off,rfl,hb,hc⟩:=hr.2 hpos
  have ht:zs.take n=zs:=List.take_of_length_le (by rw[hr.1];exact Nat.le_refl _)
  have:=Tryz.slices_BinarySearch_int b off n c zs x w (by rw[hr.1];exact Nat.le_refl _) (by omega) (fun j hj=>by
   have e:zs[j]?=some zs[j]:=List.getElem?_eq_getElem hj
   rw[List.getD_eq_getElem?_getD,e]
   exact hc j _ e) (by rw[ht];exact hs.imp (fun {a b} hab=>by omega))
  rw[ht] at this
  refine this.mono ?_
  rintro e w' ⟨rfl,q,rfl⟩
  refine⟨?_,below_drewNz w q⟩
  rw[show zs.contains x=decide (x∈zs) by rw[Bool.eq_iff_iff];simp]
  rfl
end Go.Proofs.YtjakdikhdndlgaaGreatDoor
namespace Go.Proofs.YtjakdikhdndlgaaGreatDoor
open Go.RowKit Go.Shelf
def ovl:List Value→Nat→List Value→List Value
 | xs,_,[]=>xs
 | xs,o,v::r=>ovl (xs.set o v) (o+1) r
theorem ovl_eq:∀(vs:List Value) (o:Nat) (xs:List Value),o+vs.length≤xs.length→ovl xs o vs=xs.take o++vs++xs.drop (o+vs.length)
 | [],o,xs,_=>by rw[ovl];simp
 | v::r,o,xs,h=>by
  rw[List.length_cons] at h
  rw[ovl,ovl_eq r (o+1) (xs.set o v) (by rw[List.length_set];omega)]
  have ho:o<xs.length:=by omega
  have e1:(xs.set o v).take (o+1)=xs.take o++[v]:=by
   rw[List.take_add_one,List.getElem?_set,if_pos rfl,if_pos ho,Option.toList_some,List.take_set_of_le (Nat.le_refl _)]
  have e2:(xs.set o v).drop (o+1+r.length)=xs.drop (o+(r.length+1)):=by
   rw[List.drop_set_of_lt (by omega)];congr 1;omega
  rw[e1,e2]
  simp
theorem ovl_full {vs xs:List Value} (h:vs.length=xs.length):ovl xs 0 vs=vs:=by
 rw[ovl_eq vs 0 xs (by omega)]
 rw[List.take_zero,List.nil_append,Nat.zero_add,h,List.drop_length,List.append_nil]
section
variable {w u W X : World} {L : List Ent} {ds : List Nat}
theorem Hp.setCells {i g n c t:Nat}:∀(vs:List Value) (o:Nat) (W:World) (L:List Ent) (xs:List Value),Hp w u W L ds→L[i]?=some (.row (.slice (some ⟨g,0,none⟩) n c) t 1 n xs)→Hp w u (W.setCells g o vs) (L.set i (.row (.slice (some ⟨g,0,none⟩) n c) t 1 n (ovl xs o vs))) ds
 | [],o,W,L,xs,h,hi=>by
  rw[ovl,World.setCells]
  have e:L.set i (.row (.slice (some ⟨g,0,none⟩) n c) t 1 n xs)=L:=by
   apply List.ext_getElem?
   intro k
   rw[List.getElem?_set]
   split
   ·rename_i e;subst e;rw[if_pos (List.getElem?_eq_some_iff.1 hi).1,hi]
   ·rfl
  rw[e];exact h
 | v::r,o,W,L,xs,h,hi=>by
  have h1:=h.setRow i o v hi
  have h2:=Hp.setCells r (o+1) (W.setCell ⟨g,o,none⟩ v) _ (xs.set o v) h1 (by rw[List.getElem?_set,if_pos rfl,if_pos (List.getElem?_eq_some_iff.1 hi).1])
  rw[List.set_set] at h2
  exact h2
theorem Hp.rev {A:Option Addr} {n c:Nat} {zs:List Int} (h:Hp w u W L ds) (i:Nat) (hi:L[i]?=some (.row (.slice A n c) 3 1 n (zs.map intV))) (hz:zs.length=n) (hn:n≤9223372036854775807):
  Calls Tryz.prog 62 #[.slice A n c] W fun e w'=>e=.returned (.tuple #[])∧Hp w u w' (L.set i (.row (.slice A n c) 3 1 n (zs.reverse.map intV))) ds:=by
 rcases Nat.eq_zero_or_pos n with h0 | h0
 ·subst h0
  have hnil:zs=[]:=List.eq_nil_of_length_eq_zero hz
  subst hnil
  refine(Tryz.slices_Reverse_int_empty A c W).mono ?_
  rintro e w' ⟨rfl,rfl⟩
  refine⟨rfl,?_⟩
  have e:L.set i (.row (.slice A 0 c) 3 1 0 ([].reverse.map intV))=L:=by
   apply List.ext_getElem?
   intro k
   rw[List.getElem?_set]
   split
   ·rename_i e;subst e;rw[if_pos (List.getElem?_eq_some_iff.1 hi).1,hi];rfl
   ·rfl
  rw[e];exact h
 ·have hat:∀ j (hj:j<n),∃ g,A=some ⟨g,0,none⟩∧W.cell? ⟨g,j,none⟩=some (.int .i64 (zs.getD j 0))∧∀ o,W.frozen? ⟨g,o,none⟩=false:=fun j hj=>by
   have hj':j<zs.length:=by omega
   obtain⟨g,c',e,h1,h2,_⟩:=h.at i j hi (x:=.int .i64 (zs.getD j 0)) (by rw[List.getElem?_map,List.getElem?_eq_getElem hj',List.getD_eq_getElem?_getD,List.getElem?_eq_getElem hj'];rfl)
   injection e with e1 _ _
   exact⟨g,e1,h1,h2⟩
  obtain⟨g,rfl,_,hf⟩:=hat 0 h0
  refine(Tryz.slices_Reverse_int_cells g 0 n c zs W (by omega) hn (fun j hj=>?_) (fun j _=>hf _)).mono ?_
  ·obtain⟨g',e,hc,_⟩:=hat j (by omega)
   injection e with e
   injection e with e
   subst e
   rw[Nat.zero_add];exact hc
  ·rintro e w' ⟨rfl,q,rfl⟩
   refine⟨rfl,?_⟩
   have h1:=Hp.setCells (i:=i) (((zs.take n).reverse).map (Value.int .i64)) 0 (W.drewN q) L _ (h.keep (below_drewNz W q)) hi
   rw[ovl_full (by simp;omega)] at h1
   rw[List.take_of_length_le (by omega)] at h1 ⊢
   exact h1
end
end Go.Proofs.YtjakdikhdndlgaaGreatDoor
