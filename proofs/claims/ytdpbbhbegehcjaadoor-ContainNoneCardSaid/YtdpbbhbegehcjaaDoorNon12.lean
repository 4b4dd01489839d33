/- The entries of a store's list: the iterator over them (kept.all), for lists of proofs. -/
import Derived.RangeFuncCalls
import Derived.Shelf.Abstract
import Derived.Shelf.RegionOpen
import Derived.OwnWalkIn
import Derived.TacticsInMore
import Derived.LoopNIn
import Derived.LoopIn
import Derived.Sort.LoopGhostIn
import Derived.Sort.CutIn
import Derived.Maps.OwnIn
import Derived.Test.YtdpbbhbegehcjaaDoorNon02
import Derived.Test.YtdpbbhbegehcjaaDoorNon09
import Derived.Test.YtdpbbhbegehcjaaDoorNon10
import Derived.Test.YtdpbbhbegehcjaaDoorNon11
set_option maxRecDepth 100000
set_option maxHeartbeats 4000000
namespace Go.Proofs.YtdpbbhbegehcjaaDoor
open Go.RowKit Go.Shelf
def StS.P (x : StS) : List Chs := x.pe.map fun e => e.v.chs
def StS.Q (x : StS) : List Prv := x.re.map fun e => e.v.say
def StPost (B : Nat) (p : Nat → Prop) (g : Nat) (x : StS) (P : List Chs) (Q : List Prv) (n : Int) (w : World) (e : Ending) (w' : World) : Prop :=
 ∃ x', e = .returned (.int .i64 n) ∧ StAt w' B p g x' ∧ StOk x' ∧ x'.ds = x.ds ∧ x'.r = x.r ∧ x'.P = P ∧ x'.Q = Q ∧ w.grownBy w' (some g)
theorem grown_any_of {w w' : World} (hb : Below w.heap.size w w') (g : Option Nat) : w.grownBy w' g := ⟨hb.os, hb.tape, hb.output, hb.size, fun k hk _ => hb.block k hk⟩
theorem st_same {B : Nat} {p : Nat → Prop} {g : Nat} {x : StS} {w w' : World} (n : Int) (h : StAt w B p g x) (ho : StOk x) (hb : Below w.heap.size w w') : StPost B p g x x.P x.Q n w (.returned (.int .i64 n)) w' :=
 ⟨x, rfl, h.keep hb, ho, rfl, rfl, rfl, rfl, grown_any_of hb _⟩
theorem StAt.grown_prb {w X : World} {B : Nat} {p : Nat → Prop} {g : Nat} {x : StS} (h : StAt w B p g x) (hg : w.grownBy X (some g)) : PrbAt X B x.s x.ds x.r :=
 h.prb.below ⟨hg.os, hg.tape, hg.output, hg.size, fun k hk => hg.block k (by have := h.blk.lt; have := h.low; omega) (fun e => by cases e; have := h.low; omega)⟩
theorem kind_same {w X : World} {p : Nat → Prop} {g : Nat} (hn : ¬ p g) (hg : w.grownBy X (some g)) : ∀ k, p k → k < w.heap.size → X.heap[k]? = w.heap[k]? :=
 fun k hp hk => hg.block k hk (fun e => by cases e; exact hn hp)
theorem pk_any {x : StS} (h : StOk x) (φ : Nat → Bool) : (x.pe.any fun e => φ e.S) = x.P.any fun o => φ (stS (ofC o)) := by
 have h1 := h.pes
 unfold StS.P
 rw [List.any_map]
 generalize x.pe = L at *
 clear h
 induction L with
 | nil => rfl
 | cons y r ih => rw [List.any_cons, List.any_cons, ih (fun e he => h1 e (by simp [he])), (h1 y (by simp)).1]; rfl
theorem pk_filter {x : StS} (h : StOk x) (φ : Nat → Bool) : ((x.pe.filter fun e => !φ e.S).map fun e => e.v.chs) = x.P.filter fun o => !φ (stS (ofC o)) := by
 have h1 := h.pes
 unfold StS.P
 generalize x.pe = L at *
 clear h
 induction L with
 | nil => rfl
 | cons y r ih =>
  have h2 : (φ y.S) = φ (stS (ofC y.v.chs)) := by rw [(h1 y (by simp)).1]; rfl
  have h3 := ih (fun e he => h1 e (by simp [he]))
  rw [List.map_cons, List.filter_cons, List.filter_cons, h2]
  split
  ·rw [List.map_cons, h3]
  ·exact h3
theorem grown_below {w W X : World} {g : Nat} (hb : Below w.heap.size w W) (hg : W.grownBy X (some g)) : w.grownBy X (some g) :=
 ⟨hg.os.trans hb.os, hg.tape.trans hb.tape, hg.output.trans hb.output, Nat.le_trans hb.size hg.size, fun k hk hne => (hg.block k (Nat.lt_of_lt_of_le hk hb.size) hne).trans (hb.block k hk)⟩
theorem added_keepP {g : Nat} {cs : List Value} {K : List PEn} {S : Nat} {x : Lem} {w X : World} {e : Ending} (h : AddedP g cs K S x w e X) (k : Nat) (hk : k < w.heap.size) (hne : k ≠ g) : X.heap[k]? = w.heap[k]? := by
 rcases h with ⟨_, _, hb⟩ | ⟨_, _, hg, _⟩
 ·exact hb.block k hk
 ·exact hg.block k hk (fun e => hne (by cases e; rfl))
theorem pk_done {B : Nat} {p : Nat → Prop} {g : Nat} {x : StS} {w W X : World} {φ : Nat → Bool} {S : Nat} {l : Chs} {A : Option Addr} {n c : Nat} {e : Ending} (hS : StAt W B p g x) (hO : StOk x) (hb : Below w.heap.size w W) (hnew : ∀ k, w.heap.size ≤ k → p k) (hSl : S = stS (ofC l)) (hv : vlGo none l = true) (hn : n ≤ 100000)
  (hl : RowX 2 chC W p A n l) (h : AddedP g x.cells (x.pe.filter fun y => !φ y.S) S ⟨A, n, c, l⟩ W e X) :
  StPost B p g x (if 1000 ≤ (x.P.filter fun o => !φ (stS (ofC o))).length then (x.P, (7 : Int)) else ((x.P.filter fun o => !φ (stS (ofC o))) ++ [l], 0)).1 x.Q (if 1000 ≤ (x.P.filter fun o => !φ (stS (ofC o))).length then (x.P, (7 : Int)) else ((x.P.filter fun o => !φ (stS (ofC o))) ++ [l], 0)).2 w e X := by
 have hf := pk_filter hO φ
 have hlen : (x.P.filter fun o => !φ (stS (ofC o))).length = (x.pe.filter fun y => !φ y.S).length := by rw [← hf, List.length_map]
 rw [hlen]
 have hmem : ∀ y ∈ x.pe.filter fun y => !φ y.S, y ∈ x.pe := fun y hy => (List.mem_filter.1 hy).1
 generalize (x.pe.filter fun y => !φ y.S) = K at *
 rcases h with ⟨h1, rfl, h3⟩ | ⟨h1, rfl, hg, A', c', hblk, hown⟩
 ·rw [if_pos h1]
  exact ⟨x, rfl, hS.keep h3, hO, rfl, rfl, rfl, rfl, grown_below hb (grown_any_of h3 _)⟩
 ·rw [if_neg (by omega)]
  have hk := kind_same hS.no hg
  obtain ⟨A2, c2, e2, hr⟩ := rowX_own hown (p := p) (by decide) (fun k hk => hnew k (Nat.le_trans hb.size hk))
  injection e2 with e2 _ e3
  subst e2 e3
  refine ⟨{ x with pa := A', pn := K.length + 1, pc := c', pe := K ++ [⟨S, ⟨A, n, c, l⟩⟩] }, rfl, ⟨hblk, hS.grown_prb hg, hS.low, hS.no, ⟨hr, fun y hy => ?_⟩, hS.res.turn hk⟩, ⟨hO.val, hO.has, fun y hy => ?_, hO.res, by simp; omega, hO.rl⟩, rfl, rfl, ?_, rfl, grown_below hb hg⟩
  ·rcases List.mem_append.1 hy with hy | hy
   ·exact (hS.pes.2 y (hmem y hy)).turn hk
   ·rw [List.mem_singleton] at hy; subst hy; exact ⟨hl.turn (by decide) hk, hn⟩
  ·rcases List.mem_append.1 hy with hy | hy
   ·exact hO.pes y (hmem y hy)
   ·rw [List.mem_singleton] at hy; subst hy; exact ⟨hSl, hv⟩
  ·show (K ++ [_]).map _ = _
   rw [List.map_append, hf]; rfl
theorem pack_any (B : Nat) (p : Nat → Prop) (g : Nat) (x : StS) (A : Option Addr) (n c : Nat) (w : World) (l : Chs) (hS : StAt w B p g x) (hO : StOk x) (hnew : ∀ k, w.heap.size ≤ k → p k) (hdl : ∀ d ∈ x.ds, d.len = d.chs.length) (hn : n ≤ 100000) (hl : RowS 2 chC w w.heap.size A n l) :
  Calls Tryd.prog 7 #[.pointer (some ⟨g, 0, none⟩), .slice A n c] w (StPost B p g x (pkF x.ds x.r x.P l).1 x.Q (pkF x.ds x.r x.P l).2 w) := by
 have HST := Lib.hid hS
 have HOK := Lib.hid hO
 have HNW := Lib.hid hnew
 have HMI := Lib.hid (fun W (hb : Below w.heap.size w W) => missing_any g x.cells W (hS.blk.keep hb) rfl)
 have HVL := pvl_any A n c w l (by omega) hl
 have HPK : Eqn (pkF x.ds x.r x.P l) (if vlGo none l = true then
  if mi (stS (ofC l)) (stS (x.ds.map Dom.st)) = 0 then
   if fitsF x.ds x.r l = true then
    if (x.P.any fun o => decide (mi (stS (ofC l)) (stS (ofC o)) = 0)) = true then (x.P, 0)
    else if 1000 ≤ (x.P.filter fun o => !decide (mi (stS (ofC o)) (stS (ofC l)) = 0)).length then (x.P, 7)
    else ((x.P.filter fun o => !decide (mi (stS (ofC o)) (stS (ofC l)) = 0)) ++ [l], 0)
   else (x.P, 10)
  else (x.P, 9)
 else (x.P, 2)) := rfl
 generalize pkF x.ds x.r x.P l = R at *
 cases hv : vlGo none l with
 | false =>
  rw [hv] at HVL HPK
  have HR : Hid (R = (x.P, 2)) := Lib.hid HPK
  have HVL := Lib.hid HVL
  clear HPK hv hS hO hnew hdl hl
  go_enter Tryd.func7, Tryd.ntmps7
  go_wp2_with fail
  refine (HMI.out _ (Below.refl _ _)).mono ?_
  rintro e W1 ⟨rfl, rfl⟩
  go_wp2_with fail
  refine HVL.out.mono ?_
  rintro e W2 ⟨rfl, hb2⟩
  have HB := Lib.hid hb2
  clear hb2
  go_wp2_with fail
  go_ret
  rw [HR.out]
  exact st_same 2 HST.out HOK.out HB.out
 | true =>
  rw [hv] at HVL HPK
  have HVL := Lib.hid HVL
  have HVV := Lib.hid hv
  have hso := vl_stOk hv
  have hin := stOk_in hso
  obtain ⟨i0, hi, hz0, hz1, hz2⟩ := info_parts int_info
  have Hl := Lib.hid hl
  have Hlen := Eqn.mk hl.1
  have HPK2 : Hid (R = if mi (stS (ofC l)) x.H = 0 then
   if fitsF x.ds x.r l = true then
    if (x.P.any fun o => decide (mi (stS (ofC l)) (stS (ofC o)) = 0)) = true then (x.P, 0)
    else if 1000 ≤ (x.P.filter fun o => !decide (mi (stS (ofC o)) (stS (ofC l)) = 0)).length then (x.P, 7)
    else ((x.P.filter fun o => !decide (mi (stS (ofC o)) (stS (ofC l)) = 0)) ++ [l], 0)
   else (x.P, 10)
  else (x.P, 9)) := Lib.hid (by rw [hO.has]; exact HPK)
  have hstn : stnF x.H (ofC l) = if mi (stS (ofC l)) x.H = 0 then (stS (ofC l), 0) else (0, 9) := by unfold stnF; rw [if_pos hso]
  have HSN := Lib.hid (fun (C : Option Addr) (k : Nat) (W : World) (hb : Below w.heap.size w W) (hL : Row1 intV W W.heap.size C n (ofC l)) => (by have := stn_any g x.H x.cells C n k W (ofC l) (hS.blk.keep hb) (fun j hj => by match j, hj with | 0, _ => rfl | 1, _ => rfl | 2, _ => rfl | 3, _ => rfl | 4, _ => rfl | 5, _ => rfl | 6, _ => rfl | 7, _ => rfl) hn hL; rw [hstn] at this; exact this : Calls Tryd.prog 18 #[.pointer (some ⟨g, 0, none⟩), .slice C n k] W (RetPost (.tuple #[sV (if mi (stS (ofC l)) x.H = 0 then (stS (ofC l), (0 : Int)) else (0, 9)).1, .int .i64 (if mi (stS (ofC l)) x.H = 0 then (stS (ofC l), (0 : Int)) else (0, 9)).2]) W.heap.size W)))
  have HFT : Hid (Fit (stS (ofC l))) := Lib.hid (stS_fit hin)
  have HSO := Lib.hid hso
  clear HPK hv hS hO hnew hl hso hin hstn
  go_enter Tryd.func7, Tryd.ntmps7
  go_wp2_with fail
  refine (HMI.out _ (Below.refl _ _)).mono ?_
  rintro e W1 ⟨rfl, rfl⟩
  go_wp2_with fail
  refine HVL.out.mono ?_
  rintro e W2 ⟨rfl, hb2⟩
  have HP2 := Lib.hid (((Hp.start w).keep hb2).nil 3 1)
  clear hb2 HVL
  go_wp2_with fail
  go_loopw [5, 23] (fun v i wr => ∃ k : Nat, k ≤ n ∧ i = .int .i64 k ∧ Hp w w wr [.row v 3 1 k ((ofC (l.take k)).map intV)] []) (fun _ i _ => n - (intOf i).toNat)
  case atStart => exact ⟨0, Nat.zero_le _, rfl, HP2.out⟩
  case round =>
   clear HP2
   obtain ⟨k, hk, rfl, hP⟩ := hrel
   have HP := Lib.hid hP
   obtain ⟨A1, c1, rfl⟩ := hP.form 0 rfl
   by_cases hlt : k < n
   ·have j0 : (k : Int) < (n : Int) := by omega
    obtain ⟨y, hy⟩ : ∃ y, l[k]? = some y := ⟨_, List.getElem?_eq_getElem (by rw [Hlen.out]; exact hlt)⟩
    have HSU : Hid (ofC (l.take (k + 1)) = ofC (l.take k) ++ [y.1]) := Lib.hid (by unfold ofC; rw [List.take_add_one, hy, List.map_append]; rfl)
    obtain ⟨b, off, rfl, hbw, hcell⟩ := (Hl.out.below hP.below).2 (by omega)
    have y0 : wr.cell? ⟨b, off + k * 2, none⟩ = some (.int .i64 y.1) := hcell k y hy 0 (by decide)
    have y1 : wr.cell? ⟨b, off + k * 2 + 1, none⟩ = some (.int .i64 y.2) := hcell k y hy 1 (by decide)
    obtain ⟨ya, yb⟩ := y
    dsimp only at y0 y1 HSU
    obtain ⟨V4, hV4⟩ : ∃ V, V = wr.alloc (.cells #[.int .i64 ya, .int .i64 yb] 74) := ⟨_, rfl⟩
    have hP4 := HP.out.alloc [.int .i64 ya, .int .i64 yb] 74
    rw [show ([.int .i64 ya, .int .i64 yb] : List Value).toArray = #[.int .i64 ya, .int .i64 yb] from rfl, ← hV4] at hP4
    have HP4 := Lib.hid hP4
    have q0 := hP4.c 1 0 rfl rfl
    have q1 := hP4.lt 1 rfl
    clear hP hy hcell hbw hP4
    go_upto_region 9 with fail
    rw [← hV4]
    clear hV4 y0 y1
    generalize wr.heap.size = p7 at *
    go_wp2_with (at_builtin; refine wpList_append_own_at _ rfl _ _ 22 rfl w.heap.size 3 i0 (.int .i64 0) 1 8 Tryd.underlying22 hi hz0 hz1 hz2 rfl (by decide) _ _ _ rfl ((HP4.out.row 0 rfl).alloc _) ⟨V4.heap.size, 0, none⟩ 1 1 [.int .i64 (ya)] rfl rfl (cell_one_new _ _ _) (by simp [Value.oneCell']) (by unfold maxLen; omega) (by omega) (by have := HP4.out.below.size; simp; omega) ?_; intro v6 w6 hown' hgrow _ hat; have HP6 := Lib.hid ((HP4.out.alloc0 _).grow 0 rfl hgrow hown' hat); obtain ⟨A6, cp6, rfl⟩ := HP6.out.form 0 rfl; clear hown' hgrow hat)
    go_roundw
    case rel => exact ⟨k + 1, hlt, by go_num, by rw [HSU.out, List.map_append]; exact HP6.out.sub (by simp [intV])⟩
    case measure => simp [intOf]; omega
   ·obtain rfl : k = n := by omega
    rw [List.take_of_length_le (by rw [Hlen.out]; exact Nat.le_refl _)] at hP
    obtain ⟨n, rfl⟩ : ∃ n', n' = k := ⟨_, rfl⟩
    have HP := Lib.hid hP
    have hrow : Row1 intV wr wr.heap.size A1 n (ofC l) := by obtain ⟨A', c', e, hr⟩ := row1_of_own (hP.row 0 rfl); injection e with e; subst e; exact hr
    have HROW := Lib.hid hrow
    have HS1 := Lib.hid (HSN.out A1 c1 wr hP.below hrow)
    clear hP hrow HSN
    generalize hS : stS (ofC l) = S at *
    have HSE := Eqn.mk hS
    clear hS
    by_cases hm : mi S x.H = 0
    ·have HPK3 := Lib.hid (HPK2.out.trans (if_pos hm))
     have HMZ := Lib.hid hm
     rw [if_pos hm] at HS1
     unfold sV at HS1
     clear HPK2 hm
     go_wp2_with fail
     refine HS1.out.mono ?_
     rintro e W3 ⟨rfl, hb3⟩
     obtain ⟨p8, hp8⟩ : ∃ q, q = W3.heap.size := ⟨_, rfl⟩
     obtain ⟨V4, hV4⟩ : ∃ V, V = W3.alloc (.cells (sL S).toArray 36) := ⟨_, rfl⟩
     have hP4 := (HP.out.keep hb3).allocS S 36
     rw [← hV4, ← hp8] at hP4
     have hb4 : Below wr.heap.size wr V4 := by rw [hV4]; exact hb3.trans (((Below.refl _ W3).alloc (Nat.le_refl _) _).mono hb3.size)
     have HROW4 := Lib.hid (HROW.out.keep hb4)
     have HP4 := Lib.hid hP4
     unfold sL at hV4
     clear hb3 hP4 hb4 HP HS1 HROW
     go_upto_region 12 with fail
     rw [← hV4, ← hp8]
     clear hV4 hp8
     have hS4 := HST.out.keep HP4.out.below
     have hst := valid_st HOK.out.val
     have hnd : x.s.nd ≤ 9223372036854775807 := by have h1 : x.ds.length = x.s.nd := hS4.prb.1.1.1; have := hst.2.1; omega
     have hdl2 : ∀ d ∈ x.ds, d.len ≤ 9223372036854775807 := fun d hd => by have := hdl d hd; have := hst.2.2.1 d hd; omega
     have hrs := restrict_any x.s A1 n c1 V4 x.ds x.r (ofC l) hnd hdl2 (by omega) (hS4.prb.up (by have := hS4.blk.lt; have := hS4.low; omega)) HROW4.out
     have hrf : restF x.ds x.r (ofC l) = (((resD S x.ds).map Dom.say, resR S x.r), 0) := by
      unfold restF resD
      rw [if_pos ⟨HOK.out.val, HSO.out⟩, HSE.out, if_pos (by rw [← HOK.out.has]; exact HMZ.out)]
     rw [hrf] at hrs
     have HRS := Lib.hid hrs
     have m0 : V4.cell? ⟨g, 0, none⟩ = some (.slice x.s.ad x.s.nd x.s.cd) := hS4.blk.cell rfl
     have m1 : V4.cell? ⟨g, 1, none⟩ = some (.slice x.s.rs.a0 x.s.rs.n0 x.s.rs.c0) := hS4.blk.cell rfl
     have m2 : V4.cell? ⟨g, 2, none⟩ = some (.slice x.s.rs.a1 x.s.rs.n1 x.s.rs.c1) := hS4.blk.cell rfl
     have m3 : V4.cell? ⟨g, 3, none⟩ = some (.slice x.s.rs.a2 x.s.rs.n2 x.s.rs.c2) := hS4.blk.cell rfl
     have ml := hS4.blk.lt
     clear hS4 hst hnd hdl2 hrs hrf
     unfold PrbS.val at HRS
     go_wp2_with fail
     refine HRS.out.mono ?_
     rintro e W5 ⟨s', es, rfl, hown, hsay, hb5⟩
     obtain ⟨Ad, nd, cd, ⟨B0, n0, d0, B1, n1, d1, B2, n2, d2⟩⟩ := s'
     obtain ⟨p10, hp10⟩ : ∃ q, q = W5.heap.size := ⟨_, rfl⟩
     obtain ⟨V6, hV6⟩ : ∃ V, V = W5.alloc (.cells #[.slice Ad nd cd, .slice B0 n0 d0, .slice B1 n1 d1, .slice B2 n2 d2] 32) := ⟨_, rfl⟩
     have hP6 := (HP4.out.keep hb5).alloc [.slice Ad nd cd, .slice B0 n0 d0, .slice B1 n1 d1, .slice B2 n2 d2] 32
     rw [show ([.slice Ad nd cd, .slice B0 n0 d0, .slice B1 n1 d1, .slice B2 n2 d2] : List Value).toArray = #[.slice Ad nd cd, .slice B0 n0 d0, .slice B1 n1 d1, .slice B2 n2 d2] from rfl, ← hV6, ← hp10] at hP6
     have hb56 : Below W5.heap.size W5 V6 := by rw [hV6]; exact (Below.refl _ W5).alloc (Nat.le_refl _) _
     have hown6 := hown.keep hb56
     have hsay2 : es.map Dom.say = (resD (stS (ofC l)) x.ds).map Dom.say := by rw [HSE.out]; exact hsay
     have hval : validP es (resR S x.r) = true := by rw [← HSE.out]; exact rest_valid HOK.out.val hsay2
     have hes := valid_st hval
     have hck := chk_any ⟨Ad, nd, cd, ⟨B0, n0, d0, B1, n1, d1, B2, n2, d2⟩⟩ A n c V6 es (resR S x.r) l hn (by have := hown.1; have := hes.2.1; omega) (fun d hd => by have h1 := (hown.2.2.1 d hd).1; have := hes.2.2.1 d hd; simp only [List.length_map, Nat.mul_one] at h1; omega) ((Hl.out.below hP6.below).up hP6.below.size) hown6.at HVV.out hval
     have hfe : okF es (resR S x.r) l true = fitsF x.ds x.r l := by unfold fitsF; rw [HSE.out]; exact ok_say (by rw [hsay]) _ _ _
     rw [hfe] at hck
     have HCK := Lib.hid hck
     have HP6 := Lib.hid hP6
     have m0 := hP6.c 2 0 rfl rfl
     have m1 := hP6.c 2 1 rfl rfl
     have m2 := hP6.c 2 2 rfl rfl
     have m3 := hP6.c 2 3 rfl rfl
     have ml := hP6.lt 2 rfl
     clear hown hsay hb5 hP6 hb56 hown6 hsay2 hval hes hck hfe HRS HP4 HROW4
     unfold PrbS.val at HCK
     unfold PrbS.val
     go_upto_region 15 with fail
     rw [← hV6, ← hp10]
     clear hV6 hp10
     go_wp2_with fail
     refine HCK.out.mono ?_
     rintro e W7 ⟨vk, va, rfl, hvk, hb7⟩
     obtain ⟨p11, hp11⟩ : ∃ q, q = W7.heap.size := ⟨_, rfl⟩
     obtain ⟨V8, hV8⟩ : ∃ V, V = W7.alloc (.cells #[.int .i64 vk, .int .i64 va] 95) := ⟨_, rfl⟩
     have hP8 := (HP6.out.keep hb7).alloc [.int .i64 vk, .int .i64 va] 95
     rw [show ([.int .i64 vk, .int .i64 va] : List Value).toArray = #[.int .i64 vk, .int .i64 va] from rfl, ← hV8, ← hp11] at hP8
     have HP8 := Lib.hid hP8
     have q0 := hP8.c 3 0 rfl rfl
     have q1 := hP8.lt 3 rfl
     clear hb7 hP8 m0 m1 m2 m3 ml HP6 HCK
     go_upto_region 18 with fail
     rw [← hV8, ← hp11]
     clear hV8 hp11
     rcases hvk with ⟨hf, rfl⟩ | ⟨hf, hk0⟩
     ·have HPK4 := Lib.hid (HPK3.out.trans (if_pos hf))
      clear hf HPK3
      have hS8 := HST.out.keep HP8.out.below
      have hpl := HOK.out.pl
      have hpn : x.pn ≤ 100000 := by have := hS8.pes.1.1; omega
      have hft : ∀ y ∈ x.pe, Fit y.S := fun y hy => by rw [(HOK.out.pes y hy).1]; exact stS_fit (stOk_in (vl_stOk (HOK.out.pes y hy).2))
      have hfd := fun (W : World) (hb : Below w.heap.size w W) => findP_any 20 #[sV S] #[] (fun T => decide (mi S T = 0)) x.pa x.pn x.pc x.pe W ((HST.out.keep hb).pes.1.mono (by decide) (fun _ _ _ => trivial)) hpn (enters_of Tryd.func20 (by kernel_rfl) rfl) (fun y hy W' hb' => sub_call S HFT.out y.S W')
      rw [pk_any HOK.out fun T => decide (mi S T = 0)] at hfd
      have HFD := Lib.hid hfd
      have k0 : V8.cell? ⟨g, 13, none⟩ = some (.slice x.pa x.pn x.pc) := hS8.blk.cell rfl
      have gl := hS8.blk.lt
      have hP8 := HP8.out
      obtain ⟨c1_0, c1_1, c1_2, c1_3, c1_4, c1_5, c1_6, c1_7⟩ := (hP8.blk 1 rfl).eight; have f1 := hP8.f 1 rfl; have l1 := hP8.lt 1 rfl
      have HFTS := Lib.hid hft
      have HPN := Lib.hid hpn
      have HPD := Lib.hid hP8.drew
      clear hS8 hpl hpn hft hfd hP8
      unfold sV at HFD
      go_wp2_with fail
      refine Lx.region (C := fun _ => True) (hs := []) (by kernel_rfl) (by kernel_rfl) trivial ?_
      cases hany : x.P.any fun o => decide (mi S (stS (ofC o)) = 0) with
      | true =>
       rw [hany] at HFD
       have HR : Hid (R = (x.P, 0)) := Lib.hid (HPK4.out.trans (if_pos hany))
       clear hany HPK4
       repeat' (first | ((first | refine Lx.ln (fun K hK => ?_) | (first | (refine Lx.lp (v := ?_) ?_ (fun K hK => ?_); rotate_left 1; intro w' hCw; try dsimp only at hCw) | (refine Lx.lr (v := ?_) ?_ (fun K hK => ?_); rotate_left 1)); go_simp; first | done | with_reducible rfl); go_simp; refine hK _ ?_; clear hK K) | (refine Lx.le (fun K hK => ?_); go_simp; (first | (go_at_call 19; refine (HFD.out _ HPD.out.below).mono ?_; rintro e w9 ⟨rfl, hb9⟩; have HP9 := Lib.hid (HPD.out.keep hb9); clear hb9) | skip); refine hK _ _ (trivial) ?_; clear hK K) | (refine Lx.lex_cases rfl rfl rfl (fun hgd K hK => ?_) (fun hgd K hK => ?_) <;> (try simp only [decide_eq_true_eq, decide_eq_false_iff_not] at hgd) <;> (first | (exfalso; omega) | (go_simp; refine hK _ ?_; clear hK K))))
       all_goals (refine Lx.lex_nil ?_)
       go_wp2_with fail
       go_ret
       rw [HR.out]
       exact st_same 0 HST.out HOK.out HP9.out.below
      | false =>
       rw [hany] at HFD
       have HPK5 := Lib.hid (HPK4.out.trans (if_neg (by rw [hany]; decide)))
       clear hany HPK4
       repeat' (first | ((first | refine Lx.ln (fun K hK => ?_) | (first | (refine Lx.lp (v := ?_) ?_ (fun K hK => ?_); rotate_left 1; intro w' hCw; try dsimp only at hCw) | (refine Lx.lr (v := ?_) ?_ (fun K hK => ?_); rotate_left 1)); go_simp; first | done | with_reducible rfl); go_simp; refine hK _ ?_; clear hK K) | (refine Lx.le (fun K hK => ?_); go_simp; (first | (go_at_call 19; refine (HFD.out _ HPD.out.below).mono ?_; rintro e w9 ⟨rfl, hb9⟩; have HP9 := Lib.hid (HPD.out.keep hb9); clear hb9) | skip); refine hK _ _ (trivial) ?_; clear hK K) | (refine Lx.lex_cases rfl rfl rfl (fun hgd K hK => ?_) (fun hgd K hK => ?_) <;> (try simp only [decide_eq_true_eq, decide_eq_false_iff_not] at hgd) <;> (first | (exfalso; omega) | (go_simp; refine hK _ ?_; clear hK K))))
       all_goals (refine Lx.lex_nil ?_)
       clear k0 gl q0 q1 HPD HP8 HFD c1_0 c1_1 c1_2 c1_3 c1_4 c1_5 c1_6 c1_7 f1 l1
       have hP9 := HP9.out
       have gl := (HST.out.keep hP9.below).blk.lt
       obtain ⟨c1_0, c1_1, c1_2, c1_3, c1_4, c1_5, c1_6, c1_7⟩ := (hP9.blk 1 rfl).eight; have f1 := hP9.f 1 rfl; have l1 := hP9.lt 1 rfl
       have HPD := Lib.hid hP9.drew
       have HCL := Lib.hid (fun (W : World) (hb : Below w.heap.size w W) => cloneC_any A n c W l hn ((Hl.out.below hb).up hb.size))
       clear hP9
       go_wp2_with fail
       refine Lx.region (C := fun X => X.cell? ⟨p8, 0, none⟩ = some (.int .u64 (wd S 0)) ∧ X.cell? ⟨p8, 1, none⟩ = some (.int .u64 (wd S 1)) ∧ X.cell? ⟨p8, 2, none⟩ = some (.int .u64 (wd S 2)) ∧ X.cell? ⟨p8, 3, none⟩ = some (.int .u64 (wd S 3)) ∧ X.cell? ⟨p8, 4, none⟩ = some (.int .u64 (wd S 4)) ∧ X.cell? ⟨p8, 5, none⟩ = some (.int .u64 (wd S 5)) ∧ X.cell? ⟨p8, 6, none⟩ = some (.int .u64 (wd S 6)) ∧ X.cell? ⟨p8, 7, none⟩ = some (.int .u64 (wd S 7))) (hs := [3]) (by kernel_rfl) (by kernel_rfl) (HPD.out.blk 1 rfl).eight ?_
       repeat' (first | ((first | refine Lx.ln (fun K hK => ?_) | (first | (refine Lx.lp (v := ?_) ?_ (fun K hK => ?_); rotate_left 1; intro w' hCw; try dsimp only at hCw) | (refine Lx.lr (v := ?_) ?_ (fun K hK => ?_); rotate_left 1)); go_simp; first | done | with_reducible rfl); go_simp; refine hK _ ?_; clear hK K) | (refine Lx.le (fun K hK => ?_); go_simp; (first | (go_at_call 32; refine (HCL.out _ HPD.out.below).mono ?_; rintro e w10 ⟨v10, rfl, hown10, hb10⟩; have HP10 := Lib.hid (HPD.out.keep hb10); have HZ : Hid (w10.cell? ⟨p8, 0, none⟩ = some (.int .u64 (wd S 0)) ∧ w10.cell? ⟨p8, 1, none⟩ = some (.int .u64 (wd S 1)) ∧ w10.cell? ⟨p8, 2, none⟩ = some (.int .u64 (wd S 2)) ∧ w10.cell? ⟨p8, 3, none⟩ = some (.int .u64 (wd S 3)) ∧ w10.cell? ⟨p8, 4, none⟩ = some (.int .u64 (wd S 4)) ∧ w10.cell? ⟨p8, 5, none⟩ = some (.int .u64 (wd S 5)) ∧ w10.cell? ⟨p8, 6, none⟩ = some (.int .u64 (wd S 6)) ∧ w10.cell? ⟨p8, 7, none⟩ = some (.int .u64 (wd S 7))) := Lib.hid (HP10.out.blk 1 rfl).eight; obtain ⟨A10, c10, rfl, hr10⟩ := rowX_own (p := p) hown10 (by decide) (fun k hk => HNW.out k (Nat.le_trans HPD.out.below.size hk)); have HR10 := Lib.hid hr10; have HS10 := Lib.hid (HST.out.keep HP10.out.below); have HAD := Lib.hid (addP_any 30 #[] #[.pointer (some ⟨p8, 0, none⟩)] (fun T => decide (mi T S = 0)) g x.cells S ⟨A10, l.length, c10, l⟩ x.pa x.pn x.pc x.pe w10 HS10.out.blk rfl (HS10.out.pes.1.mono (by decide) (fun _ _ _ => trivial)) HPN.out (enters_of Tryd.func30 (by kernel_rfl) rfl) (fun y hy W hb => clo_Pack p8 S y.S (HFTS.out y hy) W ((HP10.out.blk 1 rfl).keep hb))); clear hown10 hb10 hr10; unfold sV Lem.val at HAD; dsimp only at HAD) | (go_at_call 31; refine HAD.out.mono ?_; rintro e w11 hadd; have hpg : p8 ≠ g := (by have := HP10.out.lo 1 rfl; have := HST.out.blk.lt; omega); have HZ2 : Hid (w11.cell? ⟨p8, 0, none⟩ = some (.int .u64 (wd S 0)) ∧ w11.cell? ⟨p8, 1, none⟩ = some (.int .u64 (wd S 1)) ∧ w11.cell? ⟨p8, 2, none⟩ = some (.int .u64 (wd S 2)) ∧ w11.cell? ⟨p8, 3, none⟩ = some (.int .u64 (wd S 3)) ∧ w11.cell? ⟨p8, 4, none⟩ = some (.int .u64 (wd S 4)) ∧ w11.cell? ⟨p8, 5, none⟩ = some (.int .u64 (wd S 5)) ∧ w11.cell? ⟨p8, 6, none⟩ = some (.int .u64 (wd S 6)) ∧ w11.cell? ⟨p8, 7, none⟩ = some (.int .u64 (wd S 7))) := Lib.hid (Blk.eight (t := 36) (S := S) ((added_keepP hadd p8 (HP10.out.lt 1 rfl) hpg).trans (HP10.out.blk 1 rfl))); have hd : StPost B p g x R.1 x.Q R.2 w e w11 := (by rw [HPK5.out]; exact pk_done (φ := fun T => decide (mi T S = 0)) HS10.out HOK.out HP10.out.below HNW.out HSE.out.symm HVV.out (by have := Hlen.out; omega) HR10.out hadd); obtain ⟨x', rfl, hd2⟩ := hd; have HD := Lib.hid hd2; clear hadd hpg hd2) | skip); refine hK _ _ (by first | exact HZ2.out | exact HZ.out) ?_; clear hK K) | (refine Lx.lex_cases rfl rfl rfl (fun hgd K hK => ?_) (fun hgd K hK => ?_) <;> (try simp only [decide_eq_true_eq, decide_eq_false_iff_not] at hgd) <;> (first | (exfalso; omega) | (go_simp; refine hK _ ?_; clear hK K))))
       all_goals (refine Lx.lex_nil ?_)
       go_wp2_with fail
       go_ret
       exact ⟨x', rfl, HD.out⟩
     ·have HR : Hid (R = (x.P, 10)) := Lib.hid (HPK3.out.trans (if_neg (by rw [hf]; decide)))
      have hk1 : (vk != 0) = true := by simpa using hk0
      clear hf hk0 HPK3
      go_wp2_with fail
      go_ret
      rw [HR.out]
      exact st_same 10 HST.out HOK.out HP8.out.below
    ·have HR : Hid (R = (x.P, 9)) := Lib.hid (HPK2.out.trans (if_neg hm))
     rw [if_neg hm] at HS1
     unfold sV at HS1
     clear HPK2 hm
     go_wp2_with fail
     refine HS1.out.mono ?_
     rintro e W3 ⟨rfl, hb3⟩
     have HB3 := Lib.hid (HP.out.keep hb3).below
     clear hb3 HS1 HP HROW
     go_upto_region 12 with fail
     have HB4 := Lib.hid (HB3.out.alloc HB3.out.size (.cells #[.int .u64 (wd 0 0), .int .u64 (wd 0 1), .int .u64 (wd 0 2), .int .u64 (wd 0 3), .int .u64 (wd 0 4), .int .u64 (wd 0 5), .int .u64 (wd 0 6), .int .u64 (wd 0 7)] 36))
     go_wp2_with fail
     go_ret
     rw [HR.out]
     exact st_same 9 HST.out HOK.out HB4.out
def NewPost (ds : List Dom) (r : Rul) (w : World) (e : Ending) (w' : World) : Prop :=
 if validP ds r = true then ∃ g x, e = .returned (.tuple #[.pointer (some ⟨g, 0, none⟩), .int .i64 0]) ∧ w.heap.size ≤ g ∧ (∀ p, ¬ p g → StAt w' g p g x) ∧ StOk x ∧ x.ds.map Dom.say = ds.map Dom.say ∧ x.r = r ∧ x.P = [] ∧ x.Q = [] ∧ Below w.heap.size w w'
 else e = .returned (.tuple #[.pointer none, .int .i64 2]) ∧ Below w.heap.size w w'
theorem StAt.hdl {w : World} {B : Nat} {p : Nat → Prop} {g : Nat} {x : StS} (h : StAt w B p g x) : ∀ d ∈ x.ds, d.len = d.chs.length := fun d hd => (h.prb.1.2 d hd).1.symm
theorem resD_all {ds : List Dom} (h : ∀ y ∈ ds.map Dom.st, 0 ≤ y ∧ y < 512) : (ds.filter fun d => hasS (stS (ds.map Dom.st)) d.st) = ds := by
 rw [List.filter_eq_self]
 intro d hd
 rw [hasS_mem h, decide_eq_true_eq]
 exact List.mem_map.2 ⟨d, hd, rfl⟩
theorem resR_all {ds : List Dom} {r : Rul} (h : validP ds r = true) : resR (stS (ds.map Dom.st)) r = r := by
 unfold validP validD at h
 simp only [Bool.and_eq_true] at h
 obtain ⟨_, h4, h5, h6⟩ := h
 rw [List.all_eq_true] at h4 h5 h6
 unfold resR
 have e1 := List.filter_eq_self.2 h4
 have e2 := List.filter_eq_self.2 h5
 have e3 := List.filter_eq_self.2 h6
 rw [e1, e2, e3]
theorem valid_stOk {ds : List Dom} {r : Rul} (h : validP ds r = true) : stOk (ds.map Dom.st) = true := by
 have h1 := valid_st h
 have h2 := valid_inc h
 unfold stOk
 rw [Bool.and_eq_true, List.all_eq_true]
 refine ⟨fun x hx => (stF_iff _).2 (h1.1 x hx), ?_⟩
 rw [incF_pair cmpF (fun x => [x]) cmpF_less]
 refine h2.imp (fun {a b} hab => ?_)
 unfold lessL
 rw [if_pos (by omega)]
 exact decide_eq_true hab
theorem restF_all {ds : List Dom} {r : Rul} (h : validP ds r = true) : restF ds r (ds.map Dom.st) = ((ds.map Dom.say, r), 0) := by
 unfold restF
 rw [if_pos ⟨h, valid_stOk h⟩, if_pos ((sub_iff (valid_st h).1 (valid_st h).1).2 (fun _ h => h)), resD_all (valid_st h).1, resR_all h]
theorem new_any (s : PrbS) (w : World) (hT : Tab w) (ds : List Dom) (r : Rul) (hn : s.nd ≤ 9223372036854775807) (hd : ∀ d ∈ ds, d.len ≤ 9223372036854775807) (h : PrbAt w w.heap.size s ds r) :
  Calls Tryd.prog 14 #[s.val] w (NewPost ds r w) := by
 obtain ⟨p1, hp1⟩ : ∃ q, q = w.heap.size := ⟨_, rfl⟩
 obtain ⟨V0, hV0⟩ : ∃ V, V = w.alloc (.cells #[.slice s.ad s.nd s.cd, .slice s.rs.a0 s.rs.n0 s.rs.c0, .slice s.rs.a1 s.rs.n1 s.rs.c1, .slice s.rs.a2 s.rs.n2 s.rs.c2] 32) := ⟨_, rfl⟩
 have hP0 : Hp w w V0 [.blk p1 32 [.slice s.ad s.nd s.cd, .slice s.rs.a0 s.rs.n0 s.rs.c0, .slice s.rs.a1 s.rs.n1 s.rs.c1, .slice s.rs.a2 s.rs.n2 s.rs.c2]] [] := by
  have h := (Hp.start w).alloc [.slice s.ad s.nd s.cd, .slice s.rs.a0 s.rs.n0 s.rs.c0, .slice s.rs.a1 s.rs.n1 s.rs.c1, .slice s.rs.a2 s.rs.n2 s.rs.c2] 32
  rw [hV0, hp1]; exact h
 have hb0 := hP0.below
 have HSN := Lib.hid (stations_any s V0 (hT.keep hb0) ds r hn hd ⟨h.1.keep hb0, h.2.keep hb0⟩)
 have HH := Lib.hid h
 have HND := Lib.hid (And.intro hn hd)
 have m0 := hP0.c 0 0 rfl rfl
 have m1 := hP0.c 0 1 rfl rfl
 have m2 := hP0.c 0 2 rfl rfl
 have m3 := hP0.c 0 3 rfl rfl
 have ml := hP0.lt 0 rfl
 have HP0 := Lib.hid hP0
 unfold PrbS.val at *
 clear hT hn hd h hb0 hP0
 cases hv : validP ds r with
 | false =>
  have hst : statF ds r = ([], 2) := by unfold statF; rw [hv]; rfl
  rw [hst] at HSN
  have HE : Hid (NewPost ds r w = fun e w' => e = .returned (.tuple #[.pointer none, .int .i64 2]) ∧ Below w.heap.size w w') := Lib.hid (by funext e w'; unfold NewPost; rw [if_neg (by rw [hv]; decide)])
  clear hst hv
  rw [HE.out]
  go_enter Tryd.func14, Tryd.ntmps14
  go_upto_region 1 with fail
  rw [← hV0, ← hp1]
  clear hV0 hp1
  go_wp2_with fail
  refine HSN.out.mono ?_
  rintro e W1 ⟨v, rfl, hown, hb1⟩
  have HB := Lib.hid (HP0.out.keep hb1).below
  clear hown hb1
  go_wp2_with fail
  go_ret2
  exact ⟨rfl, HB.out⟩
 | true =>
  have hst : statF ds r = (ds.map Dom.st, 0) := by unfold statF; rw [hv]; rfl
  rw [hst] at HSN
  have HE : Hid (NewPost ds r w = fun e w' => ∃ g x, e = .returned (.tuple #[.pointer (some ⟨g, 0, none⟩), .int .i64 0]) ∧ w.heap.size ≤ g ∧ (∀ p, ¬ p g → StAt w' g p g x) ∧ StOk x ∧ x.ds.map Dom.say = ds.map Dom.say ∧ x.r = r ∧ x.P = [] ∧ x.Q = [] ∧ Below w.heap.size w w') := Lib.hid (by funext e w'; unfold NewPost; rw [if_pos hv])
  have HRF := Lib.hid (restF_all hv)
  have HV := Lib.hid hv
  have hin := (valid_st hv).1
  have HOF := Lib.hid (And.intro (ofF_in hin) (stS_fit hin))
  have hlen : (ds.map Dom.st).length ≤ 512 := by have := (valid_st hv).2.1; rw [List.length_map]; exact this
  have HLN := Lib.hid hlen
  clear hst hv hin hlen
  rw [HE.out]
  generalize hL : ds.map Dom.st = L at *
  have HL := Lib.hid hL
  clear hL
  go_enter Tryd.func14, Tryd.ntmps14
  go_upto_region 1 with fail
  rw [← hV0, ← hp1]
  clear hV0 hp1
  go_wp2_with fail
  refine HSN.out.mono ?_
  rintro e W1 ⟨v, rfl, hown, hb1⟩
  have hP1 := HP0.out.pushRow hb1 hown
  obtain ⟨vA, vc, rfl⟩ := hP1.form 1 rfl
  have hrow := row1_own hown
  have hb01 := hP1.below
  have hrs := restrict_any s vA L.length vc W1 ds r L HND.out.1 HND.out.2 (by have := HLN.out; omega) ⟨HH.out.1.keep hb01, HH.out.2.keep hb01⟩ hrow
  have hrf := HRF.out
  rw [hrf] at hrs
  have HRS := Lib.hid hrs
  have HP1 := Lib.hid hP1
  have HROW := Lib.hid hrow
  unfold PrbS.val at HRS
  clear m0 m1 m2 m3 ml HP0 HSN hown hb1
  have m0 := hP1.c 0 0 rfl rfl
  have m1 := hP1.c 0 1 rfl rfl
  have m2 := hP1.c 0 2 rfl rfl
  have m3 := hP1.c 0 3 rfl rfl
  have ml := hP1.lt 0 rfl
  clear hP1 hrow hb01 hrs hrf
  go_wp2_with fail
  refine HRS.out.mono ?_
  rintro e W5 ⟨s', es, rfl, hown, hsay, hb5⟩
  obtain ⟨Ad, nd, cd, ⟨B0, n0, d0, B1, n1, d1, B2, n2, d2⟩⟩ := s'
  have hP5 := HP1.out.keep hb5
  have hr5 := HROW.out.keep hb5
  clear m0 m1 m2 m3 ml HRS
  have ml := hP5.lt 0 rfl
  have m0 := hP5.c 0 0 rfl rfl
  have m1 := hP5.c 0 1 rfl rfl
  have m2 := hP5.c 0 2 rfl rfl
  have m3 := hP5.c 0 3 rfl rfl
  have mf := hP5.f 0 rfl
  have hpl : p1 < W1.heap.size := HP1.out.lt 0 rfl
  have HOWN := Lib.hid hown
  have HSAY := Lib.hid hsay
  have HP5 := Lib.hid hP5
  have HR5 := Lib.hid hr5
  have HPL := Lib.hid hpl
  clear hown hsay hb5 hP5 hr5 hpl HP1 HROW
  unfold PrbS.val
  dsimp only
  go_upto_region 5 with fail
  obtain ⟨V6, hV6⟩ : ∃ V, V = (((W5.setCell ⟨p1, 0, none⟩ (.slice Ad nd cd)).setCell ⟨p1, 1, none⟩ (.slice B0 n0 d0)).setCell ⟨p1, 2, none⟩ (.slice B1 n1 d1)).setCell ⟨p1, 3, none⟩ (.slice B2 n2 d2) := ⟨_, rfl⟩
  rw [← hV6]
  have hP6 := (((HP5.out.set 0 0 (.slice Ad nd cd) rfl).set 0 1 (.slice B0 n0 d0) rfl).set 0 2 (.slice B1 n1 d1) rfl).set 0 3 (.slice B2 n2 d2) rfl
  rw [← hV6] at hP6
  have hown6 : PrbOwn W1.heap.size ⟨Ad, nd, cd, ⟨B0, n0, d0, B1, n1, d1, B2, n2, d2⟩⟩ es r V6 := by rw [hV6]; exact (((HOWN.out.set HPL.out _).set HPL.out _).set HPL.out _).set HPL.out _
  have hrow6 : Row1 intV V6 V6.heap.size vA L.length L := row1_own (hP6.row 1 rfl)
  have hof := of_any vA L.length vc V6 L (by have := HLN.out; omega) hrow6
  rw [HOF.out.1] at hof
  have HO6 := Lib.hid hof
  have HP6 := Lib.hid hP6
  have HOWN6 := Lib.hid hown6
  unfold sV at HO6
  clear m0 m1 m2 m3 ml mf hV6 hP6 hown6 hrow6 hof HP5 HR5 HPL HOWN
  go_wp2_with fail
  refine HO6.out.mono ?_
  rintro e W7 ⟨rfl, hb7⟩
  obtain ⟨p6, hp6⟩ : ∃ q, q = W7.heap.size := ⟨_, rfl⟩
  obtain ⟨V8, hV8⟩ : ∃ V, V = W7.alloc (.cells (sL (stS L)).toArray 36) := ⟨_, rfl⟩
  have hP8 := (HP6.out.keep hb7).allocS (stS L) 36
  rw [← hV8, ← hp6] at hP8
  have hown8 := HOWN6.out.keep (W' := V8) (by rw [hV8]; exact hb7.trans (((Below.refl _ W7).alloc (Nat.le_refl _) _).mono hb7.size))
  have HP8 := Lib.hid hP8
  have HOWN8 := Lib.hid hown8
  have m0 := hP8.c 0 0 rfl rfl
  have m1 := hP8.c 0 1 rfl rfl
  have m2 := hP8.c 0 2 rfl rfl
  have m3 := hP8.c 0 3 rfl rfl
  have ml := hP8.lt 0 rfl
  unfold sL at hV8
  obtain ⟨c2_0, c2_1, c2_2, c2_3, c2_4, c2_5, c2_6, c2_7⟩ := (hP8.blk 2 rfl).eight; have f2 := hP8.f 2 rfl; have l2 := hP8.lt 2 rfl
  clear hb7 hP8 hown8 HO6 HP6 HOWN6
  go_upto_region 8 with fail
  rw [← hV8, ← hp6]
  clear hV8 hp6
  go_wp2_with fail
  go_ret2
  have hpa := HOWN8.out.at
  have hdk : ∀ (o : Obj), Below V8.heap.size V8 (V8.alloc o) := fun o => (Below.refl _ V8).alloc (Nat.le_refl _) _
  refine ⟨V8.heap.size, ⟨⟨Ad, nd, cd, ⟨B0, n0, d0, B1, n1, d1, B2, n2, d2⟩⟩, es, r, stS L, none, 0, 0, [], none, 0, 0, []⟩, rfl, HP8.out.below.size, fun p hp => ⟨?_, hpa.below (hdk _), Nat.le_refl _, hp, ⟨RowX.nil _ _ _ _ _, fun _ h => (by cases h)⟩, ⟨RowX.nil _ _ _ _ _, fun _ h => (by cases h)⟩⟩, ⟨?_, ?_, fun _ h => (by cases h), fun _ h => (by cases h), Nat.zero_le _, Nat.zero_le _⟩, HSAY.out, rfl, rfl, rfl, HP8.out.below.trans ((hdk _).mono HP8.out.below.size)⟩
  ·exact blk_new V8 _ _
  ·dsimp only
   rw [valid_say HSAY.out]; exact HV.out
  ·dsimp only
   rw [st_say HSAY.out, HL.out]
end Go.Proofs.YtdpbbhbegehcjaaDoor

namespace Go.Proofs.YtdpbbhbegehcjaaDoor
open Go.RowKit
theorem take_snoc {α : Type} {xs : List α} {k : Nat} {x : α} (hx : xs[k]? = some x) : xs.take (k + 1) = xs.take k ++ [x] := by rw [List.take_add_one, hx]; rfl
structure Acd where
 kind : Int
 ch : Lem
 pr : Prf
 ta : Option Addr
 tn : Nat
 tc : Nat
 ts : List Int
def Acd.cell (x : Acd) : Nat → Value
 | 0 => .int .i64 x.kind
 | 1 => x.ch.val
 | 2 => x.pr.v1
 | 3 => x.pr.v2
 | _ => .slice x.ta x.tn x.tc
end Go.Proofs.YtdpbbhbegehcjaaDoor

namespace Go.Proofs.YtdpbbhbegehcjaaDoor
open Go.RowKit Go.Shelf
theorem eq_no {α : Type} {a b : List α} {k : Nat} {x y : α} (hx : a[k]? = some x) (hy : b[k]? = some y) (h : x ≠ y) : a ≠ b := fun e => by subst e; rw [hx] at hy; exact h (Option.some.inj hy)
theorem take_eq {α : Type} {a b : List α} {k : Nat} {x y : α} (hx : a[k]? = some x) (hy : b[k]? = some y) (h : x = y) (ht : a.take k = b.take k) : a.take (k + 1) = b.take (k + 1) := by rw [take_snoc hx, take_snoc hy, ht, h]
theorem take_all {α : Type} {a b : List α} {k : Nat} (ha : a.length = k) (hb : b.length = k) (ht : a.take k = b.take k) : a = b := by rwa [List.take_of_length_le (by omega), List.take_of_length_le (by omega)] at ht
theorem sameList_any (A B : Option Addr) (n c m d : Nat) (w : World) (D : Nat) (a b : List (Int × Int)) (hn : n ≤ 9223372036854775807) (ha : RowS 2 chC w D A n a) (hb : RowS 2 chC w D B m b) :
  Calls Tryd.prog 25 #[.slice A n c, .slice B m d] w fun e w' => e = .returned (.bool (decide (a = b))) ∧ Below D w w' := by
 have Ha := Lib.hid ha
 have Hb := Lib.hid hb
 have Hla := Eqn.mk ha.1
 have Hlb := Eqn.mk hb.1
 clear ha hb
 by_cases hnm : n = m
 ·subst hnm
  go_enter Tryd.func25, Tryd.ntmps25
  go_wp2_with fail
  go_loopw [5] (fun i wr => ∃ k : Nat, k ≤ n ∧ i = .int .i64 k ∧ a.take k = b.take k ∧ Below D w wr) (fun i _ => n - (intOf i).toNat)
  case atStart => exact ⟨0, Nat.zero_le _, rfl, rfl, Below.refl _ _⟩
  case round =>
   obtain ⟨k, hk, rfl, ht, hB⟩ := hrel
   have HB := Lib.hid hB
   have HT := Lib.hid ht
   clear ht
   by_cases hlt : k < n
   ·obtain ⟨⟨xa, xb⟩, hx⟩ : ∃ x, a[k]? = some x := ⟨_, List.getElem?_eq_getElem (by rw [Hla.out]; exact hlt)⟩
    obtain ⟨⟨ya, yb⟩, hy⟩ : ∃ x, b[k]? = some x := ⟨_, List.getElem?_eq_getElem (by rw [Hlb.out]; exact hlt)⟩
    obtain ⟨b1, o1, rfl, hl1, hc1⟩ := (Ha.out.below hB).2 (by omega)
    obtain ⟨b2, o2, rfl, hl2, hc2⟩ := (Hb.out.below hB).2 (by omega)
    have c1 : wr.cell? ⟨b1, o1 + k * 2, none⟩ = some (.int .i64 xa) := hc1 k _ hx 0 (by decide)
    have c2 : wr.cell? ⟨b1, o1 + k * 2 + 1, none⟩ = some (.int .i64 xb) := hc1 k _ hx 1 (by decide)
    have c3 : wr.cell? ⟨b2, o2 + k * 2, none⟩ = some (.int .i64 ya) := hc2 k _ hy 0 (by decide)
    have c4 : wr.cell? ⟨b2, o2 + k * 2 + 1, none⟩ = some (.int .i64 yb) := hc2 k _ hy 1 (by decide)
    have j0 : (k : Int) < (n : Int) := by omega
    have HEQ : Hid ((xa, xb) = (ya, yb) → a.take (k + 1) = b.take (k + 1)) := Lib.hid (fun h => take_eq hx hy h HT.out)
    have HNE : Hid ((xa, xb) ≠ (ya, yb) → decide (a = b) = false) := Lib.hid (fun h => decide_eq_false (eq_no hx hy h))
    clear hc1 hc2 hx hy hB HT
    by_cases h1 : xa = ya
    ·have d1 : (xa == ya) = true := by simpa using h1
     by_cases h2 : xb = yb
     ·have d2 : (xb == yb) = true := by simpa using h2
      have HV := Lib.hid (HEQ.out (by rw [h1, h2]))
      clear h1 h2
      go_wp2_with fail
      refine Lx.region (C := fun _ => True) (hs := []) (by kernel_rfl) (by kernel_rfl) trivial ?_
      repeat' (first | ((first | refine Lx.ln (fun K hK => ?_) | (first | (refine Lx.lp (v := ?_) ?_ (fun K hK => ?_); rotate_left 1; intro w' hCw; try dsimp only at hCw) | (refine Lx.lr (v := ?_) ?_ (fun K hK => ?_); rotate_left 1)); go_simp; first | done | with_reducible rfl); go_simp; refine hK _ ?_; clear hK K) | (refine Lx.le (fun K hK => ?_); go_simp; (first | fail | skip); refine hK _ _ (trivial) ?_; clear hK K) | (refine Lx.lex_cases rfl rfl rfl (fun hgd K hK => ?_) (fun hgd K hK => ?_) <;> (try simp only [decide_eq_true_eq, decide_eq_false_iff_not] at hgd) <;> (first | (exfalso; omega) | (go_simp; refine hK _ ?_; clear hK K))))
      all_goals (refine Lx.lex_nil ?_)
      go_wp2_with fail
      go_roundw
      case rel => exact ⟨k + 1, by omega, by go_num, HV.out, HB.out.drew⟩
      case measure => simp [intOf]; omega
     ·have d2 : (xb == yb) = false := by simpa using h2
      have HV := Lib.hid (HNE.out (by rintro ⟨⟩; exact h2 rfl))
      clear h1 h2
      go_wp2_with fail
      refine Lx.region (C := fun _ => True) (hs := []) (by kernel_rfl) (by kernel_rfl) trivial ?_
      repeat' (first | ((first | refine Lx.ln (fun K hK => ?_) | (first | (refine Lx.lp (v := ?_) ?_ (fun K hK => ?_); rotate_left 1; intro w' hCw; try dsimp only at hCw) | (refine Lx.lr (v := ?_) ?_ (fun K hK => ?_); rotate_left 1)); go_simp; first | done | with_reducible rfl); go_simp; refine hK _ ?_; clear hK K) | (refine Lx.le (fun K hK => ?_); go_simp; (first | fail | skip); refine hK _ _ (trivial) ?_; clear hK K) | (refine Lx.lex_cases rfl rfl rfl (fun hgd K hK => ?_) (fun hgd K hK => ?_) <;> (try simp only [decide_eq_true_eq, decide_eq_false_iff_not] at hgd) <;> (first | (exfalso; omega) | (go_simp; refine hK _ ?_; clear hK K))))
      all_goals (refine Lx.lex_nil ?_)
      go_wp2_with fail
      go_ret
      exact ⟨ret_bool HV.out.symm, HB.out.drew⟩
    ·have d1 : (xa == ya) = false := by simpa using h1
     have HV := Lib.hid (HNE.out (by rintro ⟨⟩; exact h1 rfl))
     clear h1
     go_wp2_with fail
     refine Lx.region (C := fun _ => True) (hs := []) (by kernel_rfl) (by kernel_rfl) trivial ?_
     repeat' (first | ((first | refine Lx.ln (fun K hK => ?_) | (first | (refine Lx.lp (v := ?_) ?_ (fun K hK => ?_); rotate_left 1; intro w' hCw; try dsimp only at hCw) | (refine Lx.lr (v := ?_) ?_ (fun K hK => ?_); rotate_left 1)); go_simp; first | done | with_reducible rfl); go_simp; refine hK _ ?_; clear hK K) | (refine Lx.le (fun K hK => ?_); go_simp; (first | fail | skip); refine hK _ _ (trivial) ?_; clear hK K) | (refine Lx.lex_cases rfl rfl rfl (fun hgd K hK => ?_) (fun hgd K hK => ?_) <;> (try simp only [decide_eq_true_eq, decide_eq_false_iff_not] at hgd) <;> (first | (exfalso; omega) | (go_simp; refine hK _ ?_; clear hK K))))
     all_goals (refine Lx.lex_nil ?_)
     go_wp2_with fail
     go_ret
     exact ⟨ret_bool HV.out.symm, HB.out.drew⟩
   ·obtain rfl : k = n := by omega
    have HV := Lib.hid (decide_eq_true (take_all Hla.out Hlb.out HT.out))
    clear HT hB
    go_wp2_with fail
    go_ret
    exact ⟨ret_bool HV.out.symm, HB.out⟩
 ·have HV : Hid (decide (a = b) = false) := Lib.hid (decide_eq_false (fun e => by have := congrArg List.length e; rw [Hla.out, Hlb.out] at this; exact hnm this))
  have hne : ((n : Int) != (m : Int)) = true := by simp; omega
  go_enter Tryd.func25, Tryd.ntmps25
  go_wp2_with fail
  go_ret
  exact ⟨ret_bool HV.out.symm, Below.refl _ _⟩
theorem nsame_any (A B : Option Addr) (n c m d : Nat) (w : World) (a b : List Lem) (hn : n ≤ 9223372036854775807) (ha : RowX 1 lemC w (fun _ => True) A n a) (hb : RowX 1 lemC w (fun _ => True) B m b) (hla : ∀ x ∈ a, x.At w (fun _ => True)) (hlb : ∀ x ∈ b, x.At w (fun _ => True)) :
  Calls Tryd.prog 50 #[.slice A n c, .slice B m d] w (RetPost (.bool (decide (a.map Lem.chs = b.map Lem.chs))) w.heap.size w) := by
 have Ha := Lib.hid ha
 have Hb := Lib.hid hb
 have Hxa := Lib.hid hla
 have Hxb := Lib.hid hlb
 have Hla := Eqn.mk ha.1
 have Hlb := Eqn.mk hb.1
 have Hma : Hid ((a.map Lem.chs).length = n ∧ (b.map Lem.chs).length = m) := Lib.hid ⟨by rw [List.length_map]; exact ha.1, by rw [List.length_map]; exact hb.1⟩
 clear ha hb hla hlb
 by_cases hnm : n = m
 ·subst hnm
  go_enter Tryd.func50, Tryd.ntmps50
  go_wp2_with fail
  go_loopw [5] (fun i wr => ∃ k : Nat, k ≤ n ∧ i = .int .i64 k ∧ (a.map Lem.chs).take k = (b.map Lem.chs).take k ∧ Below w.heap.size w wr) (fun i _ => n - (intOf i).toNat)
  case atStart => exact ⟨0, Nat.zero_le _, rfl, rfl, Below.refl _ _⟩
  case round =>
   obtain ⟨k, hk, rfl, ht, hB⟩ := hrel
   have HB := Lib.hid hB
   have HT := Lib.hid ht
   clear ht
   by_cases hlt : k < n
   ·obtain ⟨x, hx⟩ : ∃ x, a[k]? = some x := ⟨_, List.getElem?_eq_getElem (by rw [Hla.out]; exact hlt)⟩
    obtain ⟨y, hy⟩ : ∃ x, b[k]? = some x := ⟨_, List.getElem?_eq_getElem (by rw [Hlb.out]; exact hlt)⟩
    obtain ⟨b1, o1, rfl, hl1, hc1⟩ := (Ha.out.keep (by decide) hB).2 (by omega)
    obtain ⟨b2, o2, rfl, hl2, hc2⟩ := (Hb.out.keep (by decide) hB).2 (by omega)
    have c1 : wr.cell? ⟨b1, o1 + k, none⟩ = some (.slice x.adr x.len x.cap) := by have := hc1 k x hx 0 (by decide); rwa [Nat.mul_one, Nat.add_zero] at this
    have c2 : wr.cell? ⟨b2, o2 + k, none⟩ = some (.slice y.adr y.len y.cap) := by have := hc2 k y hy 0 (by decide); rwa [Nat.mul_one, Nat.add_zero] at this
    have j0 : (k : Int) < (n : Int) := by omega
    have hx' : (a.map Lem.chs)[k]? = some x.chs := by rw [List.getElem?_map, hx]; rfl
    have hy' : (b.map Lem.chs)[k]? = some y.chs := by rw [List.getElem?_map, hy]; rfl
    have HEQ : Hid (x.chs = y.chs → (a.map Lem.chs).take (k + 1) = (b.map Lem.chs).take (k + 1)) := Lib.hid (fun h => take_eq hx' hy' h HT.out)
    have HNE : Hid (¬ x.chs = y.chs → decide (a.map Lem.chs = b.map Lem.chs) = false) := Lib.hid (fun h => decide_eq_false (eq_no hx' hy' h))
    have hxA := (Hxa.out x (List.mem_of_getElem? hx)).keep (hB.trans ((Below.refl _ wr).drew.mono hB.size))
    have hyA := (Hxb.out y (List.mem_of_getElem? hy)).keep (hB.trans ((Below.refl _ wr).drew.mono hB.size))
    have HS := Lib.hid (sameList_any x.adr y.adr x.len x.cap y.len y.cap wr.drew wr.drew.heap.size x.chs y.chs (by have := hxA.2; omega) hxA.rowS hyA.rowS)
    clear hc1 hc2 hx hy hB HT hx' hy' hxA hyA
    by_cases h1 : x.chs = y.chs
    ·have HV := Lib.hid (HEQ.out h1)
     rw [decide_eq_true h1] at HS
     clear h1
     go_wp2_with fail
     refine Lx.region (C := fun _ => True) (hs := []) (by kernel_rfl) (by kernel_rfl) trivial ?_
     repeat' (first | ((first | refine Lx.ln (fun K hK => ?_) | (first | (refine Lx.lp (v := ?_) ?_ (fun K hK => ?_); rotate_left 1; intro w' hCw; try dsimp only at hCw) | (refine Lx.lr (v := ?_) ?_ (fun K hK => ?_); rotate_left 1)); go_simp; first | done | with_reducible rfl); go_simp; refine hK _ ?_; clear hK K) | (refine Lx.le (fun K hK => ?_); go_simp; (first | (go_at_call 25; refine HS.out.mono ?_; rintro e w5 ⟨rfl, hb5⟩; have HB5 := Lib.hid (HB.out.drew.trans (hb5.mono HB.out.drew.size)); clear hb5) | skip); refine hK _ _ (trivial) ?_; clear hK K) | (refine Lx.lex_cases rfl rfl rfl (fun hgd K hK => ?_) (fun hgd K hK => ?_) <;> (try simp only [decide_eq_true_eq, decide_eq_false_iff_not] at hgd) <;> (first | (exfalso; omega) | (go_simp; refine hK _ ?_; clear hK K))))
     all_goals (refine Lx.lex_nil ?_)
     go_wp2_with fail
     go_roundw
     case rel => exact ⟨k + 1, by omega, by go_num, HV.out, HB5.out⟩
     case measure => simp [intOf]; omega
    ·have HV := Lib.hid (HNE.out h1)
     rw [decide_eq_false h1] at HS
     clear h1
     go_wp2_with fail
     refine Lx.region (C := fun _ => True) (hs := []) (by kernel_rfl) (by kernel_rfl) trivial ?_
     repeat' (first | ((first | refine Lx.ln (fun K hK => ?_) | (first | (refine Lx.lp (v := ?_) ?_ (fun K hK => ?_); rotate_left 1; intro w' hCw; try dsimp only at hCw) | (refine Lx.lr (v := ?_) ?_ (fun K hK => ?_); rotate_left 1)); go_simp; first | done | with_reducible rfl); go_simp; refine hK _ ?_; clear hK K) | (refine Lx.le (fun K hK => ?_); go_simp; (first | (go_at_call 25; refine HS.out.mono ?_; rintro e w5 ⟨rfl, hb5⟩; have HB5 := Lib.hid (HB.out.drew.trans (hb5.mono HB.out.drew.size)); clear hb5) | skip); refine hK _ _ (trivial) ?_; clear hK K) | (refine Lx.lex_cases rfl rfl rfl (fun hgd K hK => ?_) (fun hgd K hK => ?_) <;> (try simp only [decide_eq_true_eq, decide_eq_false_iff_not] at hgd) <;> (first | (exfalso; omega) | (go_simp; refine hK _ ?_; clear hK K))))
     all_goals (refine Lx.lex_nil ?_)
     go_wp2_with fail
     go_ret
     exact ⟨ret_bool HV.out.symm, HB5.out⟩
   ·obtain rfl : k = n := by omega
    have HV := Lib.hid (decide_eq_true (take_all Hma.out.1 Hma.out.2 HT.out))
    clear HT hB
    go_wp2_with fail
    go_ret
    exact ⟨ret_bool HV.out.symm, HB.out⟩
 ·have HV : Hid (decide (a.map Lem.chs = b.map Lem.chs) = false) := Lib.hid (decide_eq_false (fun e => by have := congrArg List.length e; rw [Hma.out.1, Hma.out.2] at this; exact hnm this))
  have hne : ((n : Int) != (m : Int)) = true := by simp; omega
  go_enter Tryd.func50, Tryd.ntmps50
  go_wp2_with fail
  go_ret
  exact ⟨ret_bool HV.out.symm, Below.refl _ _⟩
theorem say_iff (x y : Prf) : x.say = y.say ↔ x.sts = y.sts ∧ x.lms.map Lem.chs = y.lms.map Lem.chs := by unfold Prf.say; exact Prod.mk.injEq _ _ _ _ ▸ Iff.rfl
theorem psame_any (x y : Prf) (w : World) (hx : x.At w (fun _ => True)) (hy : y.At w (fun _ => True)) : Calls Tryd.prog 26 #[x.val, y.val] w (RetPost (.bool (decide (x.say = y.say))) w.heap.size w) := by
 obtain ⟨p, hp⟩ : ∃ p, p = w.heap.size := ⟨_, rfl⟩
 obtain ⟨q, hq⟩ : ∃ p, p = w.heap.size + 1 := ⟨_, rfl⟩
 obtain ⟨V0, hV0⟩ : ∃ V0, V0 = (w.alloc (.cells #[.slice x.sa x.sn x.sc, .slice x.la x.ln x.lc] 50)).alloc (.cells #[.slice y.sa y.sn y.sc, .slice y.la y.ln y.lc] 50) := ⟨_, rfl⟩
 have hP0 : Hp w w V0 [.blk p 50 [.slice x.sa x.sn x.sc, .slice x.la x.ln x.lc], .blk q 50 [.slice y.sa y.sn y.sc, .slice y.la y.ln y.lc]] [] := by
  have h := ((Hp.start w).alloc [.slice x.sa x.sn x.sc, .slice x.la x.ln x.lc] 50).alloc [.slice y.sa y.sn y.sc, .slice y.la y.ln y.lc] 50
  simp only [World.size_alloc] at h
  rw [hV0, hp, hq]; exact h
 have hx0 := hx.keep hP0.below
 have hy0 := hy.keep hP0.below
 have HSI := Lib.hid (sameInts_any x.sa y.sa x.sn x.sc y.sn y.sc V0 V0.heap.size x.sts y.sts hx.2.2.2.1 hx0.ints hy0.ints)
 have HNS := Lib.hid (fun (W : World) (hb : Below V0.heap.size V0 W) => nsame_any x.la y.la x.ln x.lc y.ln y.lc W x.lms y.lms (by have := hx.2.2.2.2; omega) (hx0.keep hb).2.1 (hy0.keep hb).2.1 (hx0.keep hb).2.2.1 (hy0.keep hb).2.2.1)
 have HP0 := Lib.hid hP0
 have HSY := Lib.hid (say_iff x y)
 have z0 := hP0.c 0 0 rfl rfl
 have z1 := hP0.c 0 1 rfl rfl
 have zl := hP0.lt 0 rfl
 have y0 := hP0.c 1 0 rfl rfl
 have y1 := hP0.c 1 1 rfl rfl
 have yl := hP0.lt 1 rfl
 unfold Prf.val Prf.v1 Prf.v2
 clear hP0 hx hy hx0 hy0
 by_cases hs : x.sts = y.sts
 ·rw [(sameL_iff _ _).2 hs] at HSI
  have HE : Hid (decide (x.say = y.say) = decide (x.lms.map Lem.chs = y.lms.map Lem.chs)) := Lib.hid (decide_eq_decide.2 (by rw [HSY.out]; exact ⟨fun h => h.2, fun h => ⟨hs, h⟩⟩))
  generalize decide (x.say = y.say) = ans at *
  generalize decide (x.lms.map Lem.chs = y.lms.map Lem.chs) = a2 at *
  clear hs HSY
  go_enter Tryd.func26, Tryd.ntmps26
  go_upto_region 1 with fail
  rw [← hV0, ← hq, ← hp]
  clear hV0 hp hq
  go_wp2_with fail
  refine HSI.out.mono ?_
  rintro e W1 ⟨rfl, hb1⟩
  have hP1 := HP0.out.keep hb1
  have HN1 := Lib.hid (HNS.out W1 hb1)
  have HP1 := Lib.hid hP1
  clear z0 z1 zl y0 y1 yl HP0 HSI HNS hb1
  have z0 := hP1.c 0 0 rfl rfl
  have z1 := hP1.c 0 1 rfl rfl
  have zl := hP1.lt 0 rfl
  have y0 := hP1.c 1 0 rfl rfl
  have y1 := hP1.c 1 1 rfl rfl
  have yl := hP1.lt 1 rfl
  clear hP1
  go_wp2_with fail
  refine HN1.out.mono ?_
  rintro e W2 ⟨rfl, hb2⟩
  have HP2 := Lib.hid (HP1.out.keep hb2).below
  clear hb2 HN1 z0 z1 zl y0 y1 yl
  go_wp2_with fail
  go_ret
  exact ⟨ret_bool HE.out.symm, HP2.out⟩
 ·have hsl : sameL x.sts y.sts = false := by cases h : sameL x.sts y.sts with | false => rfl | true => exact absurd ((sameL_iff _ _).1 h) hs
  rw [hsl] at HSI
  have HE : Hid (decide (x.say = y.say) = false) := Lib.hid (decide_eq_false (by rw [HSY.out]; exact fun h => hs h.1))
  generalize decide (x.say = y.say) = ans at *
  clear hs HSY hsl HNS
  go_enter Tryd.func26, Tryd.ntmps26
  go_upto_region 1 with fail
  rw [← hV0, ← hq, ← hp]
  clear hV0 hp hq
  go_wp2_with fail
  refine HSI.out.mono ?_
  rintro e W1 ⟨rfl, hb1⟩
  have HP1 := Lib.hid (HP0.out.keep hb1).below
  clear z0 z1 zl y0 y1 yl HP0 HSI hb1
  go_wp2_with fail
  go_ret
  exact ⟨ret_bool HE.out.symm, HP1.out⟩
attribute [local go_sem] Oper.semAt_some
theorem allR_any (A : Option Addr) (m c : Nat) (w : World) : Calls Tryd.prog 47 #[.agg #[.slice A m c]] w fun e w' => e = .returned (.func (.func 66) #[] #[.pointer (some ⟨w.heap.size, 0, none⟩)]) ∧ w' = w.alloc (.cells #[.slice A m c] 42) := by
 go_enter Tryd.func47, Tryd.ntmps47
 go_wp2
 go_ret
 exact ⟨rfl, rfl⟩
theorem all1R (n : Nat) (hn : 1 ≤ n) (n₀ Bn Bq : Nat) (A : Option Addr) (m c : Nat) (L : List REn) (w : World) (hB : Blk w Bq 42 [.slice A m c]) (hL : RowX 10 REn.cell w (· < n₀) A m L) (hn₀ : n₀ ≤ w.heap.size) (hm : m ≤ 100000) :
  SeqHands Fence.wide n Tryd.prog 66 #[.pointer (some ⟨Bq, 0, none⟩)] (fun x : Nat × REn => #[Value.int .i64 x.1, x.2.val]) (Keep1 n₀ Bn) false (fun pre x _ _ => x.1 = pre.length ∧ L[pre.length]? = some x.2) (fun xs => xs.length = L.length) (fun _ => True) L.length w := by
 intro l J Jx W hW hJ hJx hY h0
 refine callsIn_of_wp Tryd.func66 rfl trivial ?_ rfl
 simp only [Tryd.ntmps66, List.size_toArray, List.length_cons, List.length_nil, Nat.reduceAdd, Nat.reduceSub, Array.replicate_succ, Array.replicate_zero, List.push_toArray, List.append_toArray, List.nil_append, List.cons_append]
 have hlen := hL.1
 have c0 : W.cell? ⟨Bq, 0, none⟩ = some (.slice A m c) := (hB.keep hW).cell rfl
 have HL := Lib.hid (hL.keep (by decide) hW)
 have HS := Lib.hid (Nat.le_trans hn₀ hW.size)
 have H0 := Lib.hid h0
 have HY := Lib.hid hY
 have HJ := Lib.hid hJ
 have Hlen := Eqn.mk hlen
 clear hB hL hlen hW hJ hJx hY h0 hn₀
 gi_wp2_with fail
 gi_loopw [8] (fun i wr => ∃ (k : Nat) (pre : List (Nat × REn)), k ≤ m ∧ i = .int .i64 k ∧ pre.length = k ∧ J pre wr ∧ Below n₀ W wr) (fun i _ => m - (intOf i).toNat)
 case atStart => exact ⟨0, [], Nat.zero_le _, rfl, rfl, H0.out, Below.refl _ _⟩
 case round =>
  clear H0 c0
  obtain ⟨k, pre, hk, rfl, hp, hJs, hb⟩ := hrel
  by_cases hlt : k < m
  ·have j0 : (k : Int) < (m : Int) := by omega
   obtain ⟨x, hx⟩ : ∃ x, L[k]? = some x := ⟨_, List.getElem?_eq_getElem (by rw [Hlen.out]; exact hlt)⟩
   have hR := HL.out.turn (by decide) (fun q (hq : q < n₀) _ => hb.block q hq)
   obtain ⟨b, off, rfl, hbn, hcell⟩ := hR.2 (by omega)
   have y0 : wr.cell? ⟨b, off + k * 10, none⟩ = some (.int .u64 (wd x.S 0)) := hcell k x hx 0 (by decide)
   have y1 : wr.cell? ⟨b, off + k * 10 + 1, none⟩ = some (.int .u64 (wd x.S 1)) := hcell k x hx 1 (by decide)
   have y2 : wr.cell? ⟨b, off + k * 10 + 2, none⟩ = some (.int .u64 (wd x.S 2)) := hcell k x hx 2 (by decide)
   have y3 : wr.cell? ⟨b, off + k * 10 + 3, none⟩ = some (.int .u64 (wd x.S 3)) := hcell k x hx 3 (by decide)
   have y4 : wr.cell? ⟨b, off + k * 10 + 4, none⟩ = some (.int .u64 (wd x.S 4)) := hcell k x hx 4 (by decide)
   have y5 : wr.cell? ⟨b, off + k * 10 + 5, none⟩ = some (.int .u64 (wd x.S 5)) := hcell k x hx 5 (by decide)
   have y6 : wr.cell? ⟨b, off + k * 10 + 6, none⟩ = some (.int .u64 (wd x.S 6)) := hcell k x hx 6 (by decide)
   have y7 : wr.cell? ⟨b, off + k * 10 + 7, none⟩ = some (.int .u64 (wd x.S 7)) := hcell k x hx 7 (by decide)
   have y8 : wr.cell? ⟨b, off + k * 10 + 8, none⟩ = some (.slice x.v.sa x.v.sn x.v.sc) := hcell k x hx 8 (by decide)
   have y9 : wr.cell? ⟨b, off + k * 10 + 9, none⟩ = some (.slice x.v.la x.v.ln x.v.lc) := hcell k x hx 9 (by decide)
   obtain ⟨V1, hV1⟩ : ∃ V, V = wr.alloc (.cells #[.int .u64 (wd x.S 0), .int .u64 (wd x.S 1), .int .u64 (wd x.S 2), .int .u64 (wd x.S 3), .int .u64 (wd x.S 4), .int .u64 (wd x.S 5), .int .u64 (wd x.S 6), .int .u64 (wd x.S 7), .slice x.v.sa x.v.sn x.v.sc, .slice x.v.la x.v.ln x.v.lc] 121) := ⟨_, rfl⟩
   have hb1 : Below wr.heap.size wr V1 := by rw [hV1]; exact (Below.refl _ wr).alloc (Nat.le_refl _) _
   have hX : Blk V1 wr.heap.size 121 [.int .u64 (wd x.S 0), .int .u64 (wd x.S 1), .int .u64 (wd x.S 2), .int .u64 (wd x.S 3), .int .u64 (wd x.S 4), .int .u64 (wd x.S 5), .int .u64 (wd x.S 6), .int .u64 (wd x.S 7), .slice x.v.sa x.v.sn x.v.sc, .slice x.v.la x.v.ln x.v.lc] := by rw [hV1]; exact blk_new wr _ _
   have q0 := hX.cell (i := 0) rfl
   have q1 := hX.cell (i := 1) rfl
   have q2 := hX.cell (i := 2) rfl
   have q3 := hX.cell (i := 3) rfl
   have q4 := hX.cell (i := 4) rfl
   have q5 := hX.cell (i := 5) rfl
   have q6 := hX.cell (i := 6) rfl
   have q7 := hX.cell (i := 7) rfl
   have q8 := hX.cell (i := 8) rfl
   have q9 := hX.cell (i := 9) rfl
   have ql := hX.lt
   have hbs := hb.size
   have HB := Lib.hid (hb.trans (hb1.mono (Nat.le_trans HS.out hbs)))
   obtain ⟨fn, tmps, assign, body, hy, hRd⟩ := HY.out pre (k, x) V1 V1 (own_kept HJ.out hJs hb1) (Below.refl _ _) (fun h => by cases h) ⟨hp.symm, by rw [hp]; exact hx⟩ (by rw [hp, Hlen.out]; exact hlt)
   dsimp only at hy
   unfold REn.val at hy
   have HP := Eqn.mk hp
   clear hb hb1 hX hcell hJs hx hR hbn hp
   gi_upto_region 3 with fail
   rw [← hV1]
   clear hV1 y0 y1 y2 y3 y4 y5 y6 y7 y8
   generalize wr.heap.size = p4 at *
   gi_wp2_with fail
   refine hRd.mono ?_
   rintro e W3 (⟨rfl, hJ3, hk3, hkp, _⟩ | ⟨rfl, hk3, hJx3⟩)
   ·have HJ3 := Lib.hid hJ3
    have HB3 := Lib.hid (HB.out.trans hkp.1)
    clear hJ3 hk3 hkp hRd hy
    gi_wp2_with fail
    go_roundw
    case rel => exact ⟨k + 1, pre ++ [(k, x)], hlt, by go_num, by rw [List.length_append, HP.out]; rfl, HJ3.out, HB3.out⟩
    case measure => simp [intOf]; omega
   ·gi_wp2_with fail
    refine bodyPost_ret (results_none rfl _ _ _) rfl ?_
    exact ⟨⟨_, rfl⟩, .inr ⟨_, trivial, hJx3⟩⟩
  ·obtain rfl : k = m := by omega
   have HJs := Lib.hid hJs
   have HP := Eqn.mk hp
   clear hJs hb hp
   gi_wp2_with fail
   go_end0
   exact ⟨⟨_, rfl⟩, .inl ⟨pre, by rw [HP.out, Hlen.out], HJs.out⟩⟩
end Go.Proofs.YtdpbbhbegehcjaaDoor
