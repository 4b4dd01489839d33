/- The references: Small of nogoods and of proofs; few of the laws. -/
import Derived.Test.YtdpbbhbegehcjaaGreatDoorPla15
import Derived.Test.YtdpbbhbegehcjaaGreatDoorPla16
import Derived.Test.YtdpbbhbegehcjaaGreatDoorPla17
set_option maxRecDepth 100000
set_option maxHeartbeats 4000000
namespace Go.Proofs.YtdpbbhbegehcjaaGreatDoor
open Go.RowKit Go.Shelf
def StS.P (x : StS) : List Chs := x.pe.map fun e => e.v.chs
def StS.Q (x : StS) : List Prv := x.re.map fun e => e.v.say
def StPost (B : Nat) (p : Nat → Prop) (g : Nat) (x : StS) (P : List Chs) (Q : List Prv) (n : Int) (w : World) (e : Ending) (w' : World) : Prop :=
 ∃ x', e = .returned (.int .i64 n) ∧ StAt w' B p g x' ∧ StOk x' ∧ x'.ds = x.ds ∧ x'.r = x.r ∧ x'.P = P ∧ x'.Q = Q ∧ w.grownBy w' (some g)
theorem grown_any_of {w w' : World} (hb : Below w.heap.size w w') (g : Option Nat) : w.grownBy w' g := ⟨hb.os, hb.tape, hb.output, hb.size, fun k hk _ => hb.block k hk⟩
theorem st_same {B : Nat} {p : Nat → Prop} {g : Nat} {x : StS} {w w' : World} (n : Int) (h : StAt w B p g x) (ho : StOk x) (hb : Below w.heap.size w w') : StPost B p g x x.P x.Q n w (.returned (.int .i64 n)) w' :=
 ⟨x, rfl, h.keep hb, ho, rfl, rfl, rfl, rfl, grown_any_of hb _⟩
theorem StAt.grown_prb {w X : World} {B : Nat} {p : Nat → Prop} {g : Nat} {x : StS} (h : StAt w B p g x) (hg : w.grownBy X (some g)) : PrbAt X B x.s x.ds x.r :=
 h.prb.below ⟨hg.os, hg.tape, hg.output, hg.size, fun k hk => hg.block k (by have := h.blk.lt; have := h.low; omega) (fun e => by cases e; have := h.low; omega)⟩
theorem kind_same {w X : World} {p : Nat → Prop} {g : Nat} (hn : ¬ p g) (hg : w.grownBy X (some g)) : ∀ k, p k → k < w.heap.size → X.heap[k]? = w.heap[k]? :=
 fun k hp hk => hg.block k hk (fun e => by cases e; exact hn hp)
theorem pk_any {x : StS} (h : StOk x) (φ : Nat → Bool) : (x.pe.any fun e => φ e.S) = x.P.any fun o => φ (stS (ofC o)) := by
 have h1 := h.pes
 unfold StS.P
 rw [List.any_map]
 generalize x.pe = L at *
 clear h
 induction L with
 | nil => rfl
 | cons y r ih => rw [List.any_cons, List.any_cons, ih (fun e he => h1 e (by simp [he])), (h1 y (by simp)).1]; rfl
theorem pk_filter {x : StS} (h : StOk x) (φ : Nat → Bool) : ((x.pe.filter fun e => !φ e.S).map fun e => e.v.chs) = x.P.filter fun o => !φ (stS (ofC o)) := by
 have h1 := h.pes
 unfold StS.P
 generalize x.pe = L at *
 clear h
 induction L with
 | nil => rfl
 | cons y r ih =>
  have h2 : (φ y.S) = φ (stS (ofC y.v.chs)) := by rw [(h1 y (by simp)).1]; rfl
  have h3 := ih (fun e he => h1 e (by simp [he]))
  rw [List.map_cons, List.filter_cons, List.filter_cons, h2]
  split
  ·rw [List.map_cons, h3]
  ·exact h3
theorem grown_below {w W X : World} {g : Nat} (hb : Below w.heap.size w W) (hg : W.grownBy X (some g)) : w.grownBy X (some g) :=
 ⟨hg.os.trans hb.os, hg.tape.trans hb.tape, hg.output.trans hb.output, Nat.le_trans hb.size hg.size, fun k hk hne => (hg.block k (Nat.lt_of_lt_of_le hk hb.size) hne).trans (hb.block k hk)⟩
theorem added_keepP {g : Nat} {cs : List Value} {K : List PEn} {S : Nat} {x : Lem} {w X : World} {e : Ending} (h : AddedP g cs K S x w e X) (k : Nat) (hk : k < w.heap.size) (hne : k ≠ g) : X.heap[k]? = w.heap[k]? := by
 rcases h with ⟨_, _, hb⟩ | ⟨_, _, hg, _⟩
 ·exact hb.block k hk
 ·exact hg.block k hk (fun e => hne (by cases e; rfl))
theorem pk_done {B : Nat} {p : Nat → Prop} {g : Nat} {x : StS} {w W X : World} {φ : Nat → Bool} {S : Nat} {l : Chs} {A : Option Addr} {n c : Nat} {e : Ending} (hS : StAt W B p g x) (hO : StOk x) (hb : Below w.heap.size w W) (hnew : ∀ k, w.heap.size ≤ k → p k) (hSl : S = stS (ofC l)) (hv : vlGo none l = true) (hn : n ≤ 100000)
  (hl : RowX 2 chC W p A n l) (h : AddedP g x.cells (x.pe.filter fun y => !φ y.S) S ⟨A, n, c, l⟩ W e X) :
  StPost B p g x (if 1000 ≤ (x.P.filter fun o => !φ (stS (ofC o))).length then (x.P, (7 : Int)) else ((x.P.filter fun o => !φ (stS (ofC o))) ++ [l], 0)).1 x.Q (if 1000 ≤ (x.P.filter fun o => !φ (stS (ofC o))).length then (x.P, (7 : Int)) else ((x.P.filter fun o => !φ (stS (ofC o))) ++ [l], 0)).2 w e X := by
 have hf := pk_filter hO φ
 have hlen : (x.P.filter fun o => !φ (stS (ofC o))).length = (x.pe.filter fun y => !φ y.S).length := by rw [← hf, List.length_map]
 rw [hlen]
 have hmem : ∀ y ∈ x.pe.filter fun y => !φ y.S, y ∈ x.pe := fun y hy => (List.mem_filter.1 hy).1
 generalize (x.pe.filter fun y => !φ y.S) = K at *
 rcases h with ⟨h1, rfl, h3⟩ | ⟨h1, rfl, hg, A', c', hblk, hown⟩
 ·rw [if_pos h1]
  exact ⟨x, rfl, hS.keep h3, hO, rfl, rfl, rfl, rfl, grown_below hb (grown_any_of h3 _)⟩
 ·rw [if_neg (by omega)]
  have hk := kind_same hS.no hg
  obtain ⟨A2, c2, e2, hr⟩ := rowX_own hown (p := p) (by decide) (fun k hk => hnew k (Nat.le_trans hb.size hk))
  injection e2 with e2 _ e3
  subst e2 e3
  refine ⟨{ x with pa := A', pn := K.length + 1, pc := c', pe := K ++ [⟨S, ⟨A, n, c, l⟩⟩] }, rfl, ⟨hblk, hS.grown_prb hg, hS.low, hS.no, ⟨hr, fun y hy => ?_⟩, hS.res.turn hk⟩, ⟨hO.val, hO.has, fun y hy => ?_, hO.res, by simp; omega, hO.rl⟩, rfl, rfl, ?_, rfl, grown_below hb hg⟩
  ·rcases List.mem_append.1 hy with hy | hy
   ·exact (hS.pes.2 y (hmem y hy)).turn hk
   ·rw [List.mem_singleton] at hy; subst hy; exact ⟨hl.turn (by decide) hk, hn⟩
  ·rcases List.mem_append.1 hy with hy | hy
   ·exact hO.pes y (hmem y hy)
   ·rw [List.mem_singleton] at hy; subst hy; exact ⟨hSl, hv⟩
  ·show (K ++ [_]).map _ = _
   rw [List.map_append, hf]; rfl
theorem pack_any (B : Nat) (p : Nat → Prop) (g : Nat) (x : StS) (A : Option Addr) (n c : Nat) (w : World) (l : Chs) (hS : StAt w B p g x) (hO : StOk x) (hnew : ∀ k, w.heap.size ≤ k → p k) (hdl : ∀ d ∈ x.ds, d.len = d.chs.length) (hn : n ≤ 100000) (hl : RowS 2 chC w w.heap.size A n l) :
  Calls Tryz.prog 12 #[.pointer (some ⟨g, 0, none⟩), .slice A n c] w (StPost B p g x (pkF x.ds x.r x.P l).1 x.Q (pkF x.ds x.r x.P l).2 w) := by
 have HST := Lib.hid hS
 have HOK := Lib.hid hO
 have HNW := Lib.hid hnew
 have HMI := Lib.hid (fun W (hb : Below w.heap.size w W) => missing_any g x.cells W (hS.blk.keep hb) rfl)
 have HVL := pvl_any A n c w l (by omega) hl
 have HPK : Eqn (pkF x.ds x.r x.P l) (if vlGo none l = true then
  if mi (stS (ofC l)) (stS (x.ds.map Dom.st)) = 0 then
   if fitsF x.ds x.r l = true then
    if (x.P.any fun o => decide (mi (stS (ofC l)) (stS (ofC o)) = 0)) = true then (x.P, 0)
    else if 1000 ≤ (x.P.filter fun o => !decide (mi (stS (ofC o)) (stS (ofC l)) = 0)).length then (x.P, 7)
    else ((x.P.filter fun o => !decide (mi (stS (ofC o)) (stS (ofC l)) = 0)) ++ [l], 0)
   else (x.P, 10)
  else (x.P, 9)
 else (x.P, 2)) := rfl
 generalize pkF x.ds x.r x.P l = R at *
 cases hv : vlGo none l with
 | false =>
  rw [hv] at HVL HPK
  have HR : Hid (R = (x.P, 2)) := Lib.hid HPK
  have HVL := Lib.hid HVL
  clear HPK hv hS hO hnew hdl hl
  go_enter Tryz.func12, Tryz.ntmps12
  go_wp2_with fail
  refine (HMI.out _ (Below.refl _ _)).mono ?_
  rintro e W1 ⟨rfl, rfl⟩
  go_wp2_with fail
  refine HVL.out.mono ?_
  rintro e W2 ⟨rfl, hb2⟩
  have HB := Lib.hid hb2
  clear hb2
  go_wp2_with fail
  go_ret
  rw [HR.out]
  exact st_same 2 HST.out HOK.out HB.out
 | true =>
  rw [hv] at HVL HPK
  have HVL := Lib.hid HVL
  have HVV := Lib.hid hv
  have hso := vl_stOk hv
  have hin := stOk_in hso
  obtain ⟨i0, hi, hz0, hz1, hz2⟩ := info_parts int_info
  have Hl := Lib.hid hl
  have Hlen := Eqn.mk hl.1
  have HPK2 : Hid (R = if mi (stS (ofC l)) x.H = 0 then
   if fitsF x.ds x.r l = true then
    if (x.P.any fun o => decide (mi (stS (ofC l)) (stS (ofC o)) = 0)) = true then (x.P, 0)
    else if 1000 ≤ (x.P.filter fun o => !decide (mi (stS (ofC o)) (stS (ofC l)) = 0)).length then (x.P, 7)
    else ((x.P.filter fun o => !decide (mi (stS (ofC o)) (stS (ofC l)) = 0)) ++ [l], 0)
   else (x.P, 10)
  else (x.P, 9)) := Lib.hid (by rw [hO.has]; exact HPK)
  have hstn : stnF x.H (ofC l) = if mi (stS (ofC l)) x.H = 0 then (stS (ofC l), 0) else (0, 9) := by unfold stnF; rw [if_pos hso]
  have HSN := Lib.hid (fun (C : Option Addr) (k : Nat) (W : World) (hb : Below w.heap.size w W) (hL : Row1 intV W W.heap.size C n (ofC l)) => (by have := stn_any g x.H x.cells C n k W (ofC l) (hS.blk.keep hb) (fun j hj => by match j, hj with | 0, _ => rfl | 1, _ => rfl | 2, _ => rfl | 3, _ => rfl | 4, _ => rfl | 5, _ => rfl | 6, _ => rfl | 7, _ => rfl) hn hL; rw [hstn] at this; exact this : Calls Tryz.prog 39 #[.pointer (some ⟨g, 0, none⟩), .slice C n k] W (RetPost (.tuple #[sV (if mi (stS (ofC l)) x.H = 0 then (stS (ofC l), (0 : Int)) else (0, 9)).1, .int .i64 (if mi (stS (ofC l)) x.H = 0 then (stS (ofC l), (0 : Int)) else (0, 9)).2]) W.heap.size W)))
  have HFT : Hid (Fit (stS (ofC l))) := Lib.hid (stS_fit hin)
  have HSO := Lib.hid hso
  clear HPK hv hS hO hnew hl hso hin hstn
  go_enter Tryz.func12, Tryz.ntmps12
  go_wp2_with fail
  refine (HMI.out _ (Below.refl _ _)).mono ?_
  rintro e W1 ⟨rfl, rfl⟩
  go_wp2_with fail
  refine HVL.out.mono ?_
  rintro e W2 ⟨rfl, hb2⟩
  have HP2 := Lib.hid (((Hp.start w).keep hb2).nil 3 1)
  clear hb2 HVL
  go_wp2_with fail
  go_loopw [5, 23] (fun v i wr => ∃ k : Nat, k ≤ n ∧ i = .int .i64 k ∧ Hp w w wr [.row v 3 1 k ((ofC (l.take k)).map intV)] []) (fun _ i _ => n - (intOf i).toNat)
  case atStart => exact ⟨0, Nat.zero_le _, rfl, HP2.out⟩
  case round =>
   clear HP2
   obtain ⟨k, hk, rfl, hP⟩ := hrel
   have HP := Lib.hid hP
   obtain ⟨A1, c1, rfl⟩ := hP.form 0 rfl
   by_cases hlt : k < n
   ·have j0 : (k : Int) < (n : Int) := by omega
    obtain ⟨y, hy⟩ : ∃ y, l[k]? = some y := ⟨_, List.getElem?_eq_getElem (by rw [Hlen.out]; exact hlt)⟩
    have HSU : Hid (ofC (l.take (k + 1)) = ofC (l.take k) ++ [y.1]) := Lib.hid (by unfold ofC; rw [List.take_add_one, hy, List.map_append]; rfl)
    obtain ⟨b, off, rfl, hbw, hcell⟩ := (Hl.out.below hP.below).2 (by omega)
    have y0 : wr.cell? ⟨b, off + k * 2, none⟩ = some (.int .i64 y.1) := hcell k y hy 0 (by decide)
    have y1 : wr.cell? ⟨b, off + k * 2 + 1, none⟩ = some (.int .i64 y.2) := hcell k y hy 1 (by decide)
    obtain ⟨ya, yb⟩ := y
    dsimp only at y0 y1 HSU
    obtain ⟨V4, hV4⟩ : ∃ V, V = wr.alloc (.cells #[.int .i64 ya, .int .i64 yb] 91) := ⟨_, rfl⟩
    have hP4 := HP.out.alloc [.int .i64 ya, .int .i64 yb] 91
    rw [show ([.int .i64 ya, .int .i64 yb] : List Value).toArray = #[.int .i64 ya, .int .i64 yb] from rfl, ← hV4] at hP4
    have HP4 := Lib.hid hP4
    have q0 := hP4.c 1 0 rfl rfl
    have q1 := hP4.lt 1 rfl
    clear hP hy hcell hbw hP4
    go_upto_region 9 with fail
    rw [← hV4]
    clear hV4 y0 y1
    generalize wr.heap.size = p7 at *
    go_wp2_with (at_builtin; refine wpList_append_own_at _ rfl _ _ 31 rfl w.heap.size 3 i0 (.int .i64 0) 1 8 Tryz.underlying31 hi hz0 hz1 hz2 rfl (by decide) _ _ _ rfl ((HP4.out.row 0 rfl).alloc _) ⟨V4.heap.size, 0, none⟩ 1 1 [.int .i64 (ya)] rfl rfl (cell_one_new _ _ _) (by simp [Value.oneCell']) (by unfold maxLen; omega) (by omega) (by have := HP4.out.below.size; simp; omega) ?_; intro v6 w6 hown' hgrow _ hat; have HP6 := Lib.hid ((HP4.out.alloc0 _).grow 0 rfl hgrow hown' hat); obtain ⟨A6, cp6, rfl⟩ := HP6.out.form 0 rfl; clear hown' hgrow hat)
    go_roundw
    case rel => exact ⟨k + 1, hlt, by go_num, by rw [HSU.out, List.map_append]; exact HP6.out.sub (by simp [intV])⟩
    case measure => simp [intOf]; omega
   ·obtain rfl : k = n := by omega
    rw [List.take_of_length_le (by rw [Hlen.out]; exact Nat.le_refl _)] at hP
    obtain ⟨n, rfl⟩ : ∃ n', n' = k := ⟨_, rfl⟩
    have HP := Lib.hid hP
    have hrow : Row1 intV wr wr.heap.size A1 n (ofC l) := by obtain ⟨A', c', e, hr⟩ := row1_of_own (hP.row 0 rfl); injection e with e; subst e; exact hr
    have HROW := Lib.hid hrow
    have HS1 := Lib.hid (HSN.out A1 c1 wr hP.below hrow)
    clear hP hrow HSN
    generalize hS : stS (ofC l) = S at *
    have HSE := Eqn.mk hS
    clear hS
    by_cases hm : mi S x.H = 0
    ·have HPK3 := Lib.hid (HPK2.out.trans (if_pos hm))
     have HMZ := Lib.hid hm
     rw [if_pos hm] at HS1
     unfold sV at HS1
     clear HPK2 hm
     go_wp2_with fail
     refine HS1.out.mono ?_
     rintro e W3 ⟨rfl, hb3⟩
     obtain ⟨p8, hp8⟩ : ∃ q, q = W3.heap.size := ⟨_, rfl⟩
     obtain ⟨V4, hV4⟩ : ∃ V, V = W3.alloc (.cells (sL S).toArray 100) := ⟨_, rfl⟩
     have hP4 := (HP.out.keep hb3).allocS S 100
     rw [← hV4, ← hp8] at hP4
     have hb4 : Below wr.heap.size wr V4 := by rw [hV4]; exact hb3.trans (((Below.refl _ W3).alloc (Nat.le_refl _) _).mono hb3.size)
     have HROW4 := Lib.hid (HROW.out.keep hb4)
     have HP4 := Lib.hid hP4
     unfold sL at hV4
     clear hb3 hP4 hb4 HP HS1 HROW
     go_upto_region 12 with fail
     rw [← hV4, ← hp8]
     clear hV4 hp8
     have hS4 := HST.out.keep HP4.out.below
     have hst := valid_st HOK.out.val
     have hnd : x.s.nd ≤ 9223372036854775807 := by have h1 : x.ds.length = x.s.nd := hS4.prb.1.1.1; have := hst.2.1; omega
     have hdl2 : ∀ d ∈ x.ds, d.len ≤ 9223372036854775807 := fun d hd => by have := hdl d hd; have := hst.2.2.1 d hd; omega
     have hrs := restrict_any x.s A1 n c1 V4 x.ds x.r (ofC l) hnd hdl2 (by omega) (hS4.prb.up (by have := hS4.blk.lt; have := hS4.low; omega)) HROW4.out
     have hrf : restF x.ds x.r (ofC l) = (((resD S x.ds).map Dom.say, resR S x.r), 0) := by
      unfold restF resD
      rw [if_pos ⟨HOK.out.val, HSO.out⟩, HSE.out, if_pos (by rw [← HOK.out.has]; exact HMZ.out)]
     rw [hrf] at hrs
     have HRS := Lib.hid hrs
     have m0 : V4.cell? ⟨g, 0, none⟩ = some (.slice x.s.ad x.s.nd x.s.cd) := hS4.blk.cell rfl
     have m1 : V4.cell? ⟨g, 1, none⟩ = some (.slice x.s.rs.a0 x.s.rs.n0 x.s.rs.c0) := hS4.blk.cell rfl
     have m2 : V4.cell? ⟨g, 2, none⟩ = some (.slice x.s.rs.a1 x.s.rs.n1 x.s.rs.c1) := hS4.blk.cell rfl
     have m3 : V4.cell? ⟨g, 3, none⟩ = some (.slice x.s.rs.a2 x.s.rs.n2 x.s.rs.c2) := hS4.blk.cell rfl
     have ml := hS4.blk.lt
     clear hS4 hst hnd hdl2 hrs hrf
     unfold PrbS.val at HRS
     go_wp2_with fail
     refine HRS.out.mono ?_
     rintro e W5 ⟨s', es, rfl, hown, hsay, hb5⟩
     obtain ⟨Ad, nd, cd, ⟨B0, n0, d0, B1, n1, d1, B2, n2, d2⟩⟩ := s'
     obtain ⟨p10, hp10⟩ : ∃ q, q = W5.heap.size := ⟨_, rfl⟩
     obtain ⟨V6, hV6⟩ : ∃ V, V = W5.alloc (.cells #[.slice Ad nd cd, .slice B0 n0 d0, .slice B1 n1 d1, .slice B2 n2 d2] 29) := ⟨_, rfl⟩
     have hP6 := (HP4.out.keep hb5).alloc [.slice Ad nd cd, .slice B0 n0 d0, .slice B1 n1 d1, .slice B2 n2 d2] 29
     rw [show ([.slice Ad nd cd, .slice B0 n0 d0, .slice B1 n1 d1, .slice B2 n2 d2] : List Value).toArray = #[.slice Ad nd cd, .slice B0 n0 d0, .slice B1 n1 d1, .slice B2 n2 d2] from rfl, ← hV6, ← hp10] at hP6
     have hb56 : Below W5.heap.size W5 V6 := by rw [hV6]; exact (Below.refl _ W5).alloc (Nat.le_refl _) _
     have hown6 := hown.keep hb56
     have hsay2 : es.map Dom.say = (resD (stS (ofC l)) x.ds).map Dom.say := by rw [HSE.out]; exact hsay
     have hval : validP es (resR S x.r) = true := by rw [← HSE.out]; exact rest_valid HOK.out.val hsay2
     have hes := valid_st hval
     have hck := chk_any ⟨Ad, nd, cd, ⟨B0, n0, d0, B1, n1, d1, B2, n2, d2⟩⟩ A n c V6 es (resR S x.r) l hn (by have := hown.1; have := hes.2.1; omega) (fun d hd => by have h1 := (hown.2.2.1 d hd).1; have := hes.2.2.1 d hd; simp only [List.length_map, Nat.mul_one] at h1; omega) ((Hl.out.below hP6.below).up hP6.below.size) hown6.at HVV.out hval
     have hfe : okF es (resR S x.r) l true = fitsF x.ds x.r l := by unfold fitsF; rw [HSE.out]; exact ok_say (by rw [hsay]) _ _ _
     rw [hfe] at hck
     have HCK := Lib.hid hck
     have HP6 := Lib.hid hP6
     have m0 := hP6.c 2 0 rfl rfl
     have m1 := hP6.c 2 1 rfl rfl
     have m2 := hP6.c 2 2 rfl rfl
     have m3 := hP6.c 2 3 rfl rfl
     have ml := hP6.lt 2 rfl
     clear hown hsay hb5 hP6 hb56 hown6 hsay2 hval hes hck hfe HRS HP4 HROW4
     unfold PrbS.val at HCK
     unfold PrbS.val
     go_upto_region 15 with fail
     rw [← hV6, ← hp10]
     clear hV6 hp10
     go_wp2_with fail
     refine HCK.out.mono ?_
     rintro e W7 ⟨vk, va, rfl, hvk, hb7⟩
     obtain ⟨p11, hp11⟩ : ∃ q, q = W7.heap.size := ⟨_, rfl⟩
     obtain ⟨V8, hV8⟩ : ∃ V, V = W7.alloc (.cells #[.int .i64 vk, .int .i64 va] 115) := ⟨_, rfl⟩
     have hP8 := (HP6.out.keep hb7).alloc [.int .i64 vk, .int .i64 va] 115
     rw [show ([.int .i64 vk, .int .i64 va] : List Value).toArray = #[.int .i64 vk, .int .i64 va] from rfl, ← hV8, ← hp11] at hP8
     have HP8 := Lib.hid hP8
     have q0 := hP8.c 3 0 rfl rfl
     have q1 := hP8.lt 3 rfl
     clear hb7 hP8 m0 m1 m2 m3 ml HP6 HCK
     go_upto_region 18 with fail
     rw [← hV8, ← hp11]
     clear hV8 hp11
     rcases hvk with ⟨hf, rfl⟩ | ⟨hf, hk0⟩
     ·have HPK4 := Lib.hid (HPK3.out.trans (if_pos hf))
      clear hf HPK3
      have hS8 := HST.out.keep HP8.out.below
      have hpl := HOK.out.pl
      have hpn : x.pn ≤ 100000 := by have := hS8.pes.1.1; omega
      have hft : ∀ y ∈ x.pe, Fit y.S := fun y hy => by rw [(HOK.out.pes y hy).1]; exact stS_fit (stOk_in (vl_stOk (HOK.out.pes y hy).2))
      have hfd := fun (W : World) (hb : Below w.heap.size w W) => findP_any 42 #[sV S] #[] (fun T => decide (mi S T = 0)) x.pa x.pn x.pc x.pe W ((HST.out.keep hb).pes.1.mono (by decide) (fun _ _ _ => trivial)) hpn (enters_of Tryz.func42 (by kernel_rfl) rfl) (fun y hy W' hb' => sub_call S HFT.out y.S W')
      rw [pk_any HOK.out fun T => decide (mi S T = 0)] at hfd
      have HFD := Lib.hid hfd
      have k0 : V8.cell? ⟨g, 13, none⟩ = some (.slice x.pa x.pn x.pc) := hS8.blk.cell rfl
      have gl := hS8.blk.lt
      have hP8 := HP8.out
      obtain ⟨c1_0, c1_1, c1_2, c1_3, c1_4, c1_5, c1_6, c1_7⟩ := (hP8.blk 1 rfl).eight; have f1 := hP8.f 1 rfl; have l1 := hP8.lt 1 rfl
      have HFTS := Lib.hid hft
      have HPN := Lib.hid hpn
      have HPD := Lib.hid hP8.drew
      clear hS8 hpl hpn hft hfd hP8
      unfold sV at HFD
      go_wp2_with fail
      refine Lx.region (C := fun _ => True) (hs := []) (by kernel_rfl) (by kernel_rfl) trivial ?_
      cases hany : x.P.any fun o => decide (mi S (stS (ofC o)) = 0) with
      | true =>
       rw [hany] at HFD
       have HR : Hid (R = (x.P, 0)) := Lib.hid (HPK4.out.trans (if_pos hany))
       clear hany HPK4
       repeat' (first | ((first | refine Lx.ln (fun K hK => ?_) | (first | (refine Lx.lp (v := ?_) ?_ (fun K hK => ?_); rotate_left 1; intro w' hCw; try dsimp only at hCw) | (refine Lx.lr (v := ?_) ?_ (fun K hK => ?_); rotate_left 1)); go_simp; first | done | with_reducible rfl); go_simp; refine hK _ ?_; clear hK K) | (refine Lx.le (fun K hK => ?_); go_simp; (first | (go_at_call 41; refine (HFD.out _ HPD.out.below).mono ?_; rintro e w9 ⟨rfl, hb9⟩; have HP9 := Lib.hid (HPD.out.keep hb9); clear hb9) | skip); refine hK _ _ (trivial) ?_; clear hK K) | (refine Lx.lex_cases rfl rfl rfl (fun hgd K hK => ?_) (fun hgd K hK => ?_) <;> (try simp only [decide_eq_true_eq, decide_eq_false_iff_not] at hgd) <;> (first | (exfalso; omega) | (go_simp; refine hK _ ?_; clear hK K))))
       all_goals (refine Lx.lex_nil ?_)
       go_wp2_with fail
       go_ret
       rw [HR.out]
       exact st_same 0 HST.out HOK.out HP9.out.below
      | false =>
       rw [hany] at HFD
       have HPK5 := Lib.hid (HPK4.out.trans (if_neg (by rw [hany]; decide)))
       clear hany HPK4
       repeat' (first | ((first | refine Lx.ln (fun K hK => ?_) | (first | (refine Lx.lp (v := ?_) ?_ (fun K hK => ?_); rotate_left 1; intro w' hCw; try dsimp only at hCw) | (refine Lx.lr (v := ?_) ?_ (fun K hK => ?_); rotate_left 1)); go_simp; first | done | with_reducible rfl); go_simp; refine hK _ ?_; clear hK K) | (refine Lx.le (fun K hK => ?_); go_simp; (first | (go_at_call 41; refine (HFD.out _ HPD.out.below).mono ?_; rintro e w9 ⟨rfl, hb9⟩; have HP9 := Lib.hid (HPD.out.keep hb9); clear hb9) | skip); refine hK _ _ (trivial) ?_; clear hK K) | (refine Lx.lex_cases rfl rfl rfl (fun hgd K hK => ?_) (fun hgd K hK => ?_) <;> (try simp only [decide_eq_true_eq, decide_eq_false_iff_not] at hgd) <;> (first | (exfalso; omega) | (go_simp; refine hK _ ?_; clear hK K))))
       all_goals (refine Lx.lex_nil ?_)
       clear k0 gl q0 q1 HPD HP8 HFD c1_0 c1_1 c1_2 c1_3 c1_4 c1_5 c1_6 c1_7 f1 l1
       have hP9 := HP9.out
       have gl := (HST.out.keep hP9.below).blk.lt
       obtain ⟨c1_0, c1_1, c1_2, c1_3, c1_4, c1_5, c1_6, c1_7⟩ := (hP9.blk 1 rfl).eight; have f1 := hP9.f 1 rfl; have l1 := hP9.lt 1 rfl
       have HPD := Lib.hid hP9.drew
       have HCL := Lib.hid (fun (W : World) (hb : Below w.heap.size w W) => cloneC_any A n c W l hn ((Hl.out.below hb).up hb.size))
       clear hP9
       go_wp2_with fail
       refine Lx.region (C := fun X => X.cell? ⟨p8, 0, none⟩ = some (.int .u64 (wd S 0)) ∧ X.cell? ⟨p8, 1, none⟩ = some (.int .u64 (wd S 1)) ∧ X.cell? ⟨p8, 2, none⟩ = some (.int .u64 (wd S 2)) ∧ X.cell? ⟨p8, 3, none⟩ = some (.int .u64 (wd S 3)) ∧ X.cell? ⟨p8, 4, none⟩ = some (.int .u64 (wd S 4)) ∧ X.cell? ⟨p8, 5, none⟩ = some (.int .u64 (wd S 5)) ∧ X.cell? ⟨p8, 6, none⟩ = some (.int .u64 (wd S 6)) ∧ X.cell? ⟨p8, 7, none⟩ = some (.int .u64 (wd S 7))) (hs := [3]) (by kernel_rfl) (by kernel_rfl) (HPD.out.blk 1 rfl).eight ?_
       repeat' (first | ((first | refine Lx.ln (fun K hK => ?_) | (first | (refine Lx.lp (v := ?_) ?_ (fun K hK => ?_); rotate_left 1; intro w' hCw; try dsimp only at hCw) | (refine Lx.lr (v := ?_) ?_ (fun K hK => ?_); rotate_left 1)); go_simp; first | done | with_reducible rfl); go_simp; refine hK _ ?_; clear hK K) | (refine Lx.le (fun K hK => ?_); go_simp; (first | (go_at_call 45; refine (HCL.out _ HPD.out.below).mono ?_; rintro e w10 ⟨v10, rfl, hown10, hb10⟩; have HP10 := Lib.hid (HPD.out.keep hb10); have HZ : Hid (w10.cell? ⟨p8, 0, none⟩ = some (.int .u64 (wd S 0)) ∧ w10.cell? ⟨p8, 1, none⟩ = some (.int .u64 (wd S 1)) ∧ w10.cell? ⟨p8, 2, none⟩ = some (.int .u64 (wd S 2)) ∧ w10.cell? ⟨p8, 3, none⟩ = some (.int .u64 (wd S 3)) ∧ w10.cell? ⟨p8, 4, none⟩ = some (.int .u64 (wd S 4)) ∧ w10.cell? ⟨p8, 5, none⟩ = some (.int .u64 (wd S 5)) ∧ w10.cell? ⟨p8, 6, none⟩ = some (.int .u64 (wd S 6)) ∧ w10.cell? ⟨p8, 7, none⟩ = some (.int .u64 (wd S 7))) := Lib.hid (HP10.out.blk 1 rfl).eight; obtain ⟨A10, c10, rfl, hr10⟩ := rowX_own (p := p) hown10 (by decide) (fun k hk => HNW.out k (Nat.le_trans HPD.out.below.size hk)); have HR10 := Lib.hid hr10; have HS10 := Lib.hid (HST.out.keep HP10.out.below); have HAD := Lib.hid (addP_any 43 #[] #[.pointer (some ⟨p8, 0, none⟩)] (fun T => decide (mi T S = 0)) g x.cells S ⟨A10, l.length, c10, l⟩ x.pa x.pn x.pc x.pe w10 HS10.out.blk rfl (HS10.out.pes.1.mono (by decide) (fun _ _ _ => trivial)) HPN.out (enters_of Tryz.func43 (by kernel_rfl) rfl) (fun y hy W hb => clo_Pack p8 S y.S (HFTS.out y hy) W ((HP10.out.blk 1 rfl).keep hb))); clear hown10 hb10 hr10; unfold sV Lem.val at HAD; dsimp only at HAD) | (go_at_call 44; refine HAD.out.mono ?_; rintro e w11 hadd; have hpg : p8 ≠ g := (by have := HP10.out.lo 1 rfl; have := HST.out.blk.lt; omega); have HZ2 : Hid (w11.cell? ⟨p8, 0, none⟩ = some (.int .u64 (wd S 0)) ∧ w11.cell? ⟨p8, 1, none⟩ = some (.int .u64 (wd S 1)) ∧ w11.cell? ⟨p8, 2, none⟩ = some (.int .u64 (wd S 2)) ∧ w11.cell? ⟨p8, 3, none⟩ = some (.int .u64 (wd S 3)) ∧ w11.cell? ⟨p8, 4, none⟩ = some (.int .u64 (wd S 4)) ∧ w11.cell? ⟨p8, 5, none⟩ = some (.int .u64 (wd S 5)) ∧ w11.cell? ⟨p8, 6, none⟩ = some (.int .u64 (wd S 6)) ∧ w11.cell? ⟨p8, 7, none⟩ = some (.int .u64 (wd S 7))) := Lib.hid (Blk.eight (t := 100) (S := S) ((added_keepP hadd p8 (HP10.out.lt 1 rfl) hpg).trans (HP10.out.blk 1 rfl))); have hd : StPost B p g x R.1 x.Q R.2 w e w11 := (by rw [HPK5.out]; exact pk_done (φ := fun T => decide (mi T S = 0)) HS10.out HOK.out HP10.out.below HNW.out HSE.out.symm HVV.out (by have := Hlen.out; omega) HR10.out hadd); obtain ⟨x', rfl, hd2⟩ := hd; have HD := Lib.hid hd2; clear hadd hpg hd2) | skip); refine hK _ _ (by first | exact HZ2.out | exact HZ.out) ?_; clear hK K) | (refine Lx.lex_cases rfl rfl rfl (fun hgd K hK => ?_) (fun hgd K hK => ?_) <;> (try simp only [decide_eq_true_eq, decide_eq_false_iff_not] at hgd) <;> (first | (exfalso; omega) | (go_simp; refine hK _ ?_; clear hK K))))
       all_goals (refine Lx.lex_nil ?_)
       go_wp2_with fail
       go_ret
       exact ⟨x', rfl, HD.out⟩
     ·have HR : Hid (R = (x.P, 10)) := Lib.hid (HPK3.out.trans (if_neg (by rw [hf]; decide)))
      have hk1 : (vk != 0) = true := by simpa using hk0
      clear hf hk0 HPK3
      go_wp2_with fail
      go_ret
      rw [HR.out]
      exact st_same 10 HST.out HOK.out HP8.out.below
    ·have HR : Hid (R = (x.P, 9)) := Lib.hid (HPK2.out.trans (if_neg hm))
     rw [if_neg hm] at HS1
     unfold sV at HS1
     clear HPK2 hm
     go_wp2_with fail
     refine HS1.out.mono ?_
     rintro e W3 ⟨rfl, hb3⟩
     have HB3 := Lib.hid (HP.out.keep hb3).below
     clear hb3 HS1 HP HROW
     go_upto_region 12 with fail
     have HB4 := Lib.hid (HB3.out.alloc HB3.out.size (.cells #[.int .u64 (wd 0 0), .int .u64 (wd 0 1), .int .u64 (wd 0 2), .int .u64 (wd 0 3), .int .u64 (wd 0 4), .int .u64 (wd 0 5), .int .u64 (wd 0 6), .int .u64 (wd 0 7)] 100))
     go_wp2_with fail
     go_ret
     rw [HR.out]
     exact st_same 9 HST.out HOK.out HB4.out
def NewPost (ds : List Dom) (r : Rul) (w : World) (e : Ending) (w' : World) : Prop :=
 if validP ds r = true then ∃ g x, e = .returned (.tuple #[.pointer (some ⟨g, 0, none⟩), .int .i64 0]) ∧ w.heap.size ≤ g ∧ (∀ p, ¬ p g → StAt w' g p g x) ∧ StOk x ∧ x.ds.map Dom.say = ds.map Dom.say ∧ x.r = r ∧ x.P = [] ∧ x.Q = [] ∧ Below w.heap.size w w'
 else e = .returned (.tuple #[.pointer none, .int .i64 2]) ∧ Below w.heap.size w w'
theorem StAt.hdl {w : World} {B : Nat} {p : Nat → Prop} {g : Nat} {x : StS} (h : StAt w B p g x) : ∀ d ∈ x.ds, d.len = d.chs.length := fun d hd => (h.prb.1.2 d hd).1.symm
theorem resD_all {ds : List Dom} (h : ∀ y ∈ ds.map Dom.st, 0 ≤ y ∧ y < 512) : (ds.filter fun d => hasS (stS (ds.map Dom.st)) d.st) = ds := by
 rw [List.filter_eq_self]
 intro d hd
 rw [hasS_mem h, decide_eq_true_eq]
 exact List.mem_map.2 ⟨d, hd, rfl⟩
theorem resR_all {ds : List Dom} {r : Rul} (h : validP ds r = true) : resR (stS (ds.map Dom.st)) r = r := by
 unfold validP validD at h
 simp only [Bool.and_eq_true] at h
 obtain ⟨_, h4, h5, h6⟩ := h
 rw [List.all_eq_true] at h4 h5 h6
 unfold resR
 have e1 := List.filter_eq_self.2 h4
 have e2 := List.filter_eq_self.2 h5
 have e3 := List.filter_eq_self.2 h6
 rw [e1, e2, e3]
theorem valid_stOk {ds : List Dom} {r : Rul} (h : validP ds r = true) : stOk (ds.map Dom.st) = true := by
 have h1 := valid_st h
 have h2 := valid_inc h
 unfold stOk
 rw [Bool.and_eq_true, List.all_eq_true]
 refine ⟨fun x hx => (stF_iff _).2 (h1.1 x hx), ?_⟩
 rw [incF_pair cmpF (fun x => [x]) cmpF_less]
 refine h2.imp (fun {a b} hab => ?_)
 unfold lessL
 rw [if_pos (by omega)]
 exact decide_eq_true hab
theorem restF_all {ds : List Dom} {r : Rul} (h : validP ds r = true) : restF ds r (ds.map Dom.st) = ((ds.map Dom.say, r), 0) := by
 unfold restF
 rw [if_pos ⟨h, valid_stOk h⟩, if_pos ((sub_iff (valid_st h).1 (valid_st h).1).2 (fun _ h => h)), resD_all (valid_st h).1, resR_all h]
theorem new_any (s : PrbS) (w : World) (hT : Tab w) (ds : List Dom) (r : Rul) (hn : s.nd ≤ 9223372036854775807) (hd : ∀ d ∈ ds, d.len ≤ 9223372036854775807) (h : PrbAt w w.heap.size s ds r) :
  Calls Tryz.prog 11 #[s.val] w (NewPost ds r w) := by
 obtain ⟨p1, hp1⟩ : ∃ q, q = w.heap.size := ⟨_, rfl⟩
 obtain ⟨V0, hV0⟩ : ∃ V, V = w.alloc (.cells #[.slice s.ad s.nd s.cd, .slice s.rs.a0 s.rs.n0 s.rs.c0, .slice s.rs.a1 s.rs.n1 s.rs.c1, .slice s.rs.a2 s.rs.n2 s.rs.c2] 29) := ⟨_, rfl⟩
 have hP0 : Hp w w V0 [.blk p1 29 [.slice s.ad s.nd s.cd, .slice s.rs.a0 s.rs.n0 s.rs.c0, .slice s.rs.a1 s.rs.n1 s.rs.c1, .slice s.rs.a2 s.rs.n2 s.rs.c2]] [] := by
  have h := (Hp.start w).alloc [.slice s.ad s.nd s.cd, .slice s.rs.a0 s.rs.n0 s.rs.c0, .slice s.rs.a1 s.rs.n1 s.rs.c1, .slice s.rs.a2 s.rs.n2 s.rs.c2] 29
  rw [hV0, hp1]; exact h
 have hb0 := hP0.below
 have HSN := Lib.hid (stations_any s V0 (hT.keep hb0) ds r hn hd ⟨h.1.keep hb0, h.2.keep hb0⟩)
 have HH := Lib.hid h
 have HND := Lib.hid (And.intro hn hd)
 have m0 := hP0.c 0 0 rfl rfl
 have m1 := hP0.c 0 1 rfl rfl
 have m2 := hP0.c 0 2 rfl rfl
 have m3 := hP0.c 0 3 rfl rfl
 have ml := hP0.lt 0 rfl
 have HP0 := Lib.hid hP0
 unfold PrbS.val at *
 clear hT hn hd h hb0 hP0
 cases hv : validP ds r with
 | false =>
  have hst : statF ds r = ([], 2) := by unfold statF; rw [hv]; rfl
  rw [hst] at HSN
  have HE : Hid (NewPost ds r w = fun e w' => e = .returned (.tuple #[.pointer none, .int .i64 2]) ∧ Below w.heap.size w w') := Lib.hid (by funext e w'; unfold NewPost; rw [if_neg (by rw [hv]; decide)])
  clear hst hv
  rw [HE.out]
  go_enter Tryz.func11, Tryz.ntmps11
  go_upto_region 1 with fail
  rw [← hV0, ← hp1]
  clear hV0 hp1
  go_wp2_with fail
  refine HSN.out.mono ?_
  rintro e W1 ⟨v, rfl, hown, hb1⟩
  have HB := Lib.hid (HP0.out.keep hb1).below
  clear hown hb1
  go_wp2_with fail
  go_ret2
  exact ⟨rfl, HB.out⟩
 | true =>
  have hst : statF ds r = (ds.map Dom.st, 0) := by unfold statF; rw [hv]; rfl
  rw [hst] at HSN
  have HE : Hid (NewPost ds r w = fun e w' => ∃ g x, e = .returned (.tuple #[.pointer (some ⟨g, 0, none⟩), .int .i64 0]) ∧ w.heap.size ≤ g ∧ (∀ p, ¬ p g → StAt w' g p g x) ∧ StOk x ∧ x.ds.map Dom.say = ds.map Dom.say ∧ x.r = r ∧ x.P = [] ∧ x.Q = [] ∧ Below w.heap.size w w') := Lib.hid (by funext e w'; unfold NewPost; rw [if_pos hv])
  have HRF := Lib.hid (restF_all hv)
  have HV := Lib.hid hv
  have hin := (valid_st hv).1
  have HOF := Lib.hid (And.intro (ofF_in hin) (stS_fit hin))
  have hlen : (ds.map Dom.st).length ≤ 512 := by have := (valid_st hv).2.1; rw [List.length_map]; exact this
  have HLN := Lib.hid hlen
  clear hst hv hin hlen
  rw [HE.out]
  generalize hL : ds.map Dom.st = L at *
  have HL := Lib.hid hL
  clear hL
  go_enter Tryz.func11, Tryz.ntmps11
  go_upto_region 1 with fail
  rw [← hV0, ← hp1]
  clear hV0 hp1
  go_wp2_with fail
  refine HSN.out.mono ?_
  rintro e W1 ⟨v, rfl, hown, hb1⟩
  have hP1 := HP0.out.pushRow hb1 hown
  obtain ⟨vA, vc, rfl⟩ := hP1.form 1 rfl
  have hrow := row1_own hown
  have hb01 := hP1.below
  have hrs := restrict_any s vA L.length vc W1 ds r L HND.out.1 HND.out.2 (by have := HLN.out; omega) ⟨HH.out.1.keep hb01, HH.out.2.keep hb01⟩ hrow
  have hrf := HRF.out
  rw [hrf] at hrs
  have HRS := Lib.hid hrs
  have HP1 := Lib.hid hP1
  have HROW := Lib.hid hrow
  unfold PrbS.val at HRS
  clear m0 m1 m2 m3 ml HP0 HSN hown hb1
  have m0 := hP1.c 0 0 rfl rfl
  have m1 := hP1.c 0 1 rfl rfl
  have m2 := hP1.c 0 2 rfl rfl
  have m3 := hP1.c 0 3 rfl rfl
  have ml := hP1.lt 0 rfl
  clear hP1 hrow hb01 hrs hrf
  go_wp2_with fail
  refine HRS.out.mono ?_
  rintro e W5 ⟨s', es, rfl, hown, hsay, hb5⟩
  obtain ⟨Ad, nd, cd, ⟨B0, n0, d0, B1, n1, d1, B2, n2, d2⟩⟩ := s'
  have hP5 := HP1.out.keep hb5
  have hr5 := HROW.out.keep hb5
  clear m0 m1 m2 m3 ml HRS
  have ml := hP5.lt 0 rfl
  have m0 := hP5.c 0 0 rfl rfl
  have m1 := hP5.c 0 1 rfl rfl
  have m2 := hP5.c 0 2 rfl rfl
  have m3 := hP5.c 0 3 rfl rfl
  have mf := hP5.f 0 rfl
  have hpl : p1 < W1.heap.size := HP1.out.lt 0 rfl
  have HOWN := Lib.hid hown
  have HSAY := Lib.hid hsay
  have HP5 := Lib.hid hP5
  have HR5 := Lib.hid hr5
  have HPL := Lib.hid hpl
  clear hown hsay hb5 hP5 hr5 hpl HP1 HROW
  unfold PrbS.val
  dsimp only
  go_upto_region 5 with fail
  obtain ⟨V6, hV6⟩ : ∃ V, V = (((W5.setCell ⟨p1, 0, none⟩ (.slice Ad nd cd)).setCell ⟨p1, 1, none⟩ (.slice B0 n0 d0)).setCell ⟨p1, 2, none⟩ (.slice B1 n1 d1)).setCell ⟨p1, 3, none⟩ (.slice B2 n2 d2) := ⟨_, rfl⟩
  rw [← hV6]
  have hP6 := (((HP5.out.set 0 0 (.slice Ad nd cd) rfl).set 0 1 (.slice B0 n0 d0) rfl).set 0 2 (.slice B1 n1 d1) rfl).set 0 3 (.slice B2 n2 d2) rfl
  rw [← hV6] at hP6
  have hown6 : PrbOwn W1.heap.size ⟨Ad, nd, cd, ⟨B0, n0, d0, B1, n1, d1, B2, n2, d2⟩⟩ es r V6 := by rw [hV6]; exact (((HOWN.out.set HPL.out _).set HPL.out _).set HPL.out _).set HPL.out _
  have hrow6 : Row1 intV V6 V6.heap.size vA L.length L := row1_own (hP6.row 1 rfl)
  have hof := of_any vA L.length vc V6 L (by have := HLN.out; omega) hrow6
  rw [HOF.out.1] at hof
  have HO6 := Lib.hid hof
  have HP6 := Lib.hid hP6
  have HOWN6 := Lib.hid hown6
  unfold sV at HO6
  clear m0 m1 m2 m3 ml mf hV6 hP6 hown6 hrow6 hof HP5 HR5 HPL HOWN
  go_wp2_with fail
  refine HO6.out.mono ?_
  rintro e W7 ⟨rfl, hb7⟩
  obtain ⟨p6, hp6⟩ : ∃ q, q = W7.heap.size := ⟨_, rfl⟩
  obtain ⟨V8, hV8⟩ : ∃ V, V = W7.alloc (.cells (sL (stS L)).toArray 100) := ⟨_, rfl⟩
  have hP8 := (HP6.out.keep hb7).allocS (stS L) 100
  rw [← hV8, ← hp6] at hP8
  have hown8 := HOWN6.out.keep (W' := V8) (by rw [hV8]; exact hb7.trans (((Below.refl _ W7).alloc (Nat.le_refl _) _).mono hb7.size))
  have HP8 := Lib.hid hP8
  have HOWN8 := Lib.hid hown8
  have m0 := hP8.c 0 0 rfl rfl
  have m1 := hP8.c 0 1 rfl rfl
  have m2 := hP8.c 0 2 rfl rfl
  have m3 := hP8.c 0 3 rfl rfl
  have ml := hP8.lt 0 rfl
  unfold sL at hV8
  obtain ⟨c2_0, c2_1, c2_2, c2_3, c2_4, c2_5, c2_6, c2_7⟩ := (hP8.blk 2 rfl).eight; have f2 := hP8.f 2 rfl; have l2 := hP8.lt 2 rfl
  clear hb7 hP8 hown8 HO6 HP6 HOWN6
  go_upto_region 8 with fail
  rw [← hV8, ← hp6]
  clear hV8 hp6
  go_wp2_with fail
  go_ret2
  have hpa := HOWN8.out.at
  have hdk : ∀ (o : Obj), Below V8.heap.size V8 (V8.alloc o) := fun o => (Below.refl _ V8).alloc (Nat.le_refl _) _
  refine ⟨V8.heap.size, ⟨⟨Ad, nd, cd, ⟨B0, n0, d0, B1, n1, d1, B2, n2, d2⟩⟩, es, r, stS L, none, 0, 0, [], none, 0, 0, []⟩, rfl, HP8.out.below.size, fun p hp => ⟨?_, hpa.below (hdk _), Nat.le_refl _, hp, ⟨RowX.nil _ _ _ _ _, fun _ h => (by cases h)⟩, ⟨RowX.nil _ _ _ _ _, fun _ h => (by cases h)⟩⟩, ⟨?_, ?_, fun _ h => (by cases h), fun _ h => (by cases h), Nat.zero_le _, Nat.zero_le _⟩, HSAY.out, rfl, rfl, rfl, HP8.out.below.trans ((hdk _).mono HP8.out.below.size)⟩
  ·exact blk_new V8 _ _
  ·dsimp only
   rw [valid_say HSAY.out]; exact HV.out
  ·dsimp only
   rw [st_say HSAY.out, HL.out]
end Go.Proofs.YtdpbbhbegehcjaaGreatDoor

namespace Go.Proofs.YtdpbbhbegehcjaaGreatDoor
open Go.RowKit
theorem take_snoc {α : Type} {xs : List α} {k : Nat} {x : α} (hx : xs[k]? = some x) : xs.take (k + 1) = xs.take k ++ [x] := by rw [List.take_add_one, hx]; rfl
theorem all_take {α : Type} {xs : List α} {f : α → Bool} {k : Nat} {x : α} (hx : xs[k]? = some x) (h : (xs.take k).all f = true) (hf : f x = true) : (xs.take (k + 1)).all f = true := by rw [take_snoc hx, List.all_append, h]; simp [hf]
theorem all_no {α : Type} {xs : List α} {f : α → Bool} {k : Nat} {x : α} (hx : xs[k]? = some x) (hf : f x = false) : xs.all f = false := by
 rw [List.all_eq_false]; exact ⟨x, List.mem_of_getElem? hx, by rw [hf]; decide⟩
def lemSm (m : Lem) : Bool := decide (m.len ≤ 20)
def nsmF (xs : List Lem) (most : Nat) : Bool := decide (xs.length ≤ most) && xs.all lemSm
theorem nsmall_any (A : Option Addr) (n c most : Nat) (w : World) (xs : List Lem) (hm : most ≤ 100000) (hn : n ≤ 9223372036854775807) (hl : RowS 1 lemC w w.heap.size A n xs) :
  Calls Tryz.prog 68 #[.slice A n c, .int .i64 most] w fun e w' => e = .returned (.bool (nsmF xs most)) ∧ w = w' := by
 have Hl := Lib.hid hl
 have Hlen := Eqn.mk hl.1
 have HF : Eqn (nsmF xs most) (decide (xs.length ≤ most) && xs.all lemSm) := rfl
 generalize nsmF xs most = ans at *
 clear hl
 go_enter Tryz.func68, Tryz.ntmps68
 go_wp2_with fail
 go_loopw [5] (fun i wr => ∃ k : Nat, k ≤ n ∧ i = .int .i64 k ∧ (xs.take k).all lemSm = true ∧ w = wr) (fun i _ => n - (intOf i).toNat)
 case atStart => exact ⟨0, Nat.zero_le _, rfl, rfl, rfl⟩
 case round =>
  obtain ⟨k, hk, rfl, hall, rfl⟩ := hrel
  have HAL := Eqn.mk hall
  clear hall
  by_cases hlt : k < n
  ·have j0 : (k : Int) < (n : Int) := by omega
   by_cases h12 : k ≤ most
   ·have j1 : (k : Int) ≤ (most : Int) := by omega
    obtain ⟨m, hm'⟩ : ∃ m, xs[k]? = some m := ⟨_, List.getElem?_eq_getElem (by rw [Hlen.out]; exact hlt)⟩
    obtain ⟨b, off, rfl, hbl, hc⟩ := Hl.out.2 (by omega)
    have y0 : w.cell? ⟨b, off + k, none⟩ = some (.slice m.adr m.len m.cap) := by have := hc k m hm' 0 (by decide); rwa [Nat.mul_one, Nat.add_zero] at this
    by_cases h20 : m.len ≤ 20
    ·have j2 : ¬ (20 : Int) < (m.len : Int) := by omega
     have HN := Lib.hid (all_take hm' HAL.out (by unfold lemSm; exact decide_eq_true h20))
     clear hc hm' h20 HAL
     go_wp2_with fail
     go_roundw
     case rel => exact ⟨k + 1, hlt, by go_num, HN.out, trivial⟩
     case measure => simp [intOf]; omega
    ·have j2 : (20 : Int) < (m.len : Int) := by omega
     have HE : Hid (ans = false) := Lib.hid (by rw [HF, all_no hm' (by unfold lemSm; exact decide_eq_false h20), Bool.and_false])
     clear hc hm' h20 HAL HF
     go_wp2_with fail
     go_ret
     exact ⟨ret_bool HE.out.symm, rfl⟩
   ·have j1 : ¬ (k : Int) ≤ (most : Int) := by omega
    have HE : Hid (ans = false) := Lib.hid (by have h2 := Hlen.out; rw [HF, decide_eq_false (by omega), Bool.false_and])
    have j2 : ¬ (n : Int) ≤ (most : Int) := by omega
    clear HAL HF
    go_wp2_with fail
    go_ret
    exact ⟨ret_bool HE.out.symm, rfl⟩
  ·obtain rfl : k = n := by omega
   have HE : Hid (ans = decide (k ≤ most)) := Lib.hid (by
    have h1 := HAL.out
    have h2 := Hlen.out
    rw [List.take_of_length_le (by omega)] at h1
    rw [HF, h1, Bool.and_true]; exact decide_eq_decide.2 (by omega))
   clear HAL HF
   go_wp2_with fail
   go_ret
   exact ⟨ret_bool HE.out.symm, rfl⟩
def prfSm (y : Prf) (most : Nat) : Bool := decide (y.sn ≤ 20) && nsmF y.lms most
theorem psmall_any (y : Prf) (most : Nat) (w : World) (hm : most ≤ 100000) (hn : y.ln ≤ 9223372036854775807) (hl : RowS 1 lemC w w.heap.size y.la y.ln y.lms) :
  Calls Tryz.prog 28 #[y.val, .int .i64 most] w (RetPost (.bool (prfSm y most)) w.heap.size w) := by
 obtain ⟨V0, hV0⟩ : ∃ V0, V0 = w.alloc (.cells #[.slice y.sa y.sn y.sc, .slice y.la y.ln y.lc] 44) := ⟨_, rfl⟩
 obtain ⟨p, hp⟩ : ∃ p, p = w.heap.size := ⟨_, rfl⟩
 have hP0 : Hp w w V0 [.blk p 44 [.slice y.sa y.sn y.sc, .slice y.la y.ln y.lc]] [] := by
  have h := (Hp.start w).alloc [.slice y.sa y.sn y.sc, .slice y.la y.ln y.lc] 44
  rw [hV0, hp]; exact h
 have HN := Lib.hid (nsmall_any y.la y.ln y.lc most V0 y.lms hm hn (hl.keep hP0.below))
 have HF : Eqn (prfSm y most) (decide (y.sn ≤ 20) && nsmF y.lms most) := rfl
 generalize prfSm y most = ans at *
 generalize nsmF y.lms most = ns at *
 have HB := Lib.hid hP0.below
 have z0 := hP0.c 0 0 rfl rfl
 have z1 := hP0.c 0 1 rfl rfl
 have zl := hP0.lt 0 rfl
 unfold Prf.val Prf.v1 Prf.v2
 clear hP0 hl
 by_cases hs : y.sn ≤ 20
 ·have j0 : (y.sn : Int) ≤ 20 := by omega
  have HE : Hid (ans = ns) := Lib.hid (by rw [HF, decide_eq_true hs, Bool.true_and])
  clear HF hs
  go_enter Tryz.func28, Tryz.ntmps28
  go_upto_region 1 with fail
  rw [← hV0, ← hp]
  clear hV0 hp
  go_wp2_with fail
  refine HN.out.mono ?_
  rintro e W1 ⟨rfl, rfl⟩
  go_wp2_with fail
  go_ret
  exact ⟨ret_bool HE.out.symm, HB.out⟩
 ·have j0 : ¬ (y.sn : Int) ≤ 20 := by omega
  have HE : Hid (ans = false) := Lib.hid (by rw [HF, decide_eq_false hs, Bool.false_and])
  clear HF hs
  go_enter Tryz.func28, Tryz.ntmps28
  go_upto_region 1 with fail
  rw [← hV0, ← hp]
  clear hV0 hp
  go_wp2_with fail
  go_ret
  exact ⟨ret_bool HE.out.symm, HB.out⟩
structure Acd where
 kind : Int
 ch : Lem
 pr : Prf
 ta : Option Addr
 tn : Nat
 tc : Nat
 ts : List Int
def Acd.cell (x : Acd) : Nat → Value
 | 0 => .int .i64 x.kind
 | 1 => x.ch.val
 | 2 => x.pr.v1
 | 3 => x.pr.v2
 | _ => .slice x.ta x.tn x.tc
structure Acd.Raw (w : World) (x : Acd) : Prop where
 ch : RowS 2 chC w w.heap.size x.ch.adr x.ch.len x.ch.chs
 s : Row1 intV w w.heap.size x.pr.sa x.pr.sn x.pr.sts
 l : RowS 1 lemC w w.heap.size x.pr.la x.pr.ln x.pr.lms
 m : ∀ m ∈ x.pr.lms, RowS 2 chC w w.heap.size m.adr m.len m.chs
 t : Row1 intV w w.heap.size x.ta x.tn x.ts
 ln : x.pr.ln ≤ 9223372036854775807
 lc : x.pr.ln ≤ x.pr.lc
theorem Acd.Raw.keep {w X : World} {x : Acd} (h : x.Raw w) (hb : Below w.heap.size w X) : x.Raw X := ⟨h.ch.keep hb, h.s.keep hb, h.l.keep hb, fun m hm => (h.m m hm).keep hb, h.t.keep hb, h.ln, h.lc⟩
def actSm (x : Acd) : Bool := decide (x.ch.len ≤ 20) && (decide (x.tn ≤ 20) && prfSm x.pr 20)
def fewA (xs : List Acd) (most : Nat) : Bool := decide (xs.length ≤ most) && xs.all actSm
theorem Acd.tn_le {x : Acd} (hs : actSm x = true) : x.tn ≤ 20 := by
 unfold actSm at hs
 simp only [Bool.and_eq_true, decide_eq_true_eq] at hs
 exact hs.2.1
theorem few_any (A : Option Addr) (n c most : Nat) (w : World) (xs : List Acd) (hm : most ≤ 100000) (hn : n ≤ 9223372036854775807) (hl : RowS 5 Acd.cell w w.heap.size A n xs) (hx : ∀ x ∈ xs, x.Raw w) :
  Calls Tryz.prog 8 #[.slice A n c, .int .i64 most] w (RetPost (.bool (fewA xs most)) w.heap.size w) := by
 have Hl := Lib.hid hl
 have Hx := Lib.hid hx
 have Hlen := Eqn.mk hl.1
 have HF : Eqn (fewA xs most) (decide (xs.length ≤ most) && xs.all actSm) := rfl
 generalize fewA xs most = ans at *
 clear hl hx
 go_enter Tryz.func8, Tryz.ntmps8
 go_wp2_with fail
 go_loopw [5] (fun i wr => ∃ k : Nat, k ≤ n ∧ i = .int .i64 k ∧ (xs.take k).all actSm = true ∧ Below w.heap.size w wr) (fun i _ => n - (intOf i).toNat)
 case atStart => exact ⟨0, Nat.zero_le _, rfl, rfl, Below.refl _ _⟩
 case round =>
  obtain ⟨k, hk, rfl, hall, hb⟩ := hrel
  have HAL := Eqn.mk hall
  have HB := Lib.hid hb
  clear hall
  by_cases hlt : k < n
  ·have j0 : (k : Int) < (n : Int) := by omega
   by_cases h12 : k ≤ most
   ·have j1 : (k : Int) ≤ (most : Int) := by omega
    obtain ⟨x, hxk⟩ : ∃ x, xs[k]? = some x := ⟨_, List.getElem?_eq_getElem (by rw [Hlen.out]; exact hlt)⟩
    obtain ⟨b, off, rfl, hbl, hc⟩ := (Hl.out.keep hb).2 (by omega)
    have y1 : wr.cell? ⟨b, off + k * 5 + 1, none⟩ = some (.slice x.ch.adr x.ch.len x.ch.cap) := hc k x hxk 1 (by decide)
    have y2 : wr.cell? ⟨b, off + k * 5 + 2, none⟩ = some (.slice x.pr.sa x.pr.sn x.pr.sc) := hc k x hxk 2 (by decide)
    have y3 : wr.cell? ⟨b, off + k * 5 + 2 + 1, none⟩ = some (.slice x.pr.la x.pr.ln x.pr.lc) := hc k x hxk 3 (by decide)
    have y4 : wr.cell? ⟨b, off + k * 5 + 4, none⟩ = some (.slice x.ta x.tn x.tc) := hc k x hxk 4 (by decide)
    have HN1 : Hid (actSm x = true → (xs.take (k + 1)).all actSm = true) := Lib.hid (fun h => all_take hxk HAL.out h)
    have HN0 : Hid (actSm x = false → ans = false) := Lib.hid (fun h => by rw [HF, all_no hxk h, Bool.and_false])
    have HS : Eqn (actSm x) (decide (x.ch.len ≤ 20) && (decide (x.tn ≤ 20) && prfSm x.pr 20)) := rfl
    have hraw := (Hx.out x (List.mem_of_getElem? hxk)).keep hb
    have HPS := Lib.hid (psmall_any x.pr 20 wr (by decide) hraw.ln hraw.l)
    unfold Prf.val Prf.v1 Prf.v2 at HPS
    generalize actSm x = sm at *
    generalize prfSm x.pr 20 = ps at *
    clear hc hxk hb hbl hraw HAL HF
    by_cases h1 : x.ch.len ≤ 20
    ·have g1 : ¬ (20 : Int) < (x.ch.len : Int) := by omega
     by_cases h2 : x.tn ≤ 20
     ·have g2 : ¬ (20 : Int) < (x.tn : Int) := by omega
      have HS2 : Hid (sm = ps) := Lib.hid (by rw [HS, decide_eq_true h1, decide_eq_true h2, Bool.true_and, Bool.true_and])
      clear HS h1 h2
      go_wp2_with fail
      refine HPS.out.mono ?_
      rintro e W1 ⟨rfl, hb1⟩
      have HB1 := Lib.hid (HB.out.trans (hb1.mono HB.out.size))
      clear hb1 HPS y1 y2 y3 y4
      cases ps with
      | true =>
       go_wp2_with fail
       go_roundw
       case rel => exact ⟨k + 1, hlt, by go_num, HN1.out HS2.out, HB1.out⟩
       case measure => simp [intOf]; omega
      | false =>
       go_wp2_with fail
       go_ret
       exact ⟨ret_bool (HN0.out HS2.out).symm, HB1.out⟩
     ·have g2 : (20 : Int) < (x.tn : Int) := by omega
      have HE : Hid (ans = false) := Lib.hid (HN0.out (by rw [HS, decide_eq_false h2, Bool.false_and, Bool.and_false]))
      clear HS h1 h2 HN0 HN1 HPS
      go_wp2_with fail
      go_ret
      exact ⟨ret_bool HE.out.symm, HB.out⟩
    ·have g1 : (20 : Int) < (x.ch.len : Int) := by omega
     have HE : Hid (ans = false) := Lib.hid (HN0.out (by rw [HS, decide_eq_false h1, Bool.false_and]))
     clear HS h1 HN0 HN1 HPS
     go_wp2_with fail
     go_ret
     exact ⟨ret_bool HE.out.symm, HB.out⟩
   ·have j1 : ¬ (k : Int) ≤ (most : Int) := by omega
    have HE : Hid (ans = false) := Lib.hid (by have h2 := Hlen.out; rw [HF, decide_eq_false (by omega), Bool.false_and])
    have j2 : ¬ (n : Int) ≤ (most : Int) := by omega
    clear HAL HF hb
    go_wp2_with fail
    go_ret
    exact ⟨ret_bool HE.out.symm, HB.out⟩
  ·obtain rfl : k = n := by omega
   have HE : Hid (ans = decide (k ≤ most)) := Lib.hid (by
    have h1 := HAL.out
    have h2 := Hlen.out
    rw [List.take_of_length_le (by omega)] at h1
    rw [HF, h1, Bool.and_true]; exact decide_eq_decide.2 (by omega))
   clear HAL HF hb
   go_wp2_with fail
   go_ret
   exact ⟨ret_bool HE.out.symm, HB.out⟩
end Go.Proofs.YtdpbbhbegehcjaaGreatDoor
