/- A store and its reference while calls go on: the memory of a call that changes an older block; Copy. -/
import Derived.Deep.CutBlock
import Derived.Test.YtdpbbhbegehcjaaGreatDoorHol20
import Derived.Test.YtdpbbhbegehcjaaGreatDoorHol22
import Derived.Test.YtdpbbhbegehcjaaGreatDoorHol23
import Derived.Test.YtdpbbhbegehcjaaGreatDoorHol26
import Derived.Test.YtdpbbhbegehcjaaGreatDoorHol28
set_option maxRecDepth 100000
set_option maxHeartbeats 4000000
namespace Go.Proofs.YtdpbbhbegehcjaaGreatDoor
open Go.RowKit
def Slices (s : List Value) : Prop := ∀ (k : Nat) (v : Value), s[k]? = some v → ∃ a l c, v = .slice a l c
end Go.Proofs.YtdpbbhbegehcjaaGreatDoor

namespace Go.Proofs.YtdpbbhbegehcjaaGreatDoor
open Go.RowKit Go.Shelf
theorem right_cases {ds : List Dom} {r : Rul} {P : List Chs} {Q : List Prv} {L : List Int} (hv : validP ds r = true) (hG : Good ds r P Q) (h0 : (lkF ds P Q L).2 = 0) : stOk L = true ∧ mi (stS L) (stS (ds.map Dom.st)) = 0 ∧
  ((∃ l, (lkF ds P Q L).1 = (1, l, ([], [])) ∧ ∀ es, es.map Dom.say = (resD (stS L) ds).map Dom.say → fineF es (resR (stS L) r) l = true) ∨
   (∃ x, (lkF ds P Q L).1 = (2, [], x) ∧ amgF x.1 L = true ∧ chkF ds r x = 0 ∧ ∀ es, es.map Dom.say = (resD (stS L) ds).map Dom.say → chkF es (resR (stS L) r) x = 0) ∨
   (lkF ds P Q L).1 = (0, [], ([], []))) := by
 unfold lkF at h0 ⊢
 by_cases h1 : stOk L = true
 ·rw [if_pos h1] at h0 ⊢
  by_cases h2 : mi (stS L) (stS (ds.map Dom.st)) = 0
  ·rw [if_pos h2]
   have hLd : ∀ y ∈ L, y ∈ ds.map Dom.st := (sub_iff (stOk_in h1) (valid_st hv).1).1 h2
   refine ⟨h1, h2, ?_⟩
   cases hf : P.find? fun o => decide (mi (stS L) (stS (ofC o)) = 0) with
   | some o =>
    dsimp only
    refine .inl ⟨_, rfl, fun es hes => ?_⟩
    have ho := hG.p o (List.mem_of_find?_eq_some hf)
    have hs : mi (stS L) (stS (ofC o)) = 0 := by have h := List.find?_some hf; exact of_decide_eq_true h
    have hso := vl_stOk ho.1
    have hsub := has_sub (stOk_in h1) (stOk_in hso) ((sub_iff (stOk_in h1) (stOk_in hso)).1 hs)
    unfold fineF
    rw [vl_filter ho.1, Bool.true_and, ok_say hes]
    exact rest_asg (vpr hv) hsub ho.2.2
   | none =>
    dsimp only
    cases hg : Q.find? fun o => decide (mi (stS o.1) (stS L) = 0) with
    | some x =>
     dsimp only
     have hx := hG.q x (List.mem_of_find?_eq_some hg)
     have hs : mi (stS x.1) (stS L) = 0 := by have h := List.find?_some hg; exact of_decide_eq_true h
     have hm := (sub_iff (stOk_in hx.1) (stOk_in h1)).1 hs
     exact .inr (.inl ⟨x, rfl, amg_iff.2 hm, hx.2, fun es hes => chk_rest h1 hLd hm hes hx.2⟩)
    | none => exact .inr (.inr rfl)
  ·rw [if_neg h2] at h0; cases h0
 ·rw [if_neg h1] at h0; cases h0
def noAns : Ans := ⟨0, noLem, noPrf, 0⟩
theorem right_any (s : PrbS) (T : Option Addr) (n c : Nat) (a : Ans) (w : World) (ds : List Dom) (r : Rul) (L : List Int) (P : List Chs) (Q : List Prv) (hv : validP ds r = true) (h : PrbAt w w.heap.size s ds r) (hN : s.nd ≤ 9223372036854775807) (hl : Row1 intV w w.heap.size T n L) (hn : n ≤ 100000) (ha : a.At w) (hcap : a.y.ln ≤ a.y.lc) (hG : Good ds r P Q) (hst : a.st = 0) (h0 : (lkF ds P Q L).2 = 0) (hsay : a.say = (lkF ds P Q L).1) :
  Calls Tryz.prog 16 #[s.val, .slice T n c, a.val] w (RetPost (.bool true) w.heap.size w) := by
 obtain ⟨hstL, hmi, hcs⟩ := right_cases hv hG h0
 rw [← hsay] at hcs
 clear hsay h0 hG
 obtain ⟨p3, hp3⟩ : ∃ q, q = w.heap.size := ⟨_, rfl⟩
 obtain ⟨p5, hp5⟩ : ∃ q, q = w.heap.size + 1 := ⟨_, rfl⟩
 obtain ⟨V0, hV0⟩ : ∃ V, V = (w.alloc (.cells #[.slice s.ad s.nd s.cd, .slice s.rs.a0 s.rs.n0 s.rs.c0, .slice s.rs.a1 s.rs.n1 s.rs.c1, .slice s.rs.a2 s.rs.n2 s.rs.c2] 29)).alloc (.cells #[.int .i64 a.k, .slice a.o.adr a.o.len a.o.cap, .slice a.y.sa a.y.sn a.y.sc, .slice a.y.la a.y.ln a.y.lc, .int .i64 a.st] 51) := ⟨_, rfl⟩
 have hP0 : Hp w w V0 [.blk p3 29 [.slice s.ad s.nd s.cd, .slice s.rs.a0 s.rs.n0 s.rs.c0, .slice s.rs.a1 s.rs.n1 s.rs.c1, .slice s.rs.a2 s.rs.n2 s.rs.c2], .blk p5 51 [.int .i64 a.k, .slice a.o.adr a.o.len a.o.cap, .slice a.y.sa a.y.sn a.y.sc, .slice a.y.la a.y.ln a.y.lc, .int .i64 a.st]] [] := by
  have h := ((Hp.start w).alloc [.slice s.ad s.nd s.cd, .slice s.rs.a0 s.rs.n0 s.rs.c0, .slice s.rs.a1 s.rs.n1 s.rs.c1, .slice s.rs.a2 s.rs.n2 s.rs.c2] 29).alloc [.int .i64 a.k, .slice a.o.adr a.o.len a.o.cap, .slice a.y.sa a.y.sn a.y.sc, .slice a.y.la a.y.ln a.y.lc, .int .i64 a.st] 51
  simp only [World.size_alloc] at h
  rw [hV0, hp3, hp5]; exact h
 have hdl : ∀ d ∈ ds, d.len = d.chs.length := fun d hd => (h.1.2 d hd).1.symm
 have hre := rrestrict_any s T n c V0 ds r L hN (by omega) ⟨h.1.keep hP0.below, h.2.keep hP0.below⟩ (hl.keep hP0.below)
 rw [rrest_ok hv hdl hstL, if_pos hmi] at hre
 unfold PrbPost at hre
 have HVP := Lib.hid hv
 have HPA := Lib.hid (fun (W : World) (hb : Below w.heap.size w W) => (⟨h.1.keep hb, h.2.keep hb⟩ : PrbAt W W.heap.size s ds r))
 have HND := Lib.hid hN
 have HAT := Lib.hid (fun (W : World) (hb : Below w.heap.size w W) => (⟨ha.1.keep hb, ha.2.keep hb⟩ : a.At W))
 have HTL := Lib.hid (fun (W : World) (hb : Below w.heap.size w W) => hl.keep hb)
 have HCAP := Lib.hid hcap
 have HCS := Lib.hid hcs
 have HSA := Lib.hid (fun (W : World) (hW : a.At W) => sameAns_any a noAns W hW ⟨noLem_at _, noPrf_at _⟩)
 have HPS := Lib.hid (fun (W : World) (hW : a.y.At W (fun _ => True)) => psame_any a.y noPrf W hW (noPrf_at _))
 have HNA : Hid (a.say = (0, [], ([], [])) → saF a noAns = true) := Lib.hid (fun h => by rw [saF_iff]; exact ⟨h, hst⟩)
 unfold PrbS.val at hre ⊢
 have HRE := Lib.hid hre
 have q0 := (Lib.hid hP0).out.c 0 0 rfl rfl
 have q1 := (Lib.hid hP0).out.c 0 1 rfl rfl
 have q2 := (Lib.hid hP0).out.c 0 2 rfl rfl
 have q3 := (Lib.hid hP0).out.c 0 3 rfl rfl
 have ql := (Lib.hid hP0).out.lt 0 rfl
 have HP0 := Lib.hid hP0
 obtain ⟨k, ⟨oA, on, oc, och⟩, ⟨sA, sn, sc, sts, lA, ln, lc, lms⟩, st⟩ := a
 dsimp only at *
 subst hst
 unfold Ans.val
 dsimp only at *
 clear hP0 h hv hN hl ha hcap hcs hre hdl hstL hmi
 go_enter Tryz.func16, Tryz.ntmps16
 go_upto_region 1 with fail
 rw [← hV0, ← hp5, ← hp3]
 clear hV0 hp3 hp5
 go_wp2_with fail
 refine HRE.out.mono ?_
 rintro e W3 ⟨z, es, rfl, hat, hes, hb3⟩
 obtain ⟨p7, hp7⟩ : ∃ q, q = W3.heap.size := ⟨_, rfl⟩
 obtain ⟨W4, hW4⟩ : ∃ V, V = W3.alloc (.cells #[.slice z.ad z.nd z.cd, .slice z.rs.a0 z.rs.n0 z.rs.c0, .slice z.rs.a1 z.rs.n1 z.rs.c1, .slice z.rs.a2 z.rs.n2 z.rs.c2] 29) := ⟨_, rfl⟩
 have hP4 := (HP0.out.keep hb3).alloc [.slice z.ad z.nd z.cd, .slice z.rs.a0 z.rs.n0 z.rs.c0, .slice z.rs.a1 z.rs.n1 z.rs.c1, .slice z.rs.a2 z.rs.n2 z.rs.c2] 29
 rw [show ([.slice z.ad z.nd z.cd, .slice z.rs.a0 z.rs.n0 z.rs.c0, .slice z.rs.a1 z.rs.n1 z.rs.c1, .slice z.rs.a2 z.rs.n2 z.rs.c2] : List Value).toArray = #[.slice z.ad z.nd z.cd, .slice z.rs.a0 z.rs.n0 z.rs.c0, .slice z.rs.a1 z.rs.n1 z.rs.c1, .slice z.rs.a2 z.rs.n2 z.rs.c2] from rfl, ← hW4, ← hp7] at hP4
 have hb34 : Below W3.heap.size W3 W4 := by rw [hW4]; exact (Below.refl _ _).alloc (Nat.le_refl _) _
 obtain ⟨R2, hR2⟩ : ∃ R2, R2 = resR (stS L) r := ⟨_, rfl⟩
 have hvq : validP es R2 = true := by rw [hR2]; exact rest_valid HVP.out hes
 have hat0 : PrbAt W3 W3.heap.size z es R2 := by rw [hR2]; exact hat
 have hat4 : PrbAt W4 W4.heap.size z es R2 := ⟨hat0.1.keep hb34, hat0.2.keep hb34⟩
 have HZN : Hid (z.nd ≤ 9223372036854775807) := Lib.hid (by have h1 := hat4.1.1.1; have h2 := (valid_st hvq).2.1; omega)
 have HP4 := Lib.hid hP4
 have HQA := Lib.hid (fun (W : World) (hb : Below W4.heap.size W4 W) => (⟨hat4.1.keep hb, hat4.2.keep hb⟩ : PrbAt W W.heap.size z es R2))
 have HES := Lib.hid hes
 have HR2 := Lib.hid hR2
 have HVQ := Lib.hid hvq
 clear hP4 hb34 hat4 hat0 hat hes hb3 hR2 hvq HRE HP0 q0 q1 q2 q3 ql
 go_upto_region 2 with fail
 rw [← hW4, ← hp7]
 clear hW4 hp7
 have y0 := HP4.out.c 1 0 rfl rfl
 have y1 := HP4.out.c 1 1 rfl rfl
 have y2 := HP4.out.c 1 2 rfl rfl
 have y3 := HP4.out.c 1 3 rfl rfl
 have y4 := HP4.out.c 1 4 rfl rfl
 have yl := HP4.out.lt 1 rfl
 rcases HCS.out with ⟨l, h1, h2⟩ | ⟨x, h1, h2, h3, h4⟩ | h1
 ·have hk : k = 1 := congrArg Prod.fst h1
  have ho : och = l := congrArg (fun z => z.2.1) h1
  have hy : (⟨sA, sn, sc, sts, lA, ln, lc, lms⟩ : Prf).say = ([], []) := congrArg (fun z => z.2.2) h1
  subst hk ho
  have hfi := rfine_any z oA on oc W4 es R2 och (by have := (HAT.out W4 HP4.out.below).1.2; dsimp only at this; omega) HZN.out (HAT.out W4 HP4.out.below).1.rowS (HQA.out W4 (Below.refl _ _)) (fun d hd => by have h1 := ((HQA.out W4 (Below.refl _ _)).1.2 d hd).1; have h2 := (valid_st HVQ.out).2.2.1 d hd; omega)
  rw [HR2.out, h2 es HES.out] at hfi
  unfold PrbS.val at hfi
  have HFI := Lib.hid hfi
  have HSM := Lib.hid (fun (W : World) (hb : Below w.heap.size w W) => HPS.out W (HAT.out W hb).2)
  rw [decide_eq_true (show (⟨sA, sn, sc, sts, lA, ln, lc, lms⟩ : Prf).say = noPrf.say from hy)] at HSM
  unfold Prf.val Prf.v1 Prf.v2 noPrf at HSM
  dsimp only at HSM
  have q0 := HP4.out.c 2 0 rfl rfl
  have q1 := HP4.out.c 2 1 rfl rfl
  have q2 := HP4.out.c 2 2 rfl rfl
  have q3 := HP4.out.c 2 3 rfl rfl
  have ql := HP4.out.lt 2 rfl
  clear h1 h2 hy hfi
  go_wp2_with fail
  refine HFI.out.mono ?_
  rintro e W5 ⟨rfl, hb5⟩
  have HP5 := Lib.hid (HP4.out.keep hb5)
  have HS5 := Lib.hid (HSM.out W5 HP5.out.below)
  clear hb5 HFI HSM q0 q1 q2 q3 ql y0 y1 y2 y3 y4 yl
  have y0 := HP5.out.c 1 0 rfl rfl
  have y1 := HP5.out.c 1 1 rfl rfl
  have y2 := HP5.out.c 1 2 rfl rfl
  have y3 := HP5.out.c 1 3 rfl rfl
  have y4 := HP5.out.c 1 4 rfl rfl
  have yl := HP5.out.lt 1 rfl
  go_wp2_with fail
  refine HS5.out.mono ?_
  rintro e W6 ⟨rfl, hb6⟩
  have HB := Lib.hid (HP5.out.keep hb6).below
  clear hb6
  go_wp2_with fail
  go_ret
  exact ⟨rfl, HB.out⟩
 ·have hk : k = 2 := congrArg Prod.fst h1
  have ho : och = [] := congrArg (fun z => z.2.1) h1
  have hy : (⟨sA, sn, sc, sts, lA, ln, lc, lms⟩ : Prf).say = x := congrArg (fun z => z.2.2) h1
  have hon : on = 0 := by have := (HAT.out W4 HP4.out.below).1.1.1; dsimp only at this; rw [ho] at this; exact this.symm
  subst hk hon
  have ham := among_any sA T sn sc n c W4 sts L (by have := (HAT.out W4 HP4.out.below).2.2.2.2.1; dsimp only at this; omega) (by omega) (HAT.out W4 HP4.out.below).2.ints (HTL.out W4 HP4.out.below)
  have hys : sts = x.1 := congrArg Prod.fst hy
  rw [hys, h2] at ham
  have HAM := Lib.hid ham
  have hc1 := fun (W : World) (hb : Below w.heap.size w W) => rcheck_any s ⟨sA, sn, sc, sts, lA, ln, lc, lms⟩ W ds r HVP.out (HPA.out W hb) HND.out (HAT.out W hb).2 HCAP.out
  have hc2 := fun (W : World) (hb : Below W4.heap.size W4 W) => rcheck_any z ⟨sA, sn, sc, sts, lA, ln, lc, lms⟩ W es R2 HVQ.out (HQA.out W hb) HZN.out (HAT.out W (HP4.out.keep hb).below).2 HCAP.out
  rw [hy, h3] at hc1
  rw [hy, HR2.out, h4 es HES.out] at hc2
  unfold PrbS.val Prf.val Prf.v1 Prf.v2 at hc1 hc2
  dsimp only at hc1 hc2
  have HC1 := Lib.hid hc1
  have HC2 := Lib.hid hc2
  have q0 := HP4.out.c 0 0 rfl rfl
  have q1 := HP4.out.c 0 1 rfl rfl
  have q2 := HP4.out.c 0 2 rfl rfl
  have q3 := HP4.out.c 0 3 rfl rfl
  have ql := HP4.out.lt 0 rfl
  clear h1 h2 h3 h4 hy ham hys hc1 hc2 ho
  go_wp2_with fail
  refine HAM.out.mono ?_
  rintro e W5 ⟨rfl, rfl⟩
  have HK1 := Lib.hid (HC1.out W4 HP4.out.below)
  go_wp2_with fail
  refine HK1.out.mono ?_
  rintro e W6 ⟨rfl, hb6⟩
  have HP6 := Lib.hid (HP4.out.keep hb6)
  have HK2 := Lib.hid (HC2.out W6 hb6)
  clear hb6 HK1 HC1 HC2 q0 q1 q2 q3 ql y0 y1 y2 y3 y4 yl
  have y0 := HP6.out.c 1 0 rfl rfl
  have y1 := HP6.out.c 1 1 rfl rfl
  have y2 := HP6.out.c 1 2 rfl rfl
  have y3 := HP6.out.c 1 3 rfl rfl
  have y4 := HP6.out.c 1 4 rfl rfl
  have yl := HP6.out.lt 1 rfl
  have q0 := HP6.out.c 2 0 rfl rfl
  have q1 := HP6.out.c 2 1 rfl rfl
  have q2 := HP6.out.c 2 2 rfl rfl
  have q3 := HP6.out.c 2 3 rfl rfl
  have ql := HP6.out.lt 2 rfl
  go_wp2_with fail
  refine HK2.out.mono ?_
  rintro e W7 ⟨rfl, hb7⟩
  have HB := Lib.hid (HP6.out.keep hb7).below
  clear hb7
  go_wp2_with fail
  go_ret
  exact ⟨rfl, HB.out⟩
 ·have hk : k = 0 := congrArg Prod.fst h1
  have HS := HSA.out W4 (HAT.out W4 HP4.out.below)
  rw [HNA.out h1] at HS
  unfold Ans.val noAns noLem noPrf at HS
  dsimp only at HS
  subst hk
  have HS4 := Lib.hid HS
  clear h1 HS
  go_wp2_with fail
  refine HS4.out.mono ?_
  rintro e W5 ⟨rfl, hb5⟩
  have HB := Lib.hid (HP4.out.keep hb5).below
  clear hb5
  go_wp2_with fail
  go_ret
  exact ⟨rfl, HB.out⟩
end Go.Proofs.YtdpbbhbegehcjaaGreatDoor

namespace Go.Proofs.YtdpbbhbegehcjaaGreatDoor
open Go.RowKit Go.Shelf Go.Deep
end Go.Proofs.YtdpbbhbegehcjaaGreatDoor

namespace Go.Proofs.YtdpbbhbegehcjaaGreatDoor
open Go.RowKit Go.Shelf
section
variable {W X : World} {B g : Nat} {p : Nat → Prop} {x : StS} {m : MsS} {ds : List Dom} {r : Rul}
end
end Go.Proofs.YtdpbbhbegehcjaaGreatDoor
