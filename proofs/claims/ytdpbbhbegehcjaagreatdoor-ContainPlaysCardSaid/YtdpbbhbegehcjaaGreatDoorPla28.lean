/- A call on a store and on the reference: Lookup. -/
import Derived.Test.YtdpbbhbegehcjaaGreatDoorPla23
import Derived.Test.YtdpbbhbegehcjaaGreatDoorPla27
set_option maxRecDepth 100000
set_option maxHeartbeats 4000000
namespace Go.Proofs.YtdpbbhbegehcjaaGreatDoor
open Go.RowKit Go.Shelf
theorem do1_any (B : Nat) (p : Nat → Prop) (g : Nat) (x : StS) (m : MsS) (a : Acd) (w : World) (ds : List Dom) (r : Rul) (hP : PlSt w B p g x m ds r) (hnew : ∀ k, w.heap.size ≤ k → p k) (hk : a.kind = 1) (hn : a.pr.sn ≤ 20) (hy : a.pr.At w p) :
  Calls Tryz.prog 25 #[.pointer (some ⟨g, 0, none⟩), m.val, a.val] w (DoPost B p g ds r w) := by
 obtain ⟨kind, ch, pr, ta, tn, tc, ts⟩ := a
 dsimp only at *
 obtain ⟨p4, hp4⟩ : ∃ q, q = w.heap.size := ⟨_, rfl⟩
 obtain ⟨p5, hp5⟩ : ∃ q, q = w.heap.size + 1 := ⟨_, rfl⟩
 obtain ⟨p6, hp6⟩ : ∃ q, q = w.heap.size + 1 + 1 := ⟨_, rfl⟩
 obtain ⟨V0, hV0⟩ : ∃ V, V = ((w.alloc (.cells #[.slice m.s.ad m.s.nd m.s.cd, .slice m.s.rs.a0 m.s.rs.n0 m.s.rs.c0, .slice m.s.rs.a1 m.s.rs.n1 m.s.rs.c1, .slice m.s.rs.a2 m.s.rs.n2 m.s.rs.c2, .slice m.pa m.pn m.pc, .slice m.qa m.qn m.qc] 72)).alloc (.cells #[.int .i64 1, .slice ch.adr ch.len ch.cap, .slice pr.sa pr.sn pr.sc, .slice pr.la pr.ln pr.lc, .slice ta tn tc] 46)).alloc (.cells #[.slice none 0 0, .slice none 0 0, .slice none 0 0, .slice none 0 0, .slice none 0 0, .slice none 0 0] 72) := ⟨_, rfl⟩
 have hP0 : Hp w w V0 [.blk p4 72 [.slice m.s.ad m.s.nd m.s.cd, .slice m.s.rs.a0 m.s.rs.n0 m.s.rs.c0, .slice m.s.rs.a1 m.s.rs.n1 m.s.rs.c1, .slice m.s.rs.a2 m.s.rs.n2 m.s.rs.c2, .slice m.pa m.pn m.pc, .slice m.qa m.qn m.qc], .blk p5 46 [.int .i64 1, .slice ch.adr ch.len ch.cap, .slice pr.sa pr.sn pr.sc, .slice pr.la pr.ln pr.lc, .slice ta tn tc], .blk p6 72 [.slice none 0 0, .slice none 0 0, .slice none 0 0, .slice none 0 0, .slice none 0 0, .slice none 0 0]] [] := by
  have h := (((Hp.start w).alloc [.slice m.s.ad m.s.nd m.s.cd, .slice m.s.rs.a0 m.s.rs.n0 m.s.rs.c0, .slice m.s.rs.a1 m.s.rs.n1 m.s.rs.c1, .slice m.s.rs.a2 m.s.rs.n2 m.s.rs.c2, .slice m.pa m.pn m.pc, .slice m.qa m.qn m.qc] 72).alloc [.int .i64 1, .slice ch.adr ch.len ch.cap, .slice pr.sa pr.sn pr.sc, .slice pr.la pr.ln pr.lc, .slice ta tn tc] 46).alloc [.slice none 0 0, .slice none 0 0, .slice none 0 0, .slice none 0 0, .slice none 0 0, .slice none 0 0] 72
  simp only [World.size_alloc] at h
  rw [hV0, hp4, hp5, hp6]; exact h
 have HPL := Lib.hid hP
 have HNW := Lib.hid hnew
 clear hnew
 have HP0 := Lib.hid hP0
 subst hk
 have HY0 := Lib.hid (hy.mono (q := fun k => p k ∧ k < w.heap.size) (fun k hk hlt => ⟨hk, hlt⟩))
 have hcl := cloneL_any pr V0 ((hy.keep hP0.below).mono (fun _ _ _ => trivial))
 unfold Prf.val Prf.v1 Prf.v2 at hcl
 have HCL := Lib.hid hcl
 have HLN : Hid (pr.ln ≤ 100000) := Lib.hid hy.2.2.2.2
 have q5 := hP0.c 1 0 rfl rfl
 have q6 := hP0.c 1 2 rfl rfl
 have q7 := hP0.c 1 3 rfl rfl
 have ql := hP0.lt 1 rfl
 have hgw := hP.lt
 have HP6 := Lib.hid hp6
 unfold MsS.val Acd.val
 dsimp only
 clear hP0 hP hy hcl
 go_enter Tryz.func25, Tryz.ntmps25
 go_upto_region 1 with fail
 rw [← hV0, ← hp6, ← hp5, ← hp4]
 clear hV0 hp4 hp5 hp6
 go_wp2_with fail
 refine HCL.out.mono ?_
 rintro e wA ⟨⟨sA, n, sc, sts, lA, ln, lc, lms⟩, rfl, hsay, ⟨hsn, hln, hlm⟩, hHA⟩
 dsimp only at hsn hln hlm
 unfold Prf.val Prf.v1 Prf.v2
 dsimp only
 obtain ⟨p13, hp13⟩ : ∃ q, q = wA.heap.size := ⟨_, rfl⟩
 obtain ⟨w1, hw1⟩ : ∃ V, V = wA.alloc (.cells #[.slice sA n sc, .slice lA ln lc] 44) := ⟨_, rfl⟩
 have hJ := ((HP0.out.join hHA.below hHA).alloc [.slice sA n sc, .slice lA ln lc] 44).perm (perm_in _ _ _)
 rw [show ([.slice sA n sc, .slice lA ln lc] : List Value).toArray = #[.slice sA n sc, .slice lA ln lc] from rfl, ← hw1, ← hp13] at hJ
 obtain ⟨cs, hcs⟩ : ∃ cs : List Value, cs = sts.map intV := ⟨_, rfl⟩
 obtain ⟨ls, hls⟩ : ∃ ls : List Value, ls = lms.map Lem.val := ⟨_, rfl⟩
 have hG1 : Hp w w w1 ([.blk p4 72 [.slice m.s.ad m.s.nd m.s.cd, .slice m.s.rs.a0 m.s.rs.n0 m.s.rs.c0, .slice m.s.rs.a1 m.s.rs.n1 m.s.rs.c1, .slice m.s.rs.a2 m.s.rs.n2 m.s.rs.c2, .slice m.pa m.pn m.pc, .slice m.qa m.qn m.qc], .blk p5 46 [.int .i64 1, .slice ch.adr ch.len ch.cap, .slice pr.sa pr.sn pr.sc, .slice pr.la pr.ln pr.lc, .slice ta tn tc], .blk p6 72 [.slice none 0 0, .slice none 0 0, .slice none 0 0, .slice none 0 0, .slice none 0 0, .slice none 0 0], .blk p13 44 [.slice sA n sc, .slice lA ln lc]] ++ (.row (.slice sA n sc) 3 1 n cs :: .row (.slice lA ln lc) 41 1 ln ls :: lemEnts lms)) [] := by rw [hcs, hls]; exact hJ
 have hyw : (⟨sA, n, sc, sts, lA, ln, lc, lms⟩ : Prf).At w1 (fun _ => True) := prf_own (y := ⟨sA, n, sc, sts, lA, ln, lc, lms⟩) hJ (List.sublist_append_right _ _) ⟨by dsimp only; omega, by dsimp only; have := HLN.out; omega, hlm⟩
 have hPL1 := HPL.out.split hG1.below
 obtain ⟨C, hS1, hCl⟩ := hPL1.s
 have HCL0 := Lib.hid (And.intro hCl hPL1.low)
 have hRF := refute_any C (sp p w.heap.size w1.heap.size) g x ⟨sA, n, sc, sts, lA, ln, lc, lms⟩ w1 hS1 HPL.out.ok (fun k hk => ⟨HNW.out k (Nat.le_trans hG1.below.size hk), .inr hk⟩) hyw
 unfold Prf.val Prf.v1 Prf.v2 at hRF
 dsimp only at hRF
 rw [hsay] at hRF
 obtain ⟨N, hN⟩ : ∃ N, N = (rfF ds m.Q pr.say).2 := ⟨_, rfl⟩
 have hN2 : (rfF x.ds x.Q pr.say).2 = N := by rw [hN, rf_say _ _ HPL.out.say, HPL.out.eQ]
 rw [hN2] at hRF
 have HRF := Lib.hid hRF
 have HN := Lib.hid hN
 have HM1 := Lib.hid hPL1.mx
 have HG1 := Lib.hid hG1
 have HB6 : Hid (w.heap.size ≤ p6 ∧ p6 < w1.heap.size) := Lib.hid ⟨by rw [HP6.out]; omega, hG1.lt 2 rfl⟩
 have HOB : Hid (∀ b o, sA = some ⟨b, o, none⟩ → b < w1.heap.size) := Lib.hid (fun b o e => Ent.lt (e := .row (.slice sA n sc) 3 1 n cs) (hG1.row 4 rfl) (by rw [e]; rfl))
 have HOB2 : Hid (∀ b o, lA = some ⟨b, o, none⟩ → b < w1.heap.size) := Lib.hid (fun b o e => Ent.lt (e := .row (.slice lA ln lc) 41 1 ln ls) (hG1.row 5 rfl) (by rw [e]; rfl))
 have HCS : Hid (cs.length = n ∧ ls.length = ln) := Lib.hid ⟨by rw [hcs, List.length_map]; exact hyw.1.1, by rw [hls, List.length_map]; exact hyw.2.1.1⟩
 have hn20 : n ≤ 20 := by omega
 have hln2 : ln ≤ 100000 := by have := HLN.out; omega
 have HYW := Lib.hid hyw
 clear hJ hHA hcs hls hsay hsn hln hlm hS1 hCl hPL1 hRF hN hN2 q5 q6 q7 ql HP0 HP6 hyw HCL
 have y0 := hG1.c 3 0 rfl rfl
 have y1 := hG1.c 3 1 rfl rfl
 have yl := hG1.lt 3 rfl
 clear hG1
 go_upto_region 13 with fail
 rw [← hw1, ← hp13]
 clear hw1 hp13
 go_wp2_with fail
 refine HRF.out.mono ?_
 rintro e W2 hpost
 obtain ⟨x2, rfl, hS2, hO2, hds2, hr2, hP2, hQ2, hg2⟩ := hpost
 obtain ⟨v, hvs, hgv, hH2⟩ := HG1.out.older hg2 hgw
 have HH2 := Lib.hid hH2
 have HVS := Eqn.mk hvs
 have HX2 := Lib.hid (And.intro hS2 (And.intro hO2 (And.intro hds2 (And.intro hr2 (And.intro hP2 hQ2)))))
 have HM2 := Lib.hid (HM1.out.grown (sp_not HPL.out.no _ _) HPL.out.le hg2)
 have HG2 := Lib.hid hg2
 have HG1B := Lib.hid HG1.out.below
 clear hS2 hO2 hds2 hr2 hP2 hQ2 hg2 hvs hgv hH2 HRF HM1 y0 y1 yl HG1
 go_wp2_with fail
 go_loopw [15] (fun i wr => ∃ (k : Nat) (cs : List Value), k ≤ n ∧ i = .int .i64 k ∧ cs.length = n ∧ Hp v v wr ([.blk p4 72 [.slice m.s.ad m.s.nd m.s.cd, .slice m.s.rs.a0 m.s.rs.n0 m.s.rs.c0, .slice m.s.rs.a1 m.s.rs.n1 m.s.rs.c1, .slice m.s.rs.a2 m.s.rs.n2 m.s.rs.c2, .slice m.pa m.pn m.pc, .slice m.qa m.qn m.qc], .blk p5 46 [.int .i64 1, .slice ch.adr ch.len ch.cap, .slice pr.sa pr.sn pr.sc, .slice pr.la pr.ln pr.lc, .slice ta tn tc], .blk p6 72 [.slice none 0 0, .slice none 0 0, .slice none 0 0, .slice none 0 0, .slice none 0 0, .slice none 0 0], .blk p13 44 [.slice sA n sc, .slice lA ln lc]] ++ (.row (.slice sA n sc) 3 1 n cs :: .row (.slice lA ln lc) 41 1 ln ls :: lemEnts lms)) [] ∧ Mid w.heap.size w1.heap.size W2 wr) (fun i _ => n - (intOf i).toNat)
 case atStart => exact ⟨0, cs, Nat.zero_le _, rfl, HCS.out.1, HH2.out, Mid.refl _ _ _⟩
 case round =>
  clear HH2
  obtain ⟨k, cs, hk, rfl, hcs, hP, hM⟩ := hrel
  have HP := Lib.hid hP
  have HMD := Lib.hid hM
  have y0 := hP.c 3 0 rfl rfl
  have yl := hP.lt 3 rfl
  by_cases hlt : k < n
  ·have j0 : (k : Int) < (n : Int) := by omega
   obtain ⟨z, hz⟩ : ∃ z, cs[k]? = some z := ⟨_, List.getElem?_eq_getElem (by omega)⟩
   obtain ⟨b, c', hb', z0, zf, zl⟩ := hP.at 4 k rfl hz
   have hbl := hP.low _ (List.mem_of_getElem? (i := 4) rfl) b (by rw [hb']; rfl)
   injection hb' with hb' _ hc'
   subst hb' hc'
   have HBB : Hid (w.heap.size ≤ b ∧ b < w1.heap.size) := Lib.hid ⟨by rw [← HVS.out]; exact hbl, HOB.out b 0 rfl⟩
   have HCS2 := Eqn.mk hcs
   clear hP hz hcs hbl hM
   go_wp2_with fail
   go_roundw
   case rel => exact ⟨k + 1, cs.set k (.int .i64 500), hlt, by go_num, by rw [List.length_set, HCS2.out], HP.out.setRow 4 k (.int .i64 500) rfl, HMD.out.cell HBB.out.1 HBB.out.2 _ _⟩
   case measure => simp [intOf]; omega
  ·have j0 : ¬ (k : Int) < (n : Int) := by omega
   clear hP hM hcs
   go_wp2_with fail
   go_loopw [16] (fun i wr => ∃ (k : Nat) (ls : List Value), k ≤ ln ∧ i = .int .i64 k ∧ ls.length = ln ∧ Hp v v wr ([.blk p4 72 [.slice m.s.ad m.s.nd m.s.cd, .slice m.s.rs.a0 m.s.rs.n0 m.s.rs.c0, .slice m.s.rs.a1 m.s.rs.n1 m.s.rs.c1, .slice m.s.rs.a2 m.s.rs.n2 m.s.rs.c2, .slice m.pa m.pn m.pc, .slice m.qa m.qn m.qc], .blk p5 46 [.int .i64 1, .slice ch.adr ch.len ch.cap, .slice pr.sa pr.sn pr.sc, .slice pr.la pr.ln pr.lc, .slice ta tn tc], .blk p6 72 [.slice none 0 0, .slice none 0 0, .slice none 0 0, .slice none 0 0, .slice none 0 0, .slice none 0 0], .blk p13 44 [.slice sA n sc, .slice lA ln lc]] ++ (.row (.slice sA n sc) 3 1 n cs :: .row (.slice lA ln lc) 41 1 ln ls :: lemEnts lms)) [] ∧ Mid w.heap.size w1.heap.size W2 wr) (fun i _ => ln - (intOf i).toNat)
   case atStart => exact ⟨0, ls, Nat.zero_le _, rfl, HCS.out.2, HP.out, HMD.out⟩
   case round =>
    clear HP HMD
    obtain ⟨k2, ls, hk2, rfl, hls, hP, hM⟩ := hrel
    have HP := Lib.hid hP
    have HMD := Lib.hid hM
    have y1 := hP.c 3 1 rfl rfl
    have yl := hP.lt 3 rfl
    by_cases hlt : k2 < ln
    ·have j1 : (k2 : Int) < (ln : Int) := by omega
     obtain ⟨z, hz⟩ : ∃ z, ls[k2]? = some z := ⟨_, List.getElem?_eq_getElem (by omega)⟩
     obtain ⟨b, c', hb', z0, zf, zl⟩ := hP.at 5 k2 rfl hz
     have hbl := hP.low _ (List.mem_of_getElem? (i := 5) rfl) b (by rw [hb']; rfl)
     injection hb' with hb' _ hc'
     subst hb' hc'
     have HBB : Hid (w.heap.size ≤ b ∧ b < w1.heap.size) := Lib.hid ⟨by rw [← HVS.out]; exact hbl, HOB2.out b 0 rfl⟩
     have HLS2 := Eqn.mk hls
     clear hP hz hls hbl hM
     go_wp2_with fail
     go_roundw
     case rel => exact ⟨k2 + 1, ls.set k2 (.slice none 0 0), hlt, by go_num, by rw [List.length_set, HLS2.out], HP.out.setRow 5 k2 (.slice none 0 0) rfl, HMD.out.cell HBB.out.1 HBB.out.2 _ _⟩
     case measure => simp [intOf]; omega
    ·have j1 : ¬ (k2 : Int) < (ln : Int) := by omega
     obtain ⟨W3, rfl⟩ : ∃ W3 : World, W3 = wr := ⟨_, rfl⟩
     have hBw : B ≤ w.heap.size := by have := HPL.out.le; omega
     have hM3 := hM.ms HM2.out hBw (fun _ h => h)
     have hGB := gb3 HG1B.out HG2.out hM
     have hSM := gb_same hGB
     have hy3 : pr.At W3 (sp p w.heap.size w1.heap.size) := (HY0.out.turn (fun j hj _ => hSM j (fun e => HPL.out.no (e ▸ hj.1)) hj.2)).mono (fun j hj _ => ⟨hj.1, .inl hj.2⟩)
     have hRP := rrefute_any B (sp p w.heap.size w1.heap.size) m pr W3 ds r hM3 (fun j hj => by have h1 := hM.below.size; have h2 := HG2.out.size; have h3 := HG1B.out.size; exact ⟨HNW.out j (by omega), .inr (by omega)⟩) HPL.out.val HPL.out.rs.1 HPL.out.rs.2 hy3
     rw [← HN.out] at hRP
     unfold MsS.val Prf.val Prf.v1 Prf.v2 at hRP
     have HRP := Lib.hid hRP
     have HS3 := Lib.hid (hM.st HX2.out.1 hgw (fun _ h => h) (sp_not HPL.out.no _ _))
     have HB3 := Lib.hid hGB
     have q0 := HP.out.c 0 0 rfl rfl
     have q1 := HP.out.c 0 1 rfl rfl
     have q2 := HP.out.c 0 2 rfl rfl
     have q3 := HP.out.c 0 3 rfl rfl
     have q4 := HP.out.c 0 4 rfl rfl
     have q5 := HP.out.c 0 5 rfl rfl
     have ql := HP.out.lt 0 rfl
     have z2 := HP.out.c 1 2 rfl rfl
     have z3 := HP.out.c 1 3 rfl rfl
     have zl := HP.out.lt 1 rfl
     clear hP hls hM hM3 hSM hy3 hGB hRP HMD HM2 HG2 HCS HOB HOB2 HY0 HG1B hBw HYW
     go_wp2_with fail
     refine HRP.out.mono ?_
     rintro e W4 hpost
     obtain ⟨m2, rfl, hP4, hQ4, hM4, hb4⟩ := hpost
     obtain ⟨p7, hp7⟩ : ∃ q, q = W4.heap.size := ⟨_, rfl⟩
     obtain ⟨W7, hW7⟩ : ∃ V, V = W4.alloc (.cells #[.slice m2.s.ad m2.s.nd m2.s.cd, .slice m2.s.rs.a0 m2.s.rs.n0 m2.s.rs.c0, .slice m2.s.rs.a1 m2.s.rs.n1 m2.s.rs.c1, .slice m2.s.rs.a2 m2.s.rs.n2 m2.s.rs.c2, .slice m2.pa m2.pn m2.pc, .slice m2.qa m2.qn m2.qc] 72) := ⟨_, rfl⟩
     have hP7 := (((HP.out.keep hb4).sub (L' := [.blk p4 72 [.slice m.s.ad m.s.nd m.s.cd, .slice m.s.rs.a0 m.s.rs.n0 m.s.rs.c0, .slice m.s.rs.a1 m.s.rs.n1 m.s.rs.c1, .slice m.s.rs.a2 m.s.rs.n2 m.s.rs.c2, .slice m.pa m.pn m.pc, .slice m.qa m.qn m.qc], .blk p5 46 [.int .i64 1, .slice ch.adr ch.len ch.cap, .slice pr.sa pr.sn pr.sc, .slice pr.la pr.ln pr.lc, .slice ta tn tc], .blk p6 72 [.slice none 0 0, .slice none 0 0, .slice none 0 0, .slice none 0 0, .slice none 0 0, .slice none 0 0]]) (List.Sublist.cons_cons _ (List.Sublist.cons_cons _ (List.Sublist.cons_cons _ (List.nil_sublist _))))).alloc [.slice m2.s.ad m2.s.nd m2.s.cd, .slice m2.s.rs.a0 m2.s.rs.n0 m2.s.rs.c0, .slice m2.s.rs.a1 m2.s.rs.n1 m2.s.rs.c1, .slice m2.s.rs.a2 m2.s.rs.n2 m2.s.rs.c2, .slice m2.pa m2.pn m2.pc, .slice m2.qa m2.qn m2.qc] 72)
     rw [show ([.slice m2.s.ad m2.s.nd m2.s.cd, .slice m2.s.rs.a0 m2.s.rs.n0 m2.s.rs.c0, .slice m2.s.rs.a1 m2.s.rs.n1 m2.s.rs.c1, .slice m2.s.rs.a2 m2.s.rs.n2 m2.s.rs.c2, .slice m2.pa m2.pn m2.pc, .slice m2.qa m2.qn m2.qc] : List Value).toArray = #[.slice m2.s.ad m2.s.nd m2.s.cd, .slice m2.s.rs.a0 m2.s.rs.n0 m2.s.rs.c0, .slice m2.s.rs.a1 m2.s.rs.n1 m2.s.rs.c1, .slice m2.s.rs.a2 m2.s.rs.n2 m2.s.rs.c2, .slice m2.pa m2.pn m2.pc, .slice m2.qa m2.qn m2.qc] from rfl, ← hW7, ← hp7] at hP7
     have hb7 : Below W4.heap.size W4 W7 := by rw [hW7]; exact (Below.refl _ _).alloc (Nat.le_refl _) _
     have hb37 : Below W3.heap.size W3 W7 := hb4.trans (hb7.mono hb4.size)
     have hPL7 : PlSt W7 B (sp p w.heap.size w1.heap.size) g x2 m2 ds r := HPL.out.refuted ⟨C, HS3.out.keep hb37, HCL0.out.1⟩ HX2.out.2.1 HX2.out.2.2.1 HX2.out.2.2.2.1 HX2.out.2.2.2.2.1 HX2.out.2.2.2.2.2 hP4 hQ4 (hM4.keep hb7) HCL0.out.2
     obtain ⟨C7, hC7, _⟩ := hPL7.s
     have HP7 := Lib.hid hP7
     have HL7 := Lib.hid hPL7
     have HB7 := Lib.hid (gb_below HB3.out (hb37.mono HB3.out.size))
     have HTR : Hid ((decide (x2.P = m2.P) && decide (x2.Q = m2.Q)) = true) := Lib.hid (by rw [hPL7.eP, hPL7.eQ, decide_eq_true rfl, decide_eq_true rfl]; rfl)
     have HAG := Lib.hid (agrees_any C7 _ g x2 m2 ds r W7.drew (hC7.keep ((Below.refl _ _).drew)) hPL7.ok (hPL7.mx.at.keep ((Below.refl _ _).drew)))
     unfold MsS.val at *
     clear hP4 hQ4 hM4 hb4 hP7 hb7 hb37 hPL7 hC7 HP HRP HB3 q0 q1 q2 q3 q4 q5 ql y1 yl z2 z3 zl HX2 HS3
     go_upto_region 23 with fail
     rw [← hW7, ← hp7]
     clear hW7 hp7
     have HC7 := Lib.hid (fun (X : World) (hb : Below W7.heap.size W7 X) => (⟨(HP7.out.keep hb).c 3 0 rfl rfl, (HP7.out.keep hb).c 3 1 rfl rfl, (HP7.out.keep hb).c 3 2 rfl rfl, (HP7.out.keep hb).c 3 3 rfl rfl, (HP7.out.keep hb).c 3 4 rfl rfl, (HP7.out.keep hb).c 3 5 rfl rfl⟩ : X.cell? ⟨p7, 0, none⟩ = some (.slice m2.s.ad m2.s.nd m2.s.cd) ∧ X.cell? ⟨p7, 1, none⟩ = some (.slice m2.s.rs.a0 m2.s.rs.n0 m2.s.rs.c0) ∧ X.cell? ⟨p7, 2, none⟩ = some (.slice m2.s.rs.a1 m2.s.rs.n1 m2.s.rs.c1) ∧ X.cell? ⟨p7, 3, none⟩ = some (.slice m2.s.rs.a2 m2.s.rs.n2 m2.s.rs.c2) ∧ X.cell? ⟨p7, 4, none⟩ = some (.slice m2.pa m2.pn m2.pc) ∧ X.cell? ⟨p7, 5, none⟩ = some (.slice m2.qa m2.qn m2.qc)))
     have HDR := Lib.hid ((Below.refl W7.heap.size W7).drew)
     obtain ⟨q0, q1, q2, q3, q4, q5⟩ := HC7.out _ (Below.refl _ _)
     have ql := HP7.out.lt 3 rfl
     go_wp2_with fail
     refine Lx.region (C := fun X => X.cell? ⟨p7, 0, none⟩ = some (.slice m2.s.ad m2.s.nd m2.s.cd) ∧ X.cell? ⟨p7, 1, none⟩ = some (.slice m2.s.rs.a0 m2.s.rs.n0 m2.s.rs.c0) ∧ X.cell? ⟨p7, 2, none⟩ = some (.slice m2.s.rs.a1 m2.s.rs.n1 m2.s.rs.c1) ∧ X.cell? ⟨p7, 3, none⟩ = some (.slice m2.s.rs.a2 m2.s.rs.n2 m2.s.rs.c2) ∧ X.cell? ⟨p7, 4, none⟩ = some (.slice m2.pa m2.pn m2.pc) ∧ X.cell? ⟨p7, 5, none⟩ = some (.slice m2.qa m2.qn m2.qc)) (hs := [0]) (by kernel_rfl) (by kernel_rfl) (HC7.out _ HDR.out) ?_
     repeat' (first | ((first | refine Lx.ln (fun K hK => ?_) | (first | (refine Lx.lp (v := ?_) ?_ (fun K hK => ?_); rotate_left 1; intro w' hCw; try dsimp only at hCw) | (refine Lx.lr (v := ?_) ?_ (fun K hK => ?_); rotate_left 1)); go_simp; first | done | with_reducible rfl); go_simp; refine hK _ ?_; clear hK K) | (refine Lx.le (fun K hK => ?_); go_simp; (first | (go_at_call 27; refine HAG.out.mono ?_; rintro e W8 ⟨rfl, hb8⟩; have hb8' : Below W7.heap.size W7 W8 := HDR.out.trans (hb8.mono HDR.out.size); have HB8 := Lib.hid hb8'; have HP8 := Lib.hid (HP7.out.keep hb8'); have z0 := HP8.out.c 2 0 rfl rfl; have z1 := HP8.out.c 2 1 rfl rfl; have z2 := HP8.out.c 2 2 rfl rfl; have z3 := HP8.out.c 2 3 rfl rfl; have z4 := HP8.out.c 2 4 rfl rfl; have z5 := HP8.out.c 2 5 rfl rfl; have zf := HP8.out.f 2 rfl; have zl := HP8.out.lt 2 rfl; rw [HTR.out]; clear hb8 hb8') | skip); refine hK _ _ (by first | with_reducible exact HC7.out _ HB8.out | (have hX := ((((((HP8.out.set 2 0 (.slice m2.s.ad m2.s.nd m2.s.cd) rfl).set 2 1 (.slice m2.s.rs.a0 m2.s.rs.n0 m2.s.rs.c0) rfl).set 2 2 (.slice m2.s.rs.a1 m2.s.rs.n1 m2.s.rs.c1) rfl).set 2 3 (.slice m2.s.rs.a2 m2.s.rs.n2 m2.s.rs.c2) rfl).set 2 4 (.slice m2.pa m2.pn m2.pc) rfl).set 2 5 (.slice m2.qa m2.qn m2.qc) rfl); exact ⟨hX.c 3 0 rfl rfl, hX.c 3 1 rfl rfl, hX.c 3 2 rfl rfl, hX.c 3 3 rfl rfl, hX.c 3 4 rfl rfl, hX.c 3 5 rfl rfl⟩)) ?_; clear hK K))
     all_goals (refine Lx.lex_nil ?_)
     go_wp2_with fail
     have hX := ((((((HP8.out.set 2 0 (.slice m2.s.ad m2.s.nd m2.s.cd) rfl).set 2 1 (.slice m2.s.rs.a0 m2.s.rs.n0 m2.s.rs.c0) rfl).set 2 2 (.slice m2.s.rs.a1 m2.s.rs.n1 m2.s.rs.c1) rfl).set 2 3 (.slice m2.s.rs.a2 m2.s.rs.n2 m2.s.rs.c2) rfl).set 2 4 (.slice m2.pa m2.pn m2.pc) rfl).set 2 5 (.slice m2.qa m2.qn m2.qc) rfl)
     refine bodyPost_ret (v := .tuple #[.agg #[.slice m2.s.ad m2.s.nd m2.s.cd, .slice m2.s.rs.a0 m2.s.rs.n0 m2.s.rs.c0, .slice m2.s.rs.a1 m2.s.rs.n1 m2.s.rs.c1, .slice m2.s.rs.a2 m2.s.rs.n2 m2.s.rs.c2, .slice m2.pa m2.pn m2.pc, .slice m2.qa m2.qn m2.qc], .bool true]) (by simp [results, Tryz.results25, go_sem, hX.c 2 0 rfl rfl, hX.c 2 1 rfl rfl, hX.c 2 2 rfl rfl, hX.c 2 3 rfl rfl, hX.c 2 4 rfl rfl, hX.c 2 5 rfl rfl]) rfl ?_
     have hMd := (((((((Mid.refl w.heap.size w1.heap.size W8).cell HB6.out.1 HB6.out.2 0 (.slice m2.s.ad m2.s.nd m2.s.cd)).cell HB6.out.1 HB6.out.2 1 (.slice m2.s.rs.a0 m2.s.rs.n0 m2.s.rs.c0)).cell HB6.out.1 HB6.out.2 2 (.slice m2.s.rs.a1 m2.s.rs.n1 m2.s.rs.c1)).cell HB6.out.1 HB6.out.2 3 (.slice m2.s.rs.a2 m2.s.rs.n2 m2.s.rs.c2)).cell HB6.out.1 HB6.out.2 4 (.slice m2.pa m2.pn m2.pc)).cell HB6.out.1 HB6.out.2 5 (.slice m2.qa m2.qn m2.qc))
     exact ⟨x2, m2, rfl, ((HL7.out.keep HB8.out).mid hMd hgw).to (fun k hk _ => hk.1) HPL.out.no, gb_below (gb_below HB7.out (HB8.out.mono HB7.out.size)) hMd.below⟩
theorem do2_any (B : Nat) (p : Nat → Prop) (g : Nat) (x : StS) (m : MsS) (a : Acd) (w : World) (ds : List Dom) (r : Rul) (hP : PlSt w B p g x m ds r) (hnew : ∀ k, w.heap.size ≤ k → p k) (hk0 : ¬ a.kind = 0) (hk1 : ¬ a.kind = 1) (hn : a.tn ≤ 20) (ht : Row1 intV w w.heap.size a.ta a.tn a.ts) :
  Calls Tryz.prog 25 #[.pointer (some ⟨g, 0, none⟩), m.val, a.val] w (DoPost B p g ds r w) := by
 obtain ⟨kind, ch, pr, ta, tn, tc, ts⟩ := a
 dsimp only at *
 obtain ⟨p4, hp4⟩ : ∃ q, q = w.heap.size := ⟨_, rfl⟩
 obtain ⟨p5, hp5⟩ : ∃ q, q = w.heap.size + 1 := ⟨_, rfl⟩
 obtain ⟨p6, hp6⟩ : ∃ q, q = w.heap.size + 1 + 1 := ⟨_, rfl⟩
 obtain ⟨V0, hV0⟩ : ∃ V, V = ((w.alloc (.cells #[.slice m.s.ad m.s.nd m.s.cd, .slice m.s.rs.a0 m.s.rs.n0 m.s.rs.c0, .slice m.s.rs.a1 m.s.rs.n1 m.s.rs.c1, .slice m.s.rs.a2 m.s.rs.n2 m.s.rs.c2, .slice m.pa m.pn m.pc, .slice m.qa m.qn m.qc] 72)).alloc (.cells #[.int .i64 kind, .slice ch.adr ch.len ch.cap, .slice pr.sa pr.sn pr.sc, .slice pr.la pr.ln pr.lc, .slice ta tn tc] 46)).alloc (.cells #[.slice none 0 0, .slice none 0 0, .slice none 0 0, .slice none 0 0, .slice none 0 0, .slice none 0 0] 72) := ⟨_, rfl⟩
 have hP0 : Hp w w V0 [.blk p4 72 [.slice m.s.ad m.s.nd m.s.cd, .slice m.s.rs.a0 m.s.rs.n0 m.s.rs.c0, .slice m.s.rs.a1 m.s.rs.n1 m.s.rs.c1, .slice m.s.rs.a2 m.s.rs.n2 m.s.rs.c2, .slice m.pa m.pn m.pc, .slice m.qa m.qn m.qc], .blk p5 46 [.int .i64 kind, .slice ch.adr ch.len ch.cap, .slice pr.sa pr.sn pr.sc, .slice pr.la pr.ln pr.lc, .slice ta tn tc], .blk p6 72 [.slice none 0 0, .slice none 0 0, .slice none 0 0, .slice none 0 0, .slice none 0 0, .slice none 0 0]] [] := by
  have h := (((Hp.start w).alloc [.slice m.s.ad m.s.nd m.s.cd, .slice m.s.rs.a0 m.s.rs.n0 m.s.rs.c0, .slice m.s.rs.a1 m.s.rs.n1 m.s.rs.c1, .slice m.s.rs.a2 m.s.rs.n2 m.s.rs.c2, .slice m.pa m.pn m.pc, .slice m.qa m.qn m.qc] 72).alloc [.int .i64 kind, .slice ch.adr ch.len ch.cap, .slice pr.sa pr.sn pr.sc, .slice pr.la pr.ln pr.lc, .slice ta tn tc] 46).alloc [.slice none 0 0, .slice none 0 0, .slice none 0 0, .slice none 0 0, .slice none 0 0, .slice none 0 0] 72
  simp only [World.size_alloc] at h
  rw [hV0, hp4, hp5, hp6]; exact h
 have HPL := Lib.hid hP
 have HNW := Lib.hid hnew
 clear hnew
 have HP0 := Lib.hid hP0
 have d0 : (kind == 0) = false := by simpa using hk0
 have d1 : (kind == 1) = false := by simpa using hk1
 have HT0 := Lib.hid (fun (W : World) (hb : Below w.heap.size w W) => ht.keep hb)
 obtain ⟨C, hS, _⟩ := hP.s
 have hLK := lookup_any C p g x ta tn tc V0 ts (hS.keep hP0.below) hP.ok (by omega) (ht.keep hP0.below)
 rw [lk_say _ _ _ hP.say, hP.eP, hP.eQ] at hLK
 obtain ⟨⟨R, N⟩, hR⟩ : ∃ R, R = lkF ds m.P m.Q ts := ⟨_, rfl⟩
 rw [← hR] at hLK
 have HLK := Lib.hid hLK
 have HRE := Lib.hid hR
 have q5 := hP0.c 1 0 rfl rfl
 have q6 := hP0.c 1 4 rfl rfl
 have ql := hP0.lt 1 rfl
 have hgw := hP.lt
 have HP6 := Lib.hid hp6
 unfold MsS.val Acd.val
 dsimp only
 clear hP0 hP ht hS hLK hk0 hk1 hR
 go_enter Tryz.func25, Tryz.ntmps25
 go_upto_region 1 with fail
 rw [← hV0, ← hp6, ← hp5, ← hp4]
 clear hV0 hp4 hp5 hp6
 go_wp2_with fail
 refine HLK.out.mono ?_
 rintro e wA ⟨⟨oA, on, oc, och⟩, ⟨sA, n, sc, sts, lA, ln, lc, lms⟩, rfl, hoc, hys, hln, hHA⟩
 dsimp only at hln hoc
 unfold Lem.val Prf.v1 Prf.v2
 dsimp only
 obtain ⟨p19, hp19⟩ : ∃ q, q = wA.heap.size := ⟨_, rfl⟩
 obtain ⟨w1, hw1⟩ : ∃ V, V = wA.alloc (.cells #[.int .i64 R.1, .slice oA on oc, .slice sA n sc, .slice lA ln lc, .int .i64 0] 51) := ⟨_, rfl⟩
 have hJ := ((HP0.out.join hHA.below hHA).alloc [.int .i64 R.1, .slice oA on oc, .slice sA n sc, .slice lA ln lc, .int .i64 0] 51).perm (perm_in _ _ _)
 rw [show ([.int .i64 R.1, .slice oA on oc, .slice sA n sc, .slice lA ln lc, .int .i64 0] : List Value).toArray = #[.int .i64 R.1, .slice oA on oc, .slice sA n sc, .slice lA ln lc, .int .i64 0] from rfl, ← hw1, ← hp19] at hJ
 have hG0 : Hp w w w1 ([.blk p4 72 [.slice m.s.ad m.s.nd m.s.cd, .slice m.s.rs.a0 m.s.rs.n0 m.s.rs.c0, .slice m.s.rs.a1 m.s.rs.n1 m.s.rs.c1, .slice m.s.rs.a2 m.s.rs.n2 m.s.rs.c2, .slice m.pa m.pn m.pc, .slice m.qa m.qn m.qc], .blk p5 46 [.int .i64 kind, .slice ch.adr ch.len ch.cap, .slice pr.sa pr.sn pr.sc, .slice pr.la pr.ln pr.lc, .slice ta tn tc], .blk p6 72 [.slice none 0 0, .slice none 0 0, .slice none 0 0, .slice none 0 0, .slice none 0 0, .slice none 0 0], .blk p19 51 [.int .i64 R.1, .slice oA on oc, .slice sA n sc, .slice lA ln lc, .int .i64 0]] ++ (.row (.slice oA on oc) 91 2 on (flat 2 chC och) :: prfEnts ⟨sA, n, sc, sts, lA, ln, lc, lms⟩)) [] := hJ
 have hocl : och.length = on := by
  have h := hG0.row 4 rfl
  have h1 := h.1
  rw [flat_lenR] at h1; omega
 have hat := lk_at (o := ⟨oA, on, oc, och⟩) (y := ⟨sA, n, sc, sts, lA, ln, lc, lms⟩) rfl (hG0.sub (List.sublist_append_right _ _)) hln hocl
 obtain ⟨fo, hfo⟩ : ∃ fo : List Value, fo = flat 2 chC och := ⟨_, rfl⟩
 obtain ⟨cs, hcs⟩ : ∃ cs : List Value, cs = sts.map intV := ⟨_, rfl⟩
 obtain ⟨ls, hls⟩ : ∃ ls : List Value, ls = lms.map Lem.val := ⟨_, rfl⟩
 have hG1 : Hp w w w1 ([.blk p4 72 [.slice m.s.ad m.s.nd m.s.cd, .slice m.s.rs.a0 m.s.rs.n0 m.s.rs.c0, .slice m.s.rs.a1 m.s.rs.n1 m.s.rs.c1, .slice m.s.rs.a2 m.s.rs.n2 m.s.rs.c2, .slice m.pa m.pn m.pc, .slice m.qa m.qn m.qc], .blk p5 46 [.int .i64 kind, .slice ch.adr ch.len ch.cap, .slice pr.sa pr.sn pr.sc, .slice pr.la pr.ln pr.lc, .slice ta tn tc], .blk p6 72 [.slice none 0 0, .slice none 0 0, .slice none 0 0, .slice none 0 0, .slice none 0 0, .slice none 0 0], .blk p19 51 [.int .i64 R.1, .slice oA on oc, .slice sA n sc, .slice lA ln lc, .int .i64 0]] ++ (.row (.slice oA on oc) 91 2 on fo :: .row (.slice sA n sc) 3 1 n cs :: .row (.slice lA ln lc) 41 1 ln ls :: lemEnts lms)) [] := by rw [hfo, hcs, hls]; exact hG0
 have hPL1 := HPL.out.split hG1.below
 have HL1 := Lib.hid hPL1
 have hRL := rlookup_any m ta tn tc w1 ds r ts hPL1.mx.at HPL.out.val HPL.out.os.1 HPL.out.rs.1 HPL.out.os.2 HPL.out.rs.2 (by omega) (HT0.out w1 hG1.below)
 rw [← HRE.out] at hRL
 unfold MsS.val at hRL
 have HRL := Lib.hid hRL
 have HAT := Lib.hid hat
 have HSY : Hid (och = R.2.1 ∧ (⟨sA, n, sc, sts, lA, ln, lc, lms⟩ : Prf).say = R.2.2) := Lib.hid ⟨hoc, hys⟩
 have HG1 := Lib.hid hG1
 have HB6 : Hid (w.heap.size ≤ p6 ∧ p6 < w1.heap.size) := Lib.hid ⟨by rw [HP6.out]; omega, hG1.lt 2 rfl⟩
 have HOB : Hid (∀ b o, sA = some ⟨b, o, none⟩ → b < w1.heap.size) := Lib.hid (fun b o e => Ent.lt (e := .row (.slice sA n sc) 3 1 n cs) (hG1.row 5 rfl) (by rw [e]; rfl))
 have HCS : Hid (cs.length = n) := Lib.hid (by rw [hcs, List.length_map]; have h := (hG0.row 5 rfl).1; rw [List.length_map] at h; rw [h]; exact Nat.mul_one n)
 have hnb : n ≤ 100000 := hln.2.1
 have r0 := HG1.out.c 0 0 rfl rfl
 have r1 := HG1.out.c 0 1 rfl rfl
 have r2 := HG1.out.c 0 2 rfl rfl
 have r3 := HG1.out.c 0 3 rfl rfl
 have r4 := HG1.out.c 0 4 rfl rfl
 have r5 := HG1.out.c 0 5 rfl rfl
 have rl := HG1.out.lt 0 rfl
 have y4 := HG1.out.c 1 4 rfl rfl
 have yl := HG1.out.lt 1 rfl
 clear hJ hG0 hHA hoc hys hln hocl hat hfo hcs hls hPL1 hRL q5 q6 ql HP0 HP6 HLK hG1 HT0 HRE
 go_upto_region 25 with fail
 rw [← hw1, ← hp19]
 clear hw1 hp19
 go_wp2_with fail
 refine HRL.out.mono ?_
 rintro e wB ⟨a2, rfl, hs2, hst2, hat2, hbB⟩
 obtain ⟨p21, hp21⟩ : ∃ q, q = wB.heap.size := ⟨_, rfl⟩
 obtain ⟨W2, hW2⟩ : ∃ V, V = wB.alloc (.cells #[.int .i64 a2.k, .slice a2.o.adr a2.o.len a2.o.cap, .slice a2.y.sa a2.y.sn a2.y.sc, .slice a2.y.la a2.y.ln a2.y.lc, .int .i64 a2.st] 51) := ⟨_, rfl⟩
 have hb2 : Below w1.heap.size w1 W2 := by rw [hW2]; exact hbB.alloc hbB.size _
 have hbBW : Below wB.heap.size wB W2 := by rw [hW2]; exact (Below.refl _ _).alloc (Nat.le_refl _) _
 have hBlk : Blk W2 p21 51 a2.cells := by rw [hW2, hp21]; exact blk_new wB _ _
 have HP2 := Lib.hid (HG1.out.keep hb2)
 have hSA := sameAns_any ⟨R.1, ⟨oA, on, oc, och⟩, ⟨sA, n, sc, sts, lA, ln, lc, lms⟩, 0⟩ a2 W2 ⟨HAT.out.1.keep hb2, HAT.out.2.keep hb2⟩ ⟨hat2.1.keep hbBW, hat2.2.keep hbBW⟩
 have htr : saF ⟨R.1, ⟨oA, on, oc, och⟩, ⟨sA, n, sc, sts, lA, ln, lc, lms⟩, 0⟩ a2 = true := by
  rw [saF_iff]
  refine ⟨?_, hst2.symm⟩
  rw [hs2]
  show (R.1, och, (⟨sA, n, sc, sts, lA, ln, lc, lms⟩ : Prf).say) = R
  rw [HSY.out.1, HSY.out.2]
 rw [htr] at hSA
 unfold Ans.val at hSA
 dsimp only at hSA
 have HSA := Lib.hid hSA
 have HB2 := Lib.hid hb2
 have u0 := hBlk.cell (i := 0) rfl
 have u1 := hBlk.cell (i := 1) rfl
 have u2 := hBlk.cell (i := 2) rfl
 have u3 := hBlk.cell (i := 3) rfl
 have u4 := hBlk.cell (i := 4) rfl
 have ul := hBlk.lt
 have v0 := HP2.out.c 3 0 rfl rfl
 have v1 := HP2.out.c 3 1 rfl rfl
 have v2 := HP2.out.c 3 2 rfl rfl
 have v3 := HP2.out.c 3 3 rfl rfl
 have v4 := HP2.out.c 3 4 rfl rfl
 have vl := HP2.out.lt 3 rfl
 unfold Ans.val
 clear hs2 hst2 hat2 hbB hb2 hbBW hBlk hSA htr HRL HAT HSY r0 r1 r2 r3 r4 r5 rl y4 yl
 go_upto_region 26 with fail
 rw [← hW2, ← hp21]
 clear hW2 hp21
 go_wp2_with fail
 refine HSA.out.mono ?_
 rintro e W4 ⟨rfl, hb4⟩
 have HP4 := Lib.hid (HP2.out.keep hb4)
 have HB4 := Lib.hid (HB2.out.trans (hb4.mono HB2.out.size))
 have HL4 := Lib.hid (HL1.out.keep HB4.out)
 clear hb4 HSA HP2 HB2 HG1 HL1 u0 u1 u2 u3 u4 ul v0 v1 v2 v3 v4 vl
 go_wp2_with fail
 go_loopw [24] (fun i wr => ∃ (k : Nat) (cs : List Value), k ≤ n ∧ i = .int .i64 k ∧ cs.length = n ∧ Hp w w wr ([.blk p4 72 [.slice m.s.ad m.s.nd m.s.cd, .slice m.s.rs.a0 m.s.rs.n0 m.s.rs.c0, .slice m.s.rs.a1 m.s.rs.n1 m.s.rs.c1, .slice m.s.rs.a2 m.s.rs.n2 m.s.rs.c2, .slice m.pa m.pn m.pc, .slice m.qa m.qn m.qc], .blk p5 46 [.int .i64 kind, .slice ch.adr ch.len ch.cap, .slice pr.sa pr.sn pr.sc, .slice pr.la pr.ln pr.lc, .slice ta tn tc], .blk p6 72 [.slice none 0 0, .slice none 0 0, .slice none 0 0, .slice none 0 0, .slice none 0 0, .slice none 0 0], .blk p19 51 [.int .i64 R.1, .slice oA on oc, .slice sA n sc, .slice lA ln lc, .int .i64 0]] ++ (.row (.slice oA on oc) 91 2 on fo :: .row (.slice sA n sc) 3 1 n cs :: .row (.slice lA ln lc) 41 1 ln ls :: lemEnts lms)) [] ∧ Mid w.heap.size w1.heap.size W4 wr) (fun i _ => n - (intOf i).toNat)
 case atStart => exact ⟨0, cs, Nat.zero_le _, rfl, HCS.out, HP4.out, Mid.refl _ _ _⟩
 case round =>
  clear HP4
  obtain ⟨k, cs, hk, rfl, hcs, hP, hM⟩ := hrel
  have HP := Lib.hid hP
  have HMD := Lib.hid hM
  by_cases hlt : k < n
  ·have j0 : (k : Int) < (n : Int) := by omega
   have y2 := hP.c 3 2 rfl rfl
   have yl := hP.lt 3 rfl
   obtain ⟨z, hz⟩ : ∃ z, cs[k]? = some z := ⟨_, List.getElem?_eq_getElem (by omega)⟩
   obtain ⟨b, c', hb', z0, zf, zl⟩ := hP.at 5 k rfl hz
   have hbl := hP.low _ (List.mem_of_getElem? (i := 5) rfl) b (by rw [hb']; rfl)
   injection hb' with hb' _ hc'
   subst hb' hc'
   have HBB : Hid (w.heap.size ≤ b ∧ b < w1.heap.size) := Lib.hid ⟨hbl, HOB.out b 0 rfl⟩
   have HCS2 := Eqn.mk hcs
   clear hP hz hcs hbl hM
   go_wp2_with fail
   go_roundw
   case rel => exact ⟨k + 1, cs.set k (.int .i64 500), hlt, by go_num, by rw [List.length_set, HCS2.out], HP.out.setRow 5 k (.int .i64 500) rfl, HMD.out.cell HBB.out.1 HBB.out.2 _ _⟩
   case measure => simp [intOf]; omega
  ·obtain rfl : k = n := by omega
   have j0 : ¬ (k : Int) < (k : Int) := by omega
   have y2 := hP.c 3 2 rfl rfl
   have yl := hP.lt 3 rfl
   obtain ⟨W7, rfl⟩ : ∃ W7 : World, W7 = wr := ⟨_, rfl⟩
   have hBw : B ≤ w.heap.size := by have := HPL.out.le; omega
   have hPL7 : PlSt W7 B (sp p w.heap.size w1.heap.size) g x m ds r := HL4.out.mid hM hgw
   obtain ⟨C7, hC7, _⟩ := hPL7.s
   have HP7 := Lib.hid (hP.sub (L' := [.blk p4 72 [.slice m.s.ad m.s.nd m.s.cd, .slice m.s.rs.a0 m.s.rs.n0 m.s.rs.c0, .slice m.s.rs.a1 m.s.rs.n1 m.s.rs.c1, .slice m.s.rs.a2 m.s.rs.n2 m.s.rs.c2, .slice m.pa m.pn m.pc, .slice m.qa m.qn m.qc], .blk p5 46 [.int .i64 kind, .slice ch.adr ch.len ch.cap, .slice pr.sa pr.sn pr.sc, .slice pr.la pr.ln pr.lc, .slice ta tn tc], .blk p6 72 [.slice none 0 0, .slice none 0 0, .slice none 0 0, .slice none 0 0, .slice none 0 0, .slice none 0 0]]) (List.Sublist.cons_cons _ (List.Sublist.cons_cons _ (List.Sublist.cons_cons _ (List.nil_sublist _)))))
   have HL7 := Lib.hid hPL7
   have HB7 : Hid (w.grownBy W7 (some g)) := Lib.hid (grown_any_of HP7.out.below _)
   have HTR : Hid ((decide (x.P = m.P) && decide (x.Q = m.Q)) = true) := Lib.hid (by rw [hPL7.eP, hPL7.eQ, decide_eq_true rfl, decide_eq_true rfl]; rfl)
   have HAG := Lib.hid (agrees_any C7 _ g x m ds r W7.drew (hC7.keep ((Below.refl _ _).drew)) hPL7.ok (hPL7.mx.at.keep ((Below.refl _ _).drew)))
   unfold MsS.val at *
   clear hP hcs hM hPL7 hC7 HP HMD HCS HOB hBw HB4 HL4
   go_upto_region 31 with fail
   clear y2 yl
   have HC7 := Lib.hid (fun (X : World) (hb : Below W7.heap.size W7 X) => (⟨(HP7.out.keep hb).c 0 0 rfl rfl, (HP7.out.keep hb).c 0 1 rfl rfl, (HP7.out.keep hb).c 0 2 rfl rfl, (HP7.out.keep hb).c 0 3 rfl rfl, (HP7.out.keep hb).c 0 4 rfl rfl, (HP7.out.keep hb).c 0 5 rfl rfl⟩ : X.cell? ⟨p4, 0, none⟩ = some (.slice m.s.ad m.s.nd m.s.cd) ∧ X.cell? ⟨p4, 1, none⟩ = some (.slice m.s.rs.a0 m.s.rs.n0 m.s.rs.c0) ∧ X.cell? ⟨p4, 2, none⟩ = some (.slice m.s.rs.a1 m.s.rs.n1 m.s.rs.c1) ∧ X.cell? ⟨p4, 3, none⟩ = some (.slice m.s.rs.a2 m.s.rs.n2 m.s.rs.c2) ∧ X.cell? ⟨p4, 4, none⟩ = some (.slice m.pa m.pn m.pc) ∧ X.cell? ⟨p4, 5, none⟩ = some (.slice m.qa m.qn m.qc)))
   have HDR := Lib.hid ((Below.refl W7.heap.size W7).drew)
   obtain ⟨q0, q1, q2, q3, q4, q5⟩ := HC7.out _ (Below.refl _ _)
   have ql := HP7.out.lt 0 rfl
   go_wp2_with fail
   refine Lx.region (C := fun X => X.cell? ⟨p4, 0, none⟩ = some (.slice m.s.ad m.s.nd m.s.cd) ∧ X.cell? ⟨p4, 1, none⟩ = some (.slice m.s.rs.a0 m.s.rs.n0 m.s.rs.c0) ∧ X.cell? ⟨p4, 2, none⟩ = some (.slice m.s.rs.a1 m.s.rs.n1 m.s.rs.c1) ∧ X.cell? ⟨p4, 3, none⟩ = some (.slice m.s.rs.a2 m.s.rs.n2 m.s.rs.c2) ∧ X.cell? ⟨p4, 4, none⟩ = some (.slice m.pa m.pn m.pc) ∧ X.cell? ⟨p4, 5, none⟩ = some (.slice m.qa m.qn m.qc)) (hs := [0]) (by kernel_rfl) (by kernel_rfl) (HC7.out _ HDR.out) ?_
   repeat' (first | ((first | refine Lx.ln (fun K hK => ?_) | (first | (refine Lx.lp (v := ?_) ?_ (fun K hK => ?_); rotate_left 1; intro w' hCw; try dsimp only at hCw) | (refine Lx.lr (v := ?_) ?_ (fun K hK => ?_); rotate_left 1)); go_simp; first | done | with_reducible rfl); go_simp; refine hK _ ?_; clear hK K) | (refine Lx.le (fun K hK => ?_); go_simp; (first | (go_at_call 27; refine HAG.out.mono ?_; rintro e W8 ⟨rfl, hb8⟩; have hb8' : Below W7.heap.size W7 W8 := HDR.out.trans (hb8.mono HDR.out.size); have HB8 := Lib.hid hb8'; have HP8 := Lib.hid (HP7.out.keep hb8'); have z0 := HP8.out.c 2 0 rfl rfl; have z1 := HP8.out.c 2 1 rfl rfl; have z2 := HP8.out.c 2 2 rfl rfl; have z3 := HP8.out.c 2 3 rfl rfl; have z4 := HP8.out.c 2 4 rfl rfl; have z5 := HP8.out.c 2 5 rfl rfl; have zf := HP8.out.f 2 rfl; have zl := HP8.out.lt 2 rfl; rw [HTR.out]; clear hb8 hb8') | skip); refine hK _ _ (by first | with_reducible exact HC7.out _ HB8.out | (have hX := ((((((HP8.out.set 2 0 (.slice m.s.ad m.s.nd m.s.cd) rfl).set 2 1 (.slice m.s.rs.a0 m.s.rs.n0 m.s.rs.c0) rfl).set 2 2 (.slice m.s.rs.a1 m.s.rs.n1 m.s.rs.c1) rfl).set 2 3 (.slice m.s.rs.a2 m.s.rs.n2 m.s.rs.c2) rfl).set 2 4 (.slice m.pa m.pn m.pc) rfl).set 2 5 (.slice m.qa m.qn m.qc) rfl); exact ⟨hX.c 0 0 rfl rfl, hX.c 0 1 rfl rfl, hX.c 0 2 rfl rfl, hX.c 0 3 rfl rfl, hX.c 0 4 rfl rfl, hX.c 0 5 rfl rfl⟩)) ?_; clear hK K))
   all_goals (refine Lx.lex_nil ?_)
   go_wp2_with fail
   have hX := ((((((HP8.out.set 2 0 (.slice m.s.ad m.s.nd m.s.cd) rfl).set 2 1 (.slice m.s.rs.a0 m.s.rs.n0 m.s.rs.c0) rfl).set 2 2 (.slice m.s.rs.a1 m.s.rs.n1 m.s.rs.c1) rfl).set 2 3 (.slice m.s.rs.a2 m.s.rs.n2 m.s.rs.c2) rfl).set 2 4 (.slice m.pa m.pn m.pc) rfl).set 2 5 (.slice m.qa m.qn m.qc) rfl)
   refine bodyPost_ret (v := .tuple #[.agg #[.slice m.s.ad m.s.nd m.s.cd, .slice m.s.rs.a0 m.s.rs.n0 m.s.rs.c0, .slice m.s.rs.a1 m.s.rs.n1 m.s.rs.c1, .slice m.s.rs.a2 m.s.rs.n2 m.s.rs.c2, .slice m.pa m.pn m.pc, .slice m.qa m.qn m.qc], .bool true]) (by simp [results, Tryz.results25, go_sem, hX.c 2 0 rfl rfl, hX.c 2 1 rfl rfl, hX.c 2 2 rfl rfl, hX.c 2 3 rfl rfl, hX.c 2 4 rfl rfl, hX.c 2 5 rfl rfl]) rfl ?_
   have hMd := (((((((Mid.refl w.heap.size w1.heap.size W8).cell HB6.out.1 HB6.out.2 0 (.slice m.s.ad m.s.nd m.s.cd)).cell HB6.out.1 HB6.out.2 1 (.slice m.s.rs.a0 m.s.rs.n0 m.s.rs.c0)).cell HB6.out.1 HB6.out.2 2 (.slice m.s.rs.a1 m.s.rs.n1 m.s.rs.c1)).cell HB6.out.1 HB6.out.2 3 (.slice m.s.rs.a2 m.s.rs.n2 m.s.rs.c2)).cell HB6.out.1 HB6.out.2 4 (.slice m.pa m.pn m.pc)).cell HB6.out.1 HB6.out.2 5 (.slice m.qa m.qn m.qc))
   exact ⟨x, m, rfl, ((HL7.out.keep HB8.out).mid hMd hgw).to (fun k hk _ => hk.1) HPL.out.no, gb_below (gb_below HB7.out (HB8.out.mono HB7.out.size)) hMd.below⟩
end Go.Proofs.YtdpbbhbegehcjaaGreatDoor
