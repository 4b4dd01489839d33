/- Refute of the reference of layer 24. -/
import Derived.Deep.CutBlock
import Derived.Test.YtdpbbhbegehcjaaGreatDoorPla25
set_option maxRecDepth 100000
set_option maxHeartbeats 1500000
namespace Go.Proofs.YtdpbbhbegehcjaaGreatDoor
open Go.RowKit Go.Shelf Go.Deep
theorem rpack_any (B : Nat) (p : Nat → Prop) (m : MsS) (A : Option Addr) (n c : Nat) (w : World) (ds : List Dom) (r : Rul) (l : Chs) (hm : MsX w B p m ds r) (hnew : ∀ k, w.heap.size ≤ k → p k) (hv : validP ds r = true) (hP : ∀ o ∈ m.O, vlGo none o.chs = true) (hpl : m.O.length ≤ 1000) (hn : n ≤ 100000) (hl : RowX 2 chC w p A n l) :
  Calls Tryz.prog 65 #[m.val, .slice A n c] w (RpkPost B p m ds r (pkF ds r m.P l).1 m.Q (pkF ds r m.P l).2 w) := by
 obtain ⟨i0, hi, hz0, hz1, hz2⟩ := info_parts cs_info
 obtain ⟨p2, hp2⟩ : ∃ q, q = w.heap.size := ⟨_, rfl⟩
 obtain ⟨p4, hp4⟩ : ∃ q, q = w.heap.size + 1 := ⟨_, rfl⟩
 obtain ⟨V0, hV0⟩ : ∃ V, V = (w.alloc (.cells #[.slice m.s.ad m.s.nd m.s.cd, .slice m.s.rs.a0 m.s.rs.n0 m.s.rs.c0, .slice m.s.rs.a1 m.s.rs.n1 m.s.rs.c1, .slice m.s.rs.a2 m.s.rs.n2 m.s.rs.c2, .slice m.pa m.pn m.pc, .slice m.qa m.qn m.qc] 72)).alloc (.cells #[.slice none 0 0, .slice none 0 0, .slice none 0 0, .slice none 0 0, .slice none 0 0, .slice none 0 0] 72) := ⟨_, rfl⟩
 have hP0 : Hp w w V0 [.blk p2 72 [.slice m.s.ad m.s.nd m.s.cd, .slice m.s.rs.a0 m.s.rs.n0 m.s.rs.c0, .slice m.s.rs.a1 m.s.rs.n1 m.s.rs.c1, .slice m.s.rs.a2 m.s.rs.n2 m.s.rs.c2, .slice m.pa m.pn m.pc, .slice m.qa m.qn m.qc], .blk p4 72 [.slice none 0 0, .slice none 0 0, .slice none 0 0, .slice none 0 0, .slice none 0 0, .slice none 0 0]] [] := by
  have h := ((Hp.start w).alloc [.slice m.s.ad m.s.nd m.s.cd, .slice m.s.rs.a0 m.s.rs.n0 m.s.rs.c0, .slice m.s.rs.a1 m.s.rs.n1 m.s.rs.c1, .slice m.s.rs.a2 m.s.rs.n2 m.s.rs.c2, .slice m.pa m.pn m.pc, .slice m.qa m.qn m.qc] 72).alloc [.slice none 0 0, .slice none 0 0, .slice none 0 0, .slice none 0 0, .slice none 0 0, .slice none 0 0] 72
  simp only [World.size_alloc] at h
  rw [hV0, hp2, hp4]; exact h
 have hlS := hl.rowS (by decide)
 have HM := Lib.hid (fun (W : World) (hb : Below w.heap.size w W) => hm.keep hb)
 have HLX := Lib.hid (And.intro hl hnew)
 have HP0 := Lib.hid hP0
 have HV := Lib.hid hv
 have HO := Lib.hid hP
 have HDL := Lib.hid hm.at.dl
 have hpn : m.pn ≤ 1000 := by have := hm.pp.1; omega
 have HPL := Eqn.mk hm.pp.1
 have HL := Lib.hid (fun (W : World) (hb : Below w.heap.size w W) => hlS.keep hb)
 have HVL := Lib.hid (rvl_any A n c V0 l (by omega) (hlS.keep hP0.below))
 have HLL := Eqn.mk hl.1
 obtain ⟨R, hR⟩ : ∃ R, R = pkF ds r m.P l := ⟨_, rfl⟩
 rw [← hR]
 have HRE0 := Eqn.mk hR
 unfold MsS.val
 clear hP0 hm hv hP hl hlS hR hpl hnew
 go_enter Tryz.func65, Tryz.ntmps65
 go_upto_region 1 with fail
 rw [← hV0, ← hp4, ← hp2]
 clear hV0 hp2 hp4
 cases hvl : vlGo none l with
 | false =>
  rw [hvl] at HVL
  have HR : Hid (R = (m.P, 2)) := Lib.hid (by rw [HRE0.out]; unfold pkF; rw [hvl]; rfl)
  clear hvl HRE0
  go_wp2_with fail
  refine HVL.out.mono ?_
  rintro e W1 ⟨rfl, hb1⟩
  have HP1 := Lib.hid (HP0.out.keep hb1)
  clear hb1
  have q0 := HP1.out.c 0 0 rfl rfl
  have q1 := HP1.out.c 0 1 rfl rfl
  have q2 := HP1.out.c 0 2 rfl rfl
  have q3 := HP1.out.c 0 3 rfl rfl
  have q4 := HP1.out.c 0 4 rfl rfl
  have q5 := HP1.out.c 0 5 rfl rfl
  have y0 := HP1.out.c 1 0 rfl rfl
  have y1 := HP1.out.c 1 1 rfl rfl
  have y2 := HP1.out.c 1 2 rfl rfl
  have y3 := HP1.out.c 1 3 rfl rfl
  have y4 := HP1.out.c 1 4 rfl rfl
  have y5 := HP1.out.c 1 5 rfl rfl
  have ql := HP1.out.lt 0 rfl
  have yf := HP1.out.f 1 rfl
  have yl := HP1.out.lt 1 rfl
  go_wp2_with fail
  have hX := ((((((HP1.out.set 1 0 (.slice m.s.ad m.s.nd m.s.cd) rfl).set 1 1 (.slice m.s.rs.a0 m.s.rs.n0 m.s.rs.c0) rfl).set 1 2 (.slice m.s.rs.a1 m.s.rs.n1 m.s.rs.c1) rfl).set 1 3 (.slice m.s.rs.a2 m.s.rs.n2 m.s.rs.c2) rfl).set 1 4 (.slice m.pa m.pn m.pc) rfl).set 1 5 (.slice m.qa m.qn m.qc) rfl)
  refine bodyPost_ret (v := .tuple #[.agg #[.slice m.s.ad m.s.nd m.s.cd, .slice m.s.rs.a0 m.s.rs.n0 m.s.rs.c0, .slice m.s.rs.a1 m.s.rs.n1 m.s.rs.c1, .slice m.s.rs.a2 m.s.rs.n2 m.s.rs.c2, .slice m.pa m.pn m.pc, .slice m.qa m.qn m.qc], .int .i64 2]) (by simp [results, Tryz.results65, go_sem, hX.c 1 0 rfl rfl, hX.c 1 1 rfl rfl, hX.c 1 2 rfl rfl, hX.c 1 3 rfl rfl, hX.c 1 4 rfl rfl, hX.c 1 5 rfl rfl]) rfl ?_
  rw [HR.out]; exact ms_same HM.out hX.below
 | true =>
  rw [hvl] at HVL
  have HVT := Lib.hid hvl
  clear hvl
  go_wp2_with fail
  refine HVL.out.mono ?_
  rintro e W1 ⟨rfl, hb1⟩
  have HP1 := Lib.hid (HP0.out.keep hb1)
  clear hb1 HP0 HVL
  have HSA := Lib.hid (fun (W : World) (hb : Below W1.heap.size W1 W) => asts_row A n c W l hn (HL.out W (HP1.out.keep hb).below))
  have HRE := Lib.hid (fun (W : World) (hb : Below W1.heap.size W1 W) (B : Option Addr) (d : Nat) (hB : Row1 intV W W.heap.size B n (ofC l)) => rrestrict_any m.s B n d W ds r (ofC l) (HM.out W (HP1.out.keep hb).below).nd (by omega) (HM.out W (HP1.out.keep hb).below).at.prb hB)
  have HRK := Lib.hid (rrest_ok HV.out HDL.out (vl_stOk HVT.out))
  generalize hrr : rrestF ds r (ofC l) = rr at *
  clear hrr
  unfold PrbS.val PrbPost at HRE
  unfold RowNew at HSA
  have HC1 := Lib.hid (fun (X : World) (hb : Below W1.heap.size W1 X) => (⟨(HP1.out.keep hb).c 0 0 rfl rfl, (HP1.out.keep hb).c 0 1 rfl rfl, (HP1.out.keep hb).c 0 2 rfl rfl, (HP1.out.keep hb).c 0 3 rfl rfl⟩ : X.cell? ⟨p2, 0, none⟩ = some (.slice m.s.ad m.s.nd m.s.cd) ∧ X.cell? ⟨p2, 1, none⟩ = some (.slice m.s.rs.a0 m.s.rs.n0 m.s.rs.c0) ∧ X.cell? ⟨p2, 2, none⟩ = some (.slice m.s.rs.a1 m.s.rs.n1 m.s.rs.c1) ∧ X.cell? ⟨p2, 3, none⟩ = some (.slice m.s.rs.a2 m.s.rs.n2 m.s.rs.c2)))
  have HDR := Lib.hid ((Below.refl W1.heap.size W1).drew)
  have HDA : Hid (Below W1.heap.size W1 (W1.alloc (.cells #[.slice none 0 0, .slice none 0 0, .slice none 0 0, .slice none 0 0] 29)).drew) := Lib.hid ((Below.refl _ W1).alloc (Nat.le_refl _) _).drew
  obtain ⟨q0, q1, q2, q3⟩ := HC1.out _ (Below.refl _ _)
  have ql := HP1.out.lt 0 rfl
  go_upto_region 3 with fail
  go_cut [6, 7] from 14 (fun s5 s6 wx => ∃ (g : Nat) (s' : PrbS) (es : List Dom), s5 = .pointer (some ⟨g, 0, none⟩) ∧ s6 = .int .i64 rr.2 ∧ Blk wx g 29 (ss4 s') ∧ PrbAt wx wx.heap.size s' es rr.1.2 ∧ es.map Dom.say = rr.1.1 ∧ Below W1.heap.size W1 wx)
  case first =>
   refine Lx.regionA (C := fun X => X.cell? ⟨p2, 0, none⟩ = some (.slice m.s.ad m.s.nd m.s.cd) ∧ X.cell? ⟨p2, 1, none⟩ = some (.slice m.s.rs.a0 m.s.rs.n0 m.s.rs.c0) ∧ X.cell? ⟨p2, 2, none⟩ = some (.slice m.s.rs.a1 m.s.rs.n1 m.s.rs.c1) ∧ X.cell? ⟨p2, 3, none⟩ = some (.slice m.s.rs.a2 m.s.rs.n2 m.s.rs.c2)) (hs := [1]) (.op 0 (.op 1 (.op 2 (.alt (.op 3 (.alt (.op 4 (.op 5 (.op 6 (.op 7 (.op 8 (.op 9 (.op 10 .done))))))) (.op 8 (.op 4 (.op 5 (.op 6 (.op 7 (.op 9 (.op 10 .done))))))))) (.op 8 (.op 3 (.op 4 (.op 5 (.op 6 (.op 7 (.op 9 (.op 10 .done)))))))))))) (by kernel_rfl) (by kernel_rfl) (HC1.out _ HDR.out) ?_
   dsimp only [Lx.numbT, List.getElem?_cons_zero, List.getElem?_cons_succ]
   repeat' (first | ((first | refine Lx.qn (fun K hK => ?_) | (first | (refine Lx.qp (v := ?_) ?_ (fun K hK => ?_); rotate_left 1; intro w' hCw; try dsimp only at hCw) | (refine Lx.qr (v := ?_) ?_ (fun K hK => ?_); rotate_left 1)); go_simp; first | done | with_reducible rfl); go_simp; refine hK _ ?_; clear hK K) | (refine Lx.qe (fun K hK => ?_); go_simp; (first | fail | skip); refine hK _ _ (by first | exact HC1.out _ hbs4 | exact HC1.out _ hbs2 | exact HC1.out _ hbb2 | exact HC1.out _ hba2 | exact HC1.out _ hba1 | exact HC1.out _ HDA.out) ?_; clear hK K))
   refine Lx.lexO_alt ?_ ?_
   ·skip
    repeat' (first | ((first | refine Lx.qn (fun K hK => ?_) | (first | (refine Lx.qp (v := ?_) ?_ (fun K hK => ?_); rotate_left 1; intro w' hCw; try dsimp only at hCw) | (refine Lx.qr (v := ?_) ?_ (fun K hK => ?_); rotate_left 1)); go_simp; first | done | with_reducible rfl); go_simp; refine hK _ ?_; clear hK K) | (refine Lx.qe (fun K hK => ?_); go_simp; (first | (go_at_call 20; refine (HSA.out _ HDR.out).mono ?_; rintro e Wa ⟨Aa, ca, rfl, hra, hba⟩; have hba1 : Below W1.heap.size W1 Wa := HDR.out.trans (hba.mono HDR.out.size)) | skip); refine hK _ _ (by first | exact HC1.out _ hbs4 | exact HC1.out _ hbs2 | exact HC1.out _ hbb2 | exact HC1.out _ hba2 | exact HC1.out _ hba1 | exact HC1.out _ HDA.out) ?_; clear hK K))
    refine Lx.lexO_alt ?_ ?_
    ·skip
     repeat' (first | ((first | refine Lx.qn (fun K hK => ?_) | (first | (refine Lx.qp (v := ?_) ?_ (fun K hK => ?_); rotate_left 1; intro w' hCw; try dsimp only at hCw) | (refine Lx.qr (v := ?_) ?_ (fun K hK => ?_); rotate_left 1)); go_simp; first | done | with_reducible rfl); go_simp; refine hK _ ?_; clear hK K) | (refine Lx.qe (fun K hK => ?_); go_simp; (first | (go_at_call 53; refine (HRE.out _ hba1 _ _ hra).mono ?_; rintro e Wb ⟨⟨pa, pn, pc, ⟨B0', m0, d0, B1', m1, d1, B2', m2, d2⟩⟩, es, rfl, hat, hsay, hbb⟩; have hbb2 : Below W1.heap.size W1 Wb := hba1.trans (hbb.mono hba1.size); have hbs2 : Below W1.heap.size W1 (Wb.alloc (.cells #[.slice none 0 0, .slice none 0 0, .slice none 0 0, .slice none 0 0] 29)) := hbb2.alloc hbb2.size _; have hbs4 : Below W1.heap.size W1 (Wb.alloc (.cells #[.slice pa pn pc, .slice B0' m0 d0, .slice B1' m1 d1, .slice B2' m2 d2] 29)) := hbb2.alloc hbb2.size _; unfold PrbS.val; dsimp only) | skip | skip); refine hK _ _ (by first | exact HC1.out _ hbs4 | exact HC1.out _ hbs2 | exact HC1.out _ hbb2 | exact HC1.out _ hba2 | exact HC1.out _ hba1 | exact HC1.out _ HDA.out) ?_; clear hK K))
     all_goals (refine Lx.lexO_done ?_)
     go_wp2_with fail
     go_meet
     exact ⟨_, ⟨pa, pn, pc, ⟨B0', m0, d0, B1', m1, d1, B2', m2, d2⟩⟩, es, rfl, rfl, blk_new _ _ _, (⟨hat.1.keep ((Below.refl _ _).alloc (Nat.le_refl _) _), hat.2.keep ((Below.refl _ _).alloc (Nat.le_refl _) _)⟩ : PrbAt _ _ _ _ _), hsay, hbs4⟩
    ·skip
     repeat' (first | ((first | refine Lx.qn (fun K hK => ?_) | (first | (refine Lx.qp (v := ?_) ?_ (fun K hK => ?_); rotate_left 1; intro w' hCw; try dsimp only at hCw) | (refine Lx.qr (v := ?_) ?_ (fun K hK => ?_); rotate_left 1)); go_simp; first | done | with_reducible rfl); go_simp; refine hK _ ?_; clear hK K) | (refine Lx.qe (fun K hK => ?_); go_simp; (first | (go_at_call 53; refine (HRE.out _ (hba1.alloc hba1.size _) _ _ (hra.keep ((Below.refl _ _).alloc (Nat.le_refl _) _))).mono ?_; rintro e Wb ⟨⟨pa, pn, pc, ⟨B0', m0, d0, B1', m1, d1, B2', m2, d2⟩⟩, es, rfl, hat, hsay, hbb⟩; have hba2 : Below W1.heap.size W1 (Wa.alloc (.cells #[.slice none 0 0, .slice none 0 0, .slice none 0 0, .slice none 0 0] 29)) := hba1.alloc hba1.size _; have hbb2 : Below W1.heap.size W1 Wb := hba2.trans (hbb.mono hba2.size); have hblk : Blk Wb Wa.heap.size 29 [.slice none 0 0, .slice none 0 0, .slice none 0 0, .slice none 0 0] := (blk_new Wa _ _).keep hbb; have HST4 := Lib.hid (prb_store hat hblk hbb2 hba1.size); have hbs4 := HST4.out.2.2; have f0 := hblk.cell (i := 0) rfl; have f1 := hblk.cell (i := 1) rfl; have f2 := hblk.cell (i := 2) rfl; have f3 := hblk.cell (i := 3) rfl; have f4 := hblk.lt; have f5 : ∀ o, Wb.frozen? ⟨Wa.heap.size, o, none⟩ = false := hblk.frozen; unfold PrbS.val; dsimp only) | (have hba2 : Below W1.heap.size W1 (Wa.alloc (.cells #[.slice none 0 0, .slice none 0 0, .slice none 0 0, .slice none 0 0] 29)) := hba1.alloc hba1.size _) | skip | skip); refine hK _ _ (by first | exact HC1.out _ hbs4 | exact HC1.out _ hbs2 | exact HC1.out _ hbb2 | exact HC1.out _ hba2 | exact HC1.out _ hba1 | exact HC1.out _ HDA.out) ?_; clear hK K))
     all_goals (refine Lx.lexO_done ?_)
     go_wp2_with fail
     go_meet
     obtain ⟨k1, k2, k3⟩ := HST4.out
     exact ⟨_, ⟨pa, pn, pc, ⟨B0', m0, d0, B1', m1, d1, B2', m2, d2⟩⟩, es, rfl, rfl, k1, PrbAt.up k2 (by simp), hsay, k3⟩
   ·skip
    repeat' (first | ((first | refine Lx.qn (fun K hK => ?_) | (first | (refine Lx.qp (v := ?_) ?_ (fun K hK => ?_); rotate_left 1; intro w' hCw; try dsimp only at hCw) | (refine Lx.qr (v := ?_) ?_ (fun K hK => ?_); rotate_left 1)); go_simp; first | done | with_reducible rfl); go_simp; refine hK _ ?_; clear hK K) | (refine Lx.qe (fun K hK => ?_); go_simp; (first | (go_at_call 20; refine (HSA.out _ HDA.out).mono ?_; rintro e Wa ⟨Aa, ca, rfl, hra, hba⟩; have hba1 : Below W1.heap.size W1 Wa := HDA.out.trans (hba.mono HDA.out.size)) | (go_at_call 53; refine (HRE.out _ hba1 _ _ hra).mono ?_; rintro e Wb ⟨⟨pa, pn, pc, ⟨B0', m0, d0, B1', m1, d1, B2', m2, d2⟩⟩, es, rfl, hat, hsay, hbb⟩; have hbb2 : Below W1.heap.size W1 Wb := hba1.trans (hbb.mono hba1.size); have hblk : Blk Wb W1.heap.size 29 [.slice none 0 0, .slice none 0 0, .slice none 0 0, .slice none 0 0] := Blk.keep (Blk.keep (w := (W1.alloc (.cells #[.slice none 0 0, .slice none 0 0, .slice none 0 0, .slice none 0 0] 29)).drew) (blk_new W1 _ _) hba) hbb; have HST4 := Lib.hid (prb_store hat hblk hbb2 (Nat.le_refl _)); have hbs4 := HST4.out.2.2; have f0 := hblk.cell (i := 0) rfl; have f1 := hblk.cell (i := 1) rfl; have f2 := hblk.cell (i := 2) rfl; have f3 := hblk.cell (i := 3) rfl; have f4 := hblk.lt; have f5 : ∀ o, Wb.frozen? ⟨W1.heap.size, o, none⟩ = false := hblk.frozen; unfold PrbS.val; dsimp only) | skip | skip); refine hK _ _ (by first | exact HC1.out _ hbs4 | exact HC1.out _ hbs2 | exact HC1.out _ hbb2 | exact HC1.out _ hba2 | exact HC1.out _ hba1 | exact HC1.out _ HDA.out) ?_; clear hK K))
    all_goals (refine Lx.lexO_done ?_)
    go_wp2_with fail
    go_meet
    obtain ⟨k1, k2, k3⟩ := HST4.out
    exact ⟨_, ⟨pa, pn, pc, ⟨B0', m0, d0, B1', m1, d1, B2', m2, d2⟩⟩, es, rfl, rfl, k1, PrbAt.up k2 (by simp), hsay, k3⟩
  case rest =>
   obtain ⟨p6, s', es, rfl, rfl, hblk, hat, hsay, hbx⟩ := hcut
   obtain ⟨W2, rfl⟩ : ∃ W2 : World, W2 = wc := ⟨_, rfl⟩
   have HP2 := Lib.hid (HP1.out.keep hbx)
   have HL2 := Lib.hid (HL.out W2 HP2.out.below)
   by_cases hmi : mi (stS (ofC l)) (stS (ds.map Dom.st)) = 0
   ·have hrr : rr = (((resD (stS (ofC l)) ds).map Dom.say, resR (stS (ofC l)) r), 0) := by rw [HRK.out, if_pos hmi]
    subst hrr
    dsimp only at hsay hat
    have hbd := res_bd HV.out hsay
    have hFI := rfine_any s' A n c W2 es (resR (stS (ofC l)) r) l (by omega) (by have h1 := hat.1.1.1; omega) HL2.out hat (fun d hd => by have h1 := (hat.1.2 d hd).1; have h2 := hbd.2 d hd; omega)
    rw [fine_fits HVT.out hsay] at hFI
    unfold PrbS.val at hFI
    have HFI := Lib.hid hFI
    have u0 := hblk.cell (i := 0) rfl
    have u1 := hblk.cell (i := 1) rfl
    have u2 := hblk.cell (i := 2) rfl
    have u3 := hblk.cell (i := 3) rfl
    have ul := hblk.lt
    have HMI := Lib.hid hmi
    clear hsay hat hblk hbx hbd hFI hmi HRE HSA HC1 HDR HDA HRK q0 q1 q2 q3 ql
    cases hfit : fitsF ds r l with
    | false =>
     rw [hfit] at HFI
     have HR : Hid (R = (m.P, 10)) := Lib.hid (by rw [HRE0.out]; unfold pkF; rw [if_pos HVT.out, if_pos HMI.out, hfit]; rfl)
     clear hfit HRE0
     go_wp2_with fail
     refine HFI.out.mono ?_
     rintro e W3 ⟨rfl, hb3⟩
     have HP3 := Lib.hid (HP2.out.keep hb3)
     clear hb3 u0 u1 u2 u3 ul HFI
     have q0 := HP3.out.c 0 0 rfl rfl
     have q1 := HP3.out.c 0 1 rfl rfl
     have q2 := HP3.out.c 0 2 rfl rfl
     have q3 := HP3.out.c 0 3 rfl rfl
     have q4 := HP3.out.c 0 4 rfl rfl
     have q5 := HP3.out.c 0 5 rfl rfl
     have y0 := HP3.out.c 1 0 rfl rfl
     have y1 := HP3.out.c 1 1 rfl rfl
     have y2 := HP3.out.c 1 2 rfl rfl
     have y3 := HP3.out.c 1 3 rfl rfl
     have y4 := HP3.out.c 1 4 rfl rfl
     have y5 := HP3.out.c 1 5 rfl rfl
     have ql := HP3.out.lt 0 rfl
     have yf := HP3.out.f 1 rfl
     have yl := HP3.out.lt 1 rfl
     go_wp2_with fail
     have hX := ((((((HP3.out.set 1 0 (.slice m.s.ad m.s.nd m.s.cd) rfl).set 1 1 (.slice m.s.rs.a0 m.s.rs.n0 m.s.rs.c0) rfl).set 1 2 (.slice m.s.rs.a1 m.s.rs.n1 m.s.rs.c1) rfl).set 1 3 (.slice m.s.rs.a2 m.s.rs.n2 m.s.rs.c2) rfl).set 1 4 (.slice m.pa m.pn m.pc) rfl).set 1 5 (.slice m.qa m.qn m.qc) rfl)
     refine bodyPost_ret (v := .tuple #[.agg #[.slice m.s.ad m.s.nd m.s.cd, .slice m.s.rs.a0 m.s.rs.n0 m.s.rs.c0, .slice m.s.rs.a1 m.s.rs.n1 m.s.rs.c1, .slice m.s.rs.a2 m.s.rs.n2 m.s.rs.c2, .slice m.pa m.pn m.pc, .slice m.qa m.qn m.qc], .int .i64 10]) (by simp [results, Tryz.results65, go_sem, hX.c 1 0 rfl rfl, hX.c 1 1 rfl rfl, hX.c 1 2 rfl rfl, hX.c 1 3 rfl rfl, hX.c 1 4 rfl rfl, hX.c 1 5 rfl rfl]) rfl ?_
     rw [HR.out]; exact ms_same HM.out hX.below
    | true =>
     rw [hfit] at HFI
     have HRR : Hid (R = if (m.O.any fun o => amgF (ofC l) (ofC o.chs)) = true then (m.P, 0) else if 1000 ≤ (pkKeep l m.O).length then (m.P, 7) else ((pkKeep l m.O).map Lem.chs ++ [l], 0)) := Lib.hid (by rw [HRE0.out]; exact pk_ref HO.out HVT.out HMI.out hfit)
     clear hfit HRE0
     go_wp2_with fail
     refine HFI.out.mono ?_
     rintro e W3 ⟨rfl, hb3⟩
     have HP3 := Lib.hid (HP2.out.keep hb3)
     clear hb3 u0 u1 u2 u3 ul HFI HL2 HP2 HP1
     go_wp2_with fail
     go_loopw [8, 9] (fun v i wr => ∃ k : Nat, k ≤ m.pn ∧ i = .int .i64 k ∧ ((m.O.take k).any fun o => amgF (ofC l) (ofC o.chs)) = false ∧ Hp w w wr [.blk p2 72 [.slice m.s.ad m.s.nd m.s.cd, .slice m.s.rs.a0 m.s.rs.n0 m.s.rs.c0, .slice m.s.rs.a1 m.s.rs.n1 m.s.rs.c1, .slice m.s.rs.a2 m.s.rs.n2 m.s.rs.c2, .slice m.pa m.pn m.pc, .slice m.qa m.qn m.qc], .blk p4 72 [.slice none 0 0, .slice none 0 0, .slice none 0 0, .slice none 0 0, .slice none 0 0, .slice none 0 0], .row v 41 1 (pkKeep l (m.O.take k)).length ((pkKeep l (m.O.take k)).map Lem.val)] []) (fun _ i _ => m.pn - (intOf i).toNat)
     case atStart => exact ⟨0, Nat.zero_le _, rfl, rfl, HP3.out.nil 41 1⟩
     case round =>
      clear HP3
      obtain ⟨k, hk, rfl, hany, hP⟩ := hrel
      have HP := Lib.hid hP
      have HAN := Lib.hid hany
      obtain ⟨A1, c1, rfl⟩ := hP.form 2 rfl
      have q4 := hP.c 0 4 rfl rfl
      have ql := hP.lt 0 rfl
      clear hany
      by_cases hlt : k < m.pn
      ·have j0 : (k : Int) < (m.pn : Int) := by omega
       obtain ⟨o, ho⟩ : ∃ o, m.O[k]? = some o := ⟨_, List.getElem?_eq_getElem (by rw [HPL.out]; exact hlt)⟩
       have hom := List.mem_of_getElem? ho
       have hmw := (HM.out wr hP.below).at
       obtain ⟨b, off, e2, _, hcl⟩ := hmw.p.2 (by omega)
       rw [e2] at q4
       have y1 : wr.cell? ⟨b, off + k, none⟩ = some (.slice o.adr o.len o.cap) := by have := hcl k o ho 0 (by decide); rwa [Nat.mul_one, Nat.add_zero] at this
       have hbl : b < wr.heap.size := (lt_of_cell y1).1
       have HOA := Lib.hid (hmw.o o hom)
       have HSU : Hid (pkKeep l (m.O.take (k + 1)) = pkKeep l (m.O.take k) ++ if (!amgF (ofC o.chs) (ofC l)) = true then [o] else []) := Lib.hid (by unfold pkKeep; exact filter_take_one ho)
       have hol : (pkKeep l (m.O.take k)).length ≤ 1000 := by
        unfold pkKeep
        have h1 := List.length_filter_le (fun o => !amgF (ofC o.chs) (ofC l)) (m.O.take k)
        rw [List.length_take] at h1; omega
       have HYES : Hid (amgF (ofC l) (ofC o.chs) = true → R = (m.P, 0)) := Lib.hid (fun h => by rw [HRR.out, if_pos (any_yes (f := fun o : Lem => amgF (ofC l) (ofC o.chs)) ho h)])
       have HNO : Hid (amgF (ofC l) (ofC o.chs) = false → ((m.O.take (k + 1)).any fun o => amgF (ofC l) (ofC o.chs)) = false) := Lib.hid (fun h => any_take (f := fun o : Lem => amgF (ofC l) (ofC o.chs)) ho HAN.out h)
       have HKW := Lib.hid (fun (X : World) (hb : Below wr.heap.size wr X) => (⟨by have := (HP.out.keep hb).c 0 4 rfl rfl; rwa [e2] at this, (World.cell?_of_block (a := ⟨b, off + k, none⟩) (hb.block b hbl)).trans y1⟩ : X.cell? ⟨p2, 4, none⟩ = some (.slice (some ⟨b, off, none⟩) m.pn m.pc) ∧ X.cell? ⟨b, off + k, none⟩ = some (.slice o.adr o.len o.cap)))
       have HS1 := Lib.hid (fun (W : World) (hb : Below wr.heap.size wr W) => asts_row A n c W l hn (HL.out W (HP.out.keep hb).below))
       have HS2 := Lib.hid (fun (W : World) (hb : Below wr.heap.size wr W) => asts_row o.adr o.len o.cap W o.chs HOA.out.2 (HOA.out.keep hb).rowS)
       have HOL : Hid (o.len ≤ 9223372036854775807) := Lib.hid (by have := HOA.out.2; omega)
       have HDR := Lib.hid ((Below.refl wr.heap.size wr).drew)
       generalize pkKeep l (m.O.take k) = K at *
       clear ho hom hmw hcl hP HAN HRR HOA e2
       go_wp2_with fail
       refine Lx.region (C := fun X => X.cell? ⟨p2, 4, none⟩ = some (.slice (some ⟨b, off, none⟩) m.pn m.pc) ∧ X.cell? ⟨b, off + k, none⟩ = some (.slice o.adr o.len o.cap)) (hs := [3, 6]) (by kernel_rfl) (by kernel_rfl) (HKW.out _ HDR.out) ?_
       repeat' (first | ((first | refine Lx.ln (fun K hK => ?_) | (first | (refine Lx.lp (v := ?_) ?_ (fun K hK => ?_); rotate_left 1; intro w' hCw; try dsimp only at hCw) | (refine Lx.lr (v := ?_) ?_ (fun K hK => ?_); rotate_left 1)); go_simp; first | done | with_reducible rfl); go_simp; refine hK _ ?_; clear hK K) | (refine Lx.le (fun K hK => ?_); go_simp; (first | (go_at_call_of 20 (Value.slice A n c); refine (HS1.out _ HDR.out).mono ?_; rintro e wA ⟨A5, c5, rfl, hrA, hbA⟩; have HWA := Lib.hid (And.intro hrA (HDR.out.trans (hbA.mono HDR.out.size))); clear hrA hbA) | (go_at_call_of 20 (Value.slice o.adr o.len o.cap); refine (HS2.out wA HWA.out.2).mono ?_; rintro e wB ⟨A6, c6, rfl, hrB, hbB⟩; have HWB := Lib.hid (And.intro hrB (HWA.out.2.trans (hbB.mono HWA.out.2.size))); have HRA := Lib.hid (HWA.out.1.keep hbB); clear hrB hbB) | (go_at_call 19; refine (among_any A5 A6 n c5 o.len c6 wB (ofC l) (ofC o.chs) (by omega) HOL.out HRA.out HWB.out.1).mono ?_; rintro e wC ⟨rfl, hC⟩; subst hC)); refine hK _ _ (by first | exact HKW.out _ HWB.out.2 | exact HKW.out _ HWA.out.2) ?_; clear hK K))
       all_goals (refine Lx.lex_nil ?_)
       have HPB := Lib.hid (HP.out.keep HWB.out.2)
       have HBW := Lib.hid HWB.out.2
       clear HRA HWB HWA q4 y1 HDR
       obtain ⟨q4, y1⟩ := HKW.out _ HBW.out
       cases ha1 : amgF (ofC l) (ofC o.chs) with
       | true =>
        have HR := Lib.hid (HYES.out ha1)
        clear ha1 HYES HNO q4 ql HKW
        have q0 := HPB.out.c 0 0 rfl rfl
        have q1 := HPB.out.c 0 1 rfl rfl
        have q2 := HPB.out.c 0 2 rfl rfl
        have q3 := HPB.out.c 0 3 rfl rfl
        have q4 := HPB.out.c 0 4 rfl rfl
        have q5 := HPB.out.c 0 5 rfl rfl
        have y0 := HPB.out.c 1 0 rfl rfl
        have y1 := HPB.out.c 1 1 rfl rfl
        have y2 := HPB.out.c 1 2 rfl rfl
        have y3 := HPB.out.c 1 3 rfl rfl
        have y4 := HPB.out.c 1 4 rfl rfl
        have y5 := HPB.out.c 1 5 rfl rfl
        have ql := HPB.out.lt 0 rfl
        have yf := HPB.out.f 1 rfl
        have yl := HPB.out.lt 1 rfl
        go_wp2_with fail
        have hX := ((((((HPB.out.set 1 0 (.slice m.s.ad m.s.nd m.s.cd) rfl).set 1 1 (.slice m.s.rs.a0 m.s.rs.n0 m.s.rs.c0) rfl).set 1 2 (.slice m.s.rs.a1 m.s.rs.n1 m.s.rs.c1) rfl).set 1 3 (.slice m.s.rs.a2 m.s.rs.n2 m.s.rs.c2) rfl).set 1 4 (.slice m.pa m.pn m.pc) rfl).set 1 5 (.slice m.qa m.qn m.qc) rfl)
        refine bodyPost_ret (v := .tuple #[.agg #[.slice m.s.ad m.s.nd m.s.cd, .slice m.s.rs.a0 m.s.rs.n0 m.s.rs.c0, .slice m.s.rs.a1 m.s.rs.n1 m.s.rs.c1, .slice m.s.rs.a2 m.s.rs.n2 m.s.rs.c2, .slice m.pa m.pn m.pc, .slice m.qa m.qn m.qc], .int .i64 0]) (by simp [results, Tryz.results65, go_sem, hX.c 1 0 rfl rfl, hX.c 1 1 rfl rfl, hX.c 1 2 rfl rfl, hX.c 1 3 rfl rfl, hX.c 1 4 rfl rfl, hX.c 1 5 rfl rfl]) rfl ?_
        rw [HR.out]; exact ms_same HM.out hX.below
       | false =>
        have HN := Lib.hid (HNO.out ha1)
        clear ha1 HYES HNO
        have hbb : b < wB.heap.size := (lt_of_cell y1).1
        have ql := HPB.out.lt 0 rfl
        go_wp2_with fail
        refine (HS2.out wB HBW.out).mono ?_
        rintro e wC ⟨A7, c7, rfl, hrC, hbC⟩
        have HWC := Lib.hid (And.intro hrC (HBW.out.trans (hbC.mono HBW.out.size)))
        clear hrC hbC
        go_wp2_with fail
        refine (HS1.out wC HWC.out.2).mono ?_
        rintro e wD ⟨A8, c8, rfl, hrD, hbD⟩
        have HWD := Lib.hid (And.intro hrD (HWC.out.2.trans (hbD.mono HWC.out.2.size)))
        have HRC := Lib.hid (HWC.out.1.keep hbD)
        clear hrD hbD
        go_wp2_with fail
        refine (among_any A7 A8 o.len c7 n c8 wD (ofC o.chs) (ofC l) HOL.out (by omega) HRC.out HWD.out.1).mono ?_
        rintro e wE ⟨rfl, hE⟩
        subst hE
        have HPD := Lib.hid (HP.out.keep HWD.out.2)
        have HBD := Lib.hid HWD.out.2
        clear q4 y1 hbb ql
        obtain ⟨q4, y1⟩ := HKW.out _ HBD.out
        have ql := HPD.out.lt 0 rfl
        clear HRC HWD HWC HPB HBW HKW HS1 HS2
        cases ha2 : amgF (ofC o.chs) (ofC l) with
        | true =>
         have HSU2 : Eqn (pkKeep l (m.O.take (k + 1))) K := by rw [Eqn, HSU.out, ha2]; simp
         clear ha2 HSU
         go_wp2_with fail
         go_roundw
         case rel => exact ⟨k + 1, hlt, by go_num, HN.out, by rw [HSU2.out]; exact HPD.out⟩
         case measure => simp [intOf]; omega
        | false =>
         have HSU2 : Eqn (pkKeep l (m.O.take (k + 1))) (K ++ [o]) := by rw [Eqn, HSU.out, ha2]; simp
         clear ha2 HSU
         go_wp2_with (at_builtin; refine wpList_append_own_at _ rfl _ _ 42 rfl w.heap.size 41 i0 (.slice none 0 0) 1 24 Tryz.underlying42 hi hz0 hz1 hz2 rfl (by decide) _ _ _ rfl ((HPD.out.row 2 rfl).alloc _) ⟨wD.heap.size, 0, none⟩ 1 1 [.slice o.adr o.len o.cap] rfl rfl (cells_newR wD [.slice o.adr o.len o.cap] 41) (by simp [Value.oneCell']) (by unfold maxLen; omega) (by omega) (by have := HPD.out.below.size; simp; omega) ?_; intro v6 w6 hown' hgrow _ hat; have HP6 := Lib.hid ((HPD.out.alloc0 _).grow 2 rfl hgrow hown' hat); obtain ⟨A6, cp6, rfl⟩ := HP6.out.form 2 rfl; clear hown' hgrow hat)
         go_roundw
         case rel => exact ⟨k + 1, hlt, by go_num, HN.out, by rw [HSU2.out, List.length_append, List.map_append]; exact HP6.out.sub (List.Sublist.cons_cons _ (List.Sublist.cons_cons _ (List.Sublist.cons_cons _ (List.nil_sublist _))))⟩
         case measure => simp [intOf]; omega
      ·obtain rfl : k = m.pn := by omega
       have j0 : ¬ (m.pn : Int) < (m.pn : Int) := by omega
       have HT : Hid (m.O.take m.pn = m.O) := Lib.hid (List.take_of_length_le (by rw [HPL.out]; exact Nat.le_refl _))
       rw [HT.out] at HAN HP ⊢
       have HKS : Hid (∀ x ∈ pkKeep l m.O, x ∈ m.O) := Lib.hid (fun x hx => (List.mem_filter.1 hx).1)
       have hol : (pkKeep l m.O).length ≤ 1000 := by
        unfold pkKeep
        have h1 := List.length_filter_le (fun o => !amgF (ofC o.chs) (ofC l)) m.O
        have h2 := HPL.out; omega
       have HR2 : Hid (R = if 1000 ≤ (pkKeep l m.O).length then (m.P, 7) else ((pkKeep l m.O).map Lem.chs ++ [l], 0)) := Lib.hid (by rw [HRR.out, HAN.out]; rfl)
       generalize pkKeep l m.O = K at *
       clear hP HAN HRR HT
       by_cases h1000 : K.length = 1000
       ·have d1 : ((K.length : Int) == 1000) = true := by simp [h1000]
        have HR : Hid (R = (m.P, 7)) := Lib.hid (by rw [HR2.out, if_pos (by omega)])
        clear h1000 HR2 q4 ql
        have q0 := HP.out.c 0 0 rfl rfl
        have q1 := HP.out.c 0 1 rfl rfl
        have q2 := HP.out.c 0 2 rfl rfl
        have q3 := HP.out.c 0 3 rfl rfl
        have q4 := HP.out.c 0 4 rfl rfl
        have q5 := HP.out.c 0 5 rfl rfl
        have y0 := HP.out.c 1 0 rfl rfl
        have y1 := HP.out.c 1 1 rfl rfl
        have y2 := HP.out.c 1 2 rfl rfl
        have y3 := HP.out.c 1 3 rfl rfl
        have y4 := HP.out.c 1 4 rfl rfl
        have y5 := HP.out.c 1 5 rfl rfl
        have ql := HP.out.lt 0 rfl
        have yf := HP.out.f 1 rfl
        have yl := HP.out.lt 1 rfl
        go_wp2_with fail
        have hX := ((((((HP.out.set 1 0 (.slice m.s.ad m.s.nd m.s.cd) rfl).set 1 1 (.slice m.s.rs.a0 m.s.rs.n0 m.s.rs.c0) rfl).set 1 2 (.slice m.s.rs.a1 m.s.rs.n1 m.s.rs.c1) rfl).set 1 3 (.slice m.s.rs.a2 m.s.rs.n2 m.s.rs.c2) rfl).set 1 4 (.slice m.pa m.pn m.pc) rfl).set 1 5 (.slice m.qa m.qn m.qc) rfl)
        refine bodyPost_ret (v := .tuple #[.agg #[.slice m.s.ad m.s.nd m.s.cd, .slice m.s.rs.a0 m.s.rs.n0 m.s.rs.c0, .slice m.s.rs.a1 m.s.rs.n1 m.s.rs.c1, .slice m.s.rs.a2 m.s.rs.n2 m.s.rs.c2, .slice m.pa m.pn m.pc, .slice m.qa m.qn m.qc], .int .i64 7]) (by simp [results, Tryz.results65, go_sem, hX.c 1 0 rfl rfl, hX.c 1 1 rfl rfl, hX.c 1 2 rfl rfl, hX.c 1 3 rfl rfl, hX.c 1 4 rfl rfl, hX.c 1 5 rfl rfl]) rfl ?_
        rw [HR.out]; exact ms_same HM.out hX.below
       ·have d1 : ((K.length : Int) == 1000) = false := by simp; omega
        have HR : Hid (R = (K.map Lem.chs ++ [l], 0)) := Lib.hid (by rw [HR2.out, if_neg (by omega)])
        clear h1000 HR2 q4 ql
        have q4 := HP.out.c 0 4 rfl rfl
        go_upto_region 19 with (at_builtin; refine wpList_append_own_at _ rfl _ _ 42 rfl w.heap.size 41 i0 (.slice none 0 0) 1 24 Tryz.underlying42 hi hz0 hz1 hz2 rfl (by decide) _ _ _ rfl ((HP.out.row 2 rfl).alloc _) ⟨wr.heap.size, 0, none⟩ 1 1 [.slice A n c] rfl rfl (cells_newR wr [.slice A n c] 41) (by simp [Value.oneCell']) (by unfold maxLen; omega) (by omega) (by have := HP.out.below.size; simp; omega) ?_; intro v6 w6 hown' hgrow _ hat; have HP6 := Lib.hid ((HP.out.alloc0 _).grow 2 rfl hgrow hown' hat); obtain ⟨A6, cp6, rfl⟩ := HP6.out.form 2 rfl; clear hown' hgrow hat; (have g4 := HP6.out.c 0 4 rfl rfl); (have gf := HP6.out.f 0 rfl); (have gl := HP6.out.lt 0 rfl))
        have hP7 := HP6.out.set 0 4 (.slice A6 (K.length + 1) cp6) rfl
        obtain ⟨W7, hW7⟩ : ∃ W, W = w6.setCell ⟨p2, 4, none⟩ (.slice A6 (K.length + 1) cp6) := ⟨_, rfl⟩
        rw [← hW7] at hP7 ⊢
        have HP7 := Lib.hid hP7
        clear hW7 hP7 g4 gf gl q4
        have q0 := HP7.out.c 0 0 rfl rfl
        have q1 := HP7.out.c 0 1 rfl rfl
        have q2 := HP7.out.c 0 2 rfl rfl
        have q3 := HP7.out.c 0 3 rfl rfl
        have q4 := HP7.out.c 0 4 rfl rfl
        have q5 := HP7.out.c 0 5 rfl rfl
        have y0 := HP7.out.c 1 0 rfl rfl
        have y1 := HP7.out.c 1 1 rfl rfl
        have y2 := HP7.out.c 1 2 rfl rfl
        have y3 := HP7.out.c 1 3 rfl rfl
        have y4 := HP7.out.c 1 4 rfl rfl
        have y5 := HP7.out.c 1 5 rfl rfl
        have ql := HP7.out.lt 0 rfl
        have yf := HP7.out.f 1 rfl
        have yl := HP7.out.lt 1 rfl
        go_wp2_with fail
        have hX := ((((((HP7.out.set 1 0 (.slice m.s.ad m.s.nd m.s.cd) rfl).set 1 1 (.slice m.s.rs.a0 m.s.rs.n0 m.s.rs.c0) rfl).set 1 2 (.slice m.s.rs.a1 m.s.rs.n1 m.s.rs.c1) rfl).set 1 3 (.slice m.s.rs.a2 m.s.rs.n2 m.s.rs.c2) rfl).set 1 4 (.slice A6 (K.length + 1) cp6) rfl).set 1 5 (.slice m.qa m.qn m.qc) rfl)
        refine bodyPost_ret (v := .tuple #[.agg #[.slice m.s.ad m.s.nd m.s.cd, .slice m.s.rs.a0 m.s.rs.n0 m.s.rs.c0, .slice m.s.rs.a1 m.s.rs.n1 m.s.rs.c1, .slice m.s.rs.a2 m.s.rs.n2 m.s.rs.c2, .slice A6 (K.length + 1) cp6, .slice m.qa m.qn m.qc], .int .i64 0]) (by simp [results, Tryz.results65, go_sem, hX.c 1 0 rfl rfl, hX.c 1 1 rfl rfl, hX.c 1 2 rfl rfl, hX.c 1 3 rfl rfl, hX.c 1 4 rfl rfl, hX.c 1 5 rfl rfl]) rfl ?_
        rw [HR.out]; exact ms_packed HM.out hX.below HLX.out.2 (by rw [List.map_append]; exact hX.row 2 rfl) HKS.out HLX.out.1 hn
   ·have hrr : rr = (([], ⟨[], [], []⟩), 9) := by rw [HRK.out, if_neg hmi]
    subst hrr
    have HR : Hid (R = (m.P, 9)) := Lib.hid (by rw [HRE0.out]; unfold pkF; rw [if_pos HVT.out, if_neg hmi])
    clear hsay hat hblk hbx hmi HRE HSA HC1 HDR HDA HRK HRE0 q0 q1 q2 q3 ql
    have q0 := HP2.out.c 0 0 rfl rfl
    have q1 := HP2.out.c 0 1 rfl rfl
    have q2 := HP2.out.c 0 2 rfl rfl
    have q3 := HP2.out.c 0 3 rfl rfl
    have q4 := HP2.out.c 0 4 rfl rfl
    have q5 := HP2.out.c 0 5 rfl rfl
    have y0 := HP2.out.c 1 0 rfl rfl
    have y1 := HP2.out.c 1 1 rfl rfl
    have y2 := HP2.out.c 1 2 rfl rfl
    have y3 := HP2.out.c 1 3 rfl rfl
    have y4 := HP2.out.c 1 4 rfl rfl
    have y5 := HP2.out.c 1 5 rfl rfl
    have ql := HP2.out.lt 0 rfl
    have yf := HP2.out.f 1 rfl
    have yl := HP2.out.lt 1 rfl
    go_wp2_with fail
    have hX := ((((((HP2.out.set 1 0 (.slice m.s.ad m.s.nd m.s.cd) rfl).set 1 1 (.slice m.s.rs.a0 m.s.rs.n0 m.s.rs.c0) rfl).set 1 2 (.slice m.s.rs.a1 m.s.rs.n1 m.s.rs.c1) rfl).set 1 3 (.slice m.s.rs.a2 m.s.rs.n2 m.s.rs.c2) rfl).set 1 4 (.slice m.pa m.pn m.pc) rfl).set 1 5 (.slice m.qa m.qn m.qc) rfl)
    refine bodyPost_ret (v := .tuple #[.agg #[.slice m.s.ad m.s.nd m.s.cd, .slice m.s.rs.a0 m.s.rs.n0 m.s.rs.c0, .slice m.s.rs.a1 m.s.rs.n1 m.s.rs.c1, .slice m.s.rs.a2 m.s.rs.n2 m.s.rs.c2, .slice m.pa m.pn m.pc, .slice m.qa m.qn m.qc], .int .i64 9]) (by simp [results, Tryz.results65, go_sem, hX.c 1 0 rfl rfl, hX.c 1 1 rfl rfl, hX.c 1 2 rfl rfl, hX.c 1 3 rfl rfl, hX.c 1 4 rfl rfl, hX.c 1 5 rfl rfl]) rfl ?_
    rw [HR.out]; exact ms_same HM.out hX.below
end Go.Proofs.YtdpbbhbegehcjaaGreatDoor

namespace Go.Proofs.YtdpbbhbegehcjaaGreatDoor
open Go.RowKit Go.Shelf
theorem rrefute_any (B : Nat) (p : Nat → Prop) (m : MsS) (y : Prf) (w : World) (ds : List Dom) (r : Rul) (hm : MsX w B p m ds r) (hnew : ∀ k, w.heap.size ≤ k → p k) (hv : validP ds r = true) (hQ : ∀ o ∈ m.R, stOk o.sts = true) (hql : m.R.length ≤ 1000) (hy : y.At w p) :
  Calls Tryz.prog 66 #[m.val, y.val] w (RpkPost B p m ds r m.P (rfF ds m.Q y.say).1 (rfF ds m.Q y.say).2 w) := by
 obtain ⟨i0, hi, hz0, hz1, hz2⟩ := info_parts pr_info
 obtain ⟨p2, hp2⟩ : ∃ q, q = w.heap.size := ⟨_, rfl⟩
 obtain ⟨p3, hp3⟩ : ∃ q, q = w.heap.size + 1 := ⟨_, rfl⟩
 obtain ⟨p4, hp4⟩ : ∃ q, q = w.heap.size + 1 + 1 := ⟨_, rfl⟩
 obtain ⟨V0, hV0⟩ : ∃ V, V = ((w.alloc (.cells #[.slice m.s.ad m.s.nd m.s.cd, .slice m.s.rs.a0 m.s.rs.n0 m.s.rs.c0, .slice m.s.rs.a1 m.s.rs.n1 m.s.rs.c1, .slice m.s.rs.a2 m.s.rs.n2 m.s.rs.c2, .slice m.pa m.pn m.pc, .slice m.qa m.qn m.qc] 72)).alloc (.cells #[.slice y.sa y.sn y.sc, .slice y.la y.ln y.lc] 44)).alloc (.cells #[.slice none 0 0, .slice none 0 0, .slice none 0 0, .slice none 0 0, .slice none 0 0, .slice none 0 0] 72) := ⟨_, rfl⟩
 have hP0 : Hp w w V0 [.blk p2 72 [.slice m.s.ad m.s.nd m.s.cd, .slice m.s.rs.a0 m.s.rs.n0 m.s.rs.c0, .slice m.s.rs.a1 m.s.rs.n1 m.s.rs.c1, .slice m.s.rs.a2 m.s.rs.n2 m.s.rs.c2, .slice m.pa m.pn m.pc, .slice m.qa m.qn m.qc], .blk p3 44 [.slice y.sa y.sn y.sc, .slice y.la y.ln y.lc], .blk p4 72 [.slice none 0 0, .slice none 0 0, .slice none 0 0, .slice none 0 0, .slice none 0 0, .slice none 0 0]] [] := by
  have h := (((Hp.start w).alloc [.slice m.s.ad m.s.nd m.s.cd, .slice m.s.rs.a0 m.s.rs.n0 m.s.rs.c0, .slice m.s.rs.a1 m.s.rs.n1 m.s.rs.c1, .slice m.s.rs.a2 m.s.rs.n2 m.s.rs.c2, .slice m.pa m.pn m.pc, .slice m.qa m.qn m.qc] 72).alloc [.slice y.sa y.sn y.sc, .slice y.la y.ln y.lc] 44).alloc [.slice none 0 0, .slice none 0 0, .slice none 0 0, .slice none 0 0, .slice none 0 0, .slice none 0 0] 72
  simp only [World.size_alloc] at h
  rw [hV0, hp2, hp3, hp4]; exact h
 have hyT : y.At w (fun _ => True) := hy.mono (fun _ _ _ => trivial)
 have HM := Lib.hid (fun (W : World) (hb : Below w.heap.size w W) => hm.keep hb)
 have HYX := Lib.hid (And.intro hy hnew)
 have HYT := Lib.hid (fun (W : World) (hb : Below w.heap.size w W) => hyT.keep hb)
 have HP0 := Lib.hid hP0
 have HV := Lib.hid hv
 have HO := Lib.hid hQ
 have hqn : m.qn ≤ 1000 := by have := hm.q.1; omega
 have HPL := Eqn.mk hm.q.1
 have hysn : y.sn ≤ 100000 := hy.2.2.2.1
 have HVS := Lib.hid (rvst_any y.sa y.sn y.sc V0 y.sts (by omega) (hyT.keep hP0.below).ints)
 obtain ⟨R, hR⟩ : ∃ R, R = rfF ds m.Q y.say := ⟨_, rfl⟩
 rw [← hR]
 have HRE0 := Eqn.mk hR
 have HSAY : Hid (y.say.1 = y.sts) := Lib.hid rfl
 unfold MsS.val Prf.val Prf.v1 Prf.v2
 clear hP0 hm hv hQ hy hyT hR hql hnew
 go_enter Tryz.func66, Tryz.ntmps66
 go_upto_region 1 with fail
 rw [← hV0, ← hp4, ← hp3, ← hp2]
 clear hV0 hp2 hp3 hp4
 have k0 := HP0.out.c 1 0 rfl rfl
 have kl := HP0.out.lt 1 rfl
 cases hvl : stOk y.sts with
 | false =>
  rw [hvl] at HVS
  have HR : Hid (R = (m.Q, 2)) := Lib.hid (by rw [HRE0.out]; unfold rfF; rw [HSAY.out, hvl]; rfl)
  clear hvl HRE0
  go_wp2_with fail
  refine HVS.out.mono ?_
  rintro e W1 ⟨rfl, hb1⟩
  have HP1 := Lib.hid (HP0.out.keep hb1)
  clear hb1 k0 kl
  have q0 := HP1.out.c 0 0 rfl rfl
  have q1 := HP1.out.c 0 1 rfl rfl
  have q2 := HP1.out.c 0 2 rfl rfl
  have q3 := HP1.out.c 0 3 rfl rfl
  have q4 := HP1.out.c 0 4 rfl rfl
  have q5 := HP1.out.c 0 5 rfl rfl
  have y0 := HP1.out.c 2 0 rfl rfl
  have y1 := HP1.out.c 2 1 rfl rfl
  have y2 := HP1.out.c 2 2 rfl rfl
  have y3 := HP1.out.c 2 3 rfl rfl
  have y4 := HP1.out.c 2 4 rfl rfl
  have y5 := HP1.out.c 2 5 rfl rfl
  have ql := HP1.out.lt 0 rfl
  have yf := HP1.out.f 2 rfl
  have yl := HP1.out.lt 2 rfl
  go_wp2_with fail
  have hX := ((((((HP1.out.set 2 0 (.slice m.s.ad m.s.nd m.s.cd) rfl).set 2 1 (.slice m.s.rs.a0 m.s.rs.n0 m.s.rs.c0) rfl).set 2 2 (.slice m.s.rs.a1 m.s.rs.n1 m.s.rs.c1) rfl).set 2 3 (.slice m.s.rs.a2 m.s.rs.n2 m.s.rs.c2) rfl).set 2 4 (.slice m.pa m.pn m.pc) rfl).set 2 5 (.slice m.qa m.qn m.qc) rfl)
  refine bodyPost_ret (v := .tuple #[.agg #[.slice m.s.ad m.s.nd m.s.cd, .slice m.s.rs.a0 m.s.rs.n0 m.s.rs.c0, .slice m.s.rs.a1 m.s.rs.n1 m.s.rs.c1, .slice m.s.rs.a2 m.s.rs.n2 m.s.rs.c2, .slice m.pa m.pn m.pc, .slice m.qa m.qn m.qc], .int .i64 2]) (by simp [results, Tryz.results66, go_sem, hX.c 2 0 rfl rfl, hX.c 2 1 rfl rfl, hX.c 2 2 rfl rfl, hX.c 2 3 rfl rfl, hX.c 2 4 rfl rfl, hX.c 2 5 rfl rfl]) rfl ?_
  rw [HR.out]; exact ms_same HM.out hX.below
 | true =>
  rw [hvl] at HVS
  have HVT := Lib.hid hvl
  clear hvl
  go_wp2_with fail
  refine HVS.out.mono ?_
  rintro e W1 ⟨rfl, hb1⟩
  have HP1 := Lib.hid (HP0.out.keep hb1)
  clear hb1 HP0 HVS k0 kl
  have HDR := Lib.hid ((Below.refl W1.heap.size W1).drew)
  have hst := rsts_row m.s W1.drew ds (by have h1 := (valid_st HV.out).2.1; have h2 := (HM.out W1 HP1.out.below).prb.1.1.1; omega) (HM.out W1.drew (HP1.out.keep HDR.out).below).at.prb.1.1
  unfold PrbS.val at hst
  have HSA := Lib.hid hst
  have HIN : Hid (amgF y.sts (ds.map Dom.st) = decide (mi (stS y.sts) (stS (ds.map Dom.st)) = 0)) := Lib.hid (stOk_amg HVT.out (valid_st HV.out).1)
  have HDL : Hid (ds.length ≤ 512) := Lib.hid (valid_st HV.out).2.1
  have HC1 := Lib.hid (fun (X : World) (hb : Below W1.heap.size W1 X) => ((HP1.out.keep hb).c 1 0 rfl rfl : X.cell? ⟨p3, 0, none⟩ = some (.slice y.sa y.sn y.sc)))
  have k0 := HC1.out _ (Below.refl _ _)
  have kl := HP1.out.lt 1 rfl
  have q0 := HP1.out.c 0 0 rfl rfl
  have q1 := HP1.out.c 0 1 rfl rfl
  have q2 := HP1.out.c 0 2 rfl rfl
  have q3 := HP1.out.c 0 3 rfl rfl
  have ql := HP1.out.lt 0 rfl
  clear hst
  go_wp2_with fail
  refine Lx.region (C := fun X => X.cell? ⟨p3, 0, none⟩ = some (.slice y.sa y.sn y.sc)) (hs := [1]) (by kernel_rfl) (by kernel_rfl) (HC1.out _ HDR.out) ?_
  repeat' (first | ((first | refine Lx.ln (fun K hK => ?_) | (first | (refine Lx.lp (v := ?_) ?_ (fun K hK => ?_); rotate_left 1; intro w' hCw; try dsimp only at hCw) | (refine Lx.lr (v := ?_) ?_ (fun K hK => ?_); rotate_left 1)); go_simp; first | done | with_reducible rfl); go_simp; refine hK _ ?_; clear hK K) | (refine Lx.le (fun K hK => ?_); go_simp; (first | (go_at_call 97; refine HSA.out.mono ?_; rintro e wA ⟨A5, c5, rfl, hrA, hbA⟩; have HWA := Lib.hid (And.intro hrA (HDR.out.trans (hbA.mono HDR.out.size))); clear hrA hbA) | (go_at_call 19; refine (among_any y.sa A5 y.sn y.sc ds.length c5 wA y.sts (ds.map Dom.st) (by omega) (by have := HDL.out; omega) (HYT.out wA (HP1.out.keep HWA.out.2).below).ints HWA.out.1).mono ?_; rintro e wC ⟨rfl, hC⟩; subst hC)); refine hK _ _ (by exact HC1.out _ HWA.out.2) ?_; clear hK K))
  all_goals (refine Lx.lex_nil ?_)
  have HP2 := Lib.hid (HP1.out.keep HWA.out.2)
  rw [HIN.out]
  clear HWA HSA HC1 HDR k0 kl q0 q1 q2 q3 ql
  by_cases hmi : mi (stS y.sts) (stS (ds.map Dom.st)) = 0
  ·rw [decide_eq_true hmi, Bool.not_true]
   have HRR : Hid (R = if (m.R.any fun o => amgF o.sts y.sts) = true then (m.Q, 0) else if 1000 ≤ (rfKeep y m.R).length then (m.Q, 7) else ((rfKeep y m.R).map Prf.say ++ [y.say], 0)) := Lib.hid (by rw [HRE0.out]; exact rf_ref HO.out HVT.out hmi)
   clear hmi HRE0
   go_wp2_with fail
   go_loopw [6, 7] (fun v i wr => ∃ k : Nat, k ≤ m.qn ∧ i = .int .i64 k ∧ ((m.R.take k).any fun o => amgF o.sts y.sts) = false ∧ Hp w w wr [.blk p2 72 [.slice m.s.ad m.s.nd m.s.cd, .slice m.s.rs.a0 m.s.rs.n0 m.s.rs.c0, .slice m.s.rs.a1 m.s.rs.n1 m.s.rs.c1, .slice m.s.rs.a2 m.s.rs.n2 m.s.rs.c2, .slice m.pa m.pn m.pc, .slice m.qa m.qn m.qc], .blk p3 44 [.slice y.sa y.sn y.sc, .slice y.la y.ln y.lc], .blk p4 72 [.slice none 0 0, .slice none 0 0, .slice none 0 0, .slice none 0 0, .slice none 0 0, .slice none 0 0], .row v 44 2 (rfKeep y (m.R.take k)).length (flat 2 prfC (rfKeep y (m.R.take k)))] []) (fun _ i _ => m.qn - (intOf i).toNat)
   case atStart => exact ⟨0, Nat.zero_le _, rfl, rfl, HP2.out.nil 44 2⟩
   case round =>
    clear HP2 HP1
    obtain ⟨k, hk, rfl, hany, hP⟩ := hrel
    have HP := Lib.hid hP
    have HAN := Lib.hid hany
    obtain ⟨A1, c1, rfl⟩ := hP.form 3 rfl
    have q5 := hP.c 0 5 rfl rfl
    have ql := hP.lt 0 rfl
    clear hany
    by_cases hlt : k < m.qn
    ·have j0 : (k : Int) < (m.qn : Int) := by omega
     obtain ⟨o, ho⟩ : ∃ o, m.R[k]? = some o := ⟨_, List.getElem?_eq_getElem (by rw [HPL.out]; exact hlt)⟩
     have hom := List.mem_of_getElem? ho
     have hmw := (HM.out wr hP.below).at
     obtain ⟨b, off, e2, _, hcl⟩ := hmw.q.2 (by omega)
     rw [e2] at q5
     have z1 : wr.cell? ⟨b, off + k * 2, none⟩ = some (.slice o.sa o.sn o.sc) := hcl k o ho 0 (by decide)
     have z2 : wr.cell? ⟨b, off + k * 2 + 1, none⟩ = some (.slice o.la o.ln o.lc) := hcl k o ho 1 (by decide)
     have hbl : b < wr.heap.size := (lt_of_cell z1).1
     have k0 := hP.c 1 0 rfl rfl
     have kl := hP.lt 1 rfl
     have HOA := Lib.hid (hmw.r o hom)
     have HSU : Hid (rfKeep y (m.R.take (k + 1)) = rfKeep y (m.R.take k) ++ if (!amgF y.sts o.sts) = true then [o] else []) := Lib.hid (by unfold rfKeep; exact filter_take_one ho)
     have hol : (rfKeep y (m.R.take k)).length ≤ 1000 := by
      unfold rfKeep
      have h1 := List.length_filter_le (fun o => !amgF y.sts o.sts) (m.R.take k)
      rw [List.length_take] at h1; omega
     have HYES : Hid (amgF o.sts y.sts = true → R = (m.Q, 0)) := Lib.hid (fun h => by rw [HRR.out, if_pos (any_yes (f := fun o : Prf => amgF o.sts y.sts) ho h)])
     have HNO : Hid (amgF o.sts y.sts = false → ((m.R.take (k + 1)).any fun o => amgF o.sts y.sts) = false) := Lib.hid (fun h => any_take (f := fun o : Prf => amgF o.sts y.sts) ho HAN.out h)
     have HDR := Lib.hid ((Below.refl wr.heap.size wr).drew)
     have HA1 := Lib.hid (among_any o.sa y.sa o.sn o.sc y.sn y.sc wr.drew o.sts y.sts (by have := HOA.out.2.2.2.1; omega) (by omega) (HOA.out.keep HDR.out).ints (HYT.out wr.drew (hP.keep HDR.out).below).ints)
     have HA2 := Lib.hid (fun (W : World) (hb : Below wr.heap.size wr W) => among_any y.sa o.sa y.sn y.sc o.sn o.sc W y.sts o.sts (by omega) (by have := HOA.out.2.2.2.1; omega) (HYT.out W (HP.out.keep hb).below).ints (HOA.out.keep hb).ints)
     have HPD := Lib.hid (hP.keep HDR.out)
     have HKW := Lib.hid (fun (X : World) (hb : Below wr.heap.size wr X) => (⟨by have := (HP.out.keep hb).c 0 5 rfl rfl; rwa [e2] at this, (World.cell?_of_block (a := ⟨b, off + k * 2, none⟩) (hb.block b hbl)).trans z1, (World.cell?_of_block (a := ⟨b, off + k * 2 + 1, none⟩) (hb.block b hbl)).trans z2, (HP.out.keep hb).c 1 0 rfl rfl, (HP.out.keep hb).lt 0 rfl, (HP.out.keep hb).lt 1 rfl⟩ : X.cell? ⟨p2, 5, none⟩ = some (.slice (some ⟨b, off, none⟩) m.qn m.qc) ∧ X.cell? ⟨b, off + k * 2, none⟩ = some (.slice o.sa o.sn o.sc) ∧ X.cell? ⟨b, off + k * 2 + 1, none⟩ = some (.slice o.la o.ln o.lc) ∧ X.cell? ⟨p3, 0, none⟩ = some (.slice y.sa y.sn y.sc) ∧ p2 < X.heap.size ∧ p3 < X.heap.size))
     generalize rfKeep y (m.R.take k) = K at *
     clear ho hom hmw hcl hP HAN HRR HOA e2
     go_wp2_with fail
     refine Lx.region (C := fun _ => True) (hs := []) (by kernel_rfl) (by kernel_rfl) trivial ?_
     repeat' (first | ((first | refine Lx.ln (fun K hK => ?_) | (first | (refine Lx.lp (v := ?_) ?_ (fun K hK => ?_); rotate_left 1; intro w' hCw; try dsimp only at hCw) | (refine Lx.lr (v := ?_) ?_ (fun K hK => ?_); rotate_left 1)); go_simp; first | done | with_reducible rfl); go_simp; refine hK _ ?_; clear hK K) | (refine Lx.le (fun K hK => ?_); go_simp; (first | (go_at_call 19; refine HA1.out.mono ?_; rintro e wC ⟨rfl, hC⟩; have HPC := HPD; have HBC := HDR; rw [hC] at HPC HBC; clear hC)); refine hK _ _ (trivial) ?_; clear hK K))
     all_goals (refine Lx.lex_nil ?_)
     clear q5 ql z1 z2 k0 kl
     cases ha1 : amgF o.sts y.sts with
     | true =>
      have HR := Lib.hid (HYES.out ha1)
      clear ha1 HYES HNO HKW
      have q0 := HPC.out.c 0 0 rfl rfl
      have q1 := HPC.out.c 0 1 rfl rfl
      have q2 := HPC.out.c 0 2 rfl rfl
      have q3 := HPC.out.c 0 3 rfl rfl
      have q4 := HPC.out.c 0 4 rfl rfl
      have q5 := HPC.out.c 0 5 rfl rfl
      have y0 := HPC.out.c 2 0 rfl rfl
      have y1 := HPC.out.c 2 1 rfl rfl
      have y2 := HPC.out.c 2 2 rfl rfl
      have y3 := HPC.out.c 2 3 rfl rfl
      have y4 := HPC.out.c 2 4 rfl rfl
      have y5 := HPC.out.c 2 5 rfl rfl
      have ql := HPC.out.lt 0 rfl
      have yf := HPC.out.f 2 rfl
      have yl := HPC.out.lt 2 rfl
      go_wp2_with fail
      have hX := ((((((HPC.out.set 2 0 (.slice m.s.ad m.s.nd m.s.cd) rfl).set 2 1 (.slice m.s.rs.a0 m.s.rs.n0 m.s.rs.c0) rfl).set 2 2 (.slice m.s.rs.a1 m.s.rs.n1 m.s.rs.c1) rfl).set 2 3 (.slice m.s.rs.a2 m.s.rs.n2 m.s.rs.c2) rfl).set 2 4 (.slice m.pa m.pn m.pc) rfl).set 2 5 (.slice m.qa m.qn m.qc) rfl)
      refine bodyPost_ret (v := .tuple #[.agg #[.slice m.s.ad m.s.nd m.s.cd, .slice m.s.rs.a0 m.s.rs.n0 m.s.rs.c0, .slice m.s.rs.a1 m.s.rs.n1 m.s.rs.c1, .slice m.s.rs.a2 m.s.rs.n2 m.s.rs.c2, .slice m.pa m.pn m.pc, .slice m.qa m.qn m.qc], .int .i64 0]) (by simp [results, Tryz.results66, go_sem, hX.c 2 0 rfl rfl, hX.c 2 1 rfl rfl, hX.c 2 2 rfl rfl, hX.c 2 3 rfl rfl, hX.c 2 4 rfl rfl, hX.c 2 5 rfl rfl]) rfl ?_
      rw [HR.out]; exact ms_same HM.out hX.below
     | false =>
      have HN := Lib.hid (HNO.out ha1)
      clear ha1 HYES HNO
      obtain ⟨q5, z1, z2, k0, ql, kl⟩ := HKW.out _ HBC.out
      have hbl2 : b < wC.heap.size := (lt_of_cell z1).1
      have HPD2 := Lib.hid HPC.out.drew
      have HBD2 := Lib.hid HBC.out.drew
      have HA3 := Lib.hid (HA2.out _ HBD2.out)
      go_wp2_with fail
      refine Lx.region (C := fun _ => True) (hs := []) (by kernel_rfl) (by kernel_rfl) trivial ?_
      repeat' (first | ((first | refine Lx.ln (fun K hK => ?_) | (first | (refine Lx.lp (v := ?_) ?_ (fun K hK => ?_); rotate_left 1; intro w' hCw; try dsimp only at hCw) | (refine Lx.lr (v := ?_) ?_ (fun K hK => ?_); rotate_left 1)); go_simp; first | done | with_reducible rfl); go_simp; refine hK _ ?_; clear hK K) | (refine Lx.le (fun K hK => ?_); go_simp; (first | (go_at_call 19; refine HA3.out.mono ?_; rintro e wE ⟨rfl, hE⟩; have HPE := HPD2; have HBE := HBD2; rw [hE] at HPE HBE; clear hE)); refine hK _ _ (trivial) ?_; clear hK K))
      all_goals (refine Lx.lex_nil ?_)
      clear q5 ql z1 z2 k0 kl hbl2
      obtain ⟨q5, z1, z2, _, ql, _⟩ := HKW.out _ HBE.out
      have hbl3 : b < wE.heap.size := (lt_of_cell z1).1
      cases ha2 : amgF y.sts o.sts with
      | true =>
       have HSU2 : Eqn (rfKeep y (m.R.take (k + 1))) K := by rw [Eqn, HSU.out, ha2]; simp
       clear ha2 HSU
       go_wp2_with fail
       go_roundw
       case rel => exact ⟨k + 1, hlt, by go_num, HN.out, by rw [HSU2.out]; exact HPE.out⟩
       case measure => simp [intOf]; omega
      | false =>
       have HSU2 : Eqn (rfKeep y (m.R.take (k + 1))) (K ++ [o]) := by rw [Eqn, HSU.out, ha2]; simp
       clear ha2 HSU
       go_wp2_with (at_builtin; refine wpList_append_own_at _ rfl _ _ 57 rfl w.heap.size 44 i0 (.agg #[.slice none 0 0, .slice none 0 0]) 2 48 Tryz.underlying57 hi hz0 hz1 hz2 rfl (by decide) _ _ _ rfl ((HPE.out.row 3 rfl).alloc _) ⟨wE.heap.size, 0, none⟩ 1 1 [.slice o.sa o.sn o.sc, .slice o.la o.ln o.lc] rfl rfl (cells_newR wE [.slice o.sa o.sn o.sc, .slice o.la o.ln o.lc] 44) (by simp [Value.oneCell']) (by unfold maxLen; omega) (by omega) (by have := HPE.out.below.size; simp; omega) ?_; intro v6 w6 hown' hgrow _ hat; have HP6 := Lib.hid ((HPE.out.alloc0 _).grow 3 rfl hgrow hown' hat); obtain ⟨A6, cp6, rfl⟩ := HP6.out.form 3 rfl; clear hown' hgrow hat)
       go_roundw
       case rel => exact ⟨k + 1, hlt, by go_num, HN.out, by rw [HSU2.out, List.length_append, flat_snoc]; exact HP6.out.sub (List.Sublist.cons_cons _ (List.Sublist.cons_cons _ (List.Sublist.cons_cons _ (List.Sublist.cons_cons _ (List.nil_sublist _)))))⟩
       case measure => simp [intOf]; omega
    ·obtain rfl : k = m.qn := by omega
     have j0 : ¬ (m.qn : Int) < (m.qn : Int) := by omega
     have HT : Hid (m.R.take m.qn = m.R) := Lib.hid (List.take_of_length_le (by rw [HPL.out]; exact Nat.le_refl _))
     rw [HT.out] at HAN HP ⊢
     have HKS : Hid (∀ x ∈ rfKeep y m.R, x ∈ m.R) := Lib.hid (fun x hx => (List.mem_filter.1 hx).1)
     have hol : (rfKeep y m.R).length ≤ 1000 := by
      unfold rfKeep
      have h1 := List.length_filter_le (fun o => !amgF y.sts o.sts) m.R
      have h2 := HPL.out; omega
     have HR2 : Hid (R = if 1000 ≤ (rfKeep y m.R).length then (m.Q, 7) else ((rfKeep y m.R).map Prf.say ++ [y.say], 0)) := Lib.hid (by rw [HRR.out, HAN.out]; rfl)
     generalize rfKeep y m.R = K at *
     clear hP HAN HRR HT
     by_cases h1000 : K.length = 1000
     ·have d1 : ((K.length : Int) == 1000) = true := by simp [h1000]
      have HR : Hid (R = (m.Q, 7)) := Lib.hid (by rw [HR2.out, if_pos (by omega)])
      clear h1000 HR2 q5 ql
      have q0 := HP.out.c 0 0 rfl rfl
      have q1 := HP.out.c 0 1 rfl rfl
      have q2 := HP.out.c 0 2 rfl rfl
      have q3 := HP.out.c 0 3 rfl rfl
      have q4 := HP.out.c 0 4 rfl rfl
      have q5 := HP.out.c 0 5 rfl rfl
      have y0 := HP.out.c 2 0 rfl rfl
      have y1 := HP.out.c 2 1 rfl rfl
      have y2 := HP.out.c 2 2 rfl rfl
      have y3 := HP.out.c 2 3 rfl rfl
      have y4 := HP.out.c 2 4 rfl rfl
      have y5 := HP.out.c 2 5 rfl rfl
      have ql := HP.out.lt 0 rfl
      have yf := HP.out.f 2 rfl
      have yl := HP.out.lt 2 rfl
      go_wp2_with fail
      have hX := ((((((HP.out.set 2 0 (.slice m.s.ad m.s.nd m.s.cd) rfl).set 2 1 (.slice m.s.rs.a0 m.s.rs.n0 m.s.rs.c0) rfl).set 2 2 (.slice m.s.rs.a1 m.s.rs.n1 m.s.rs.c1) rfl).set 2 3 (.slice m.s.rs.a2 m.s.rs.n2 m.s.rs.c2) rfl).set 2 4 (.slice m.pa m.pn m.pc) rfl).set 2 5 (.slice m.qa m.qn m.qc) rfl)
      refine bodyPost_ret (v := .tuple #[.agg #[.slice m.s.ad m.s.nd m.s.cd, .slice m.s.rs.a0 m.s.rs.n0 m.s.rs.c0, .slice m.s.rs.a1 m.s.rs.n1 m.s.rs.c1, .slice m.s.rs.a2 m.s.rs.n2 m.s.rs.c2, .slice m.pa m.pn m.pc, .slice m.qa m.qn m.qc], .int .i64 7]) (by simp [results, Tryz.results66, go_sem, hX.c 2 0 rfl rfl, hX.c 2 1 rfl rfl, hX.c 2 2 rfl rfl, hX.c 2 3 rfl rfl, hX.c 2 4 rfl rfl, hX.c 2 5 rfl rfl]) rfl ?_
      rw [HR.out]; exact ms_same HM.out hX.below
     ·have d1 : ((K.length : Int) == 1000) = false := by simp; omega
      have HR : Hid (R = (K.map Prf.say ++ [y.say], 0)) := Lib.hid (by rw [HR2.out, if_neg (by omega)])
      clear h1000 HR2 q5 ql
      have q5 := HP.out.c 0 5 rfl rfl
      have k0 := HP.out.c 1 0 rfl rfl
      have k1 := HP.out.c 1 1 rfl rfl
      have kl := HP.out.lt 1 rfl
      go_upto_region 16 with (at_builtin; refine wpList_append_own_at _ rfl _ _ 57 rfl w.heap.size 44 i0 (.agg #[.slice none 0 0, .slice none 0 0]) 2 48 Tryz.underlying57 hi hz0 hz1 hz2 rfl (by decide) _ _ _ rfl ((HP.out.row 3 rfl).alloc _) ⟨wr.heap.size, 0, none⟩ 1 1 [.slice y.sa y.sn y.sc, .slice y.la y.ln y.lc] rfl rfl (cells_newR wr [.slice y.sa y.sn y.sc, .slice y.la y.ln y.lc] 44) (by simp [Value.oneCell']) (by unfold maxLen; omega) (by omega) (by have := HP.out.below.size; simp; omega) ?_; intro v6 w6 hown' hgrow _ hat; have HP6 := Lib.hid ((HP.out.alloc0 _).grow 3 rfl hgrow hown' hat); obtain ⟨A6, cp6, rfl⟩ := HP6.out.form 3 rfl; clear hown' hgrow hat; (have g4 := HP6.out.c 0 5 rfl rfl); (have gf := HP6.out.f 0 rfl); (have gl := HP6.out.lt 0 rfl))
      have hP7 := HP6.out.set 0 5 (.slice A6 (K.length + 1) cp6) rfl
      obtain ⟨W7, hW7⟩ : ∃ W, W = w6.setCell ⟨p2, 5, none⟩ (.slice A6 (K.length + 1) cp6) := ⟨_, rfl⟩
      rw [← hW7] at hP7 ⊢
      have HP7 := Lib.hid hP7
      clear hW7 hP7 g4 gf gl q5 k0 k1 kl
      have q0 := HP7.out.c 0 0 rfl rfl
      have q1 := HP7.out.c 0 1 rfl rfl
      have q2 := HP7.out.c 0 2 rfl rfl
      have q3 := HP7.out.c 0 3 rfl rfl
      have q4 := HP7.out.c 0 4 rfl rfl
      have q5 := HP7.out.c 0 5 rfl rfl
      have y0 := HP7.out.c 2 0 rfl rfl
      have y1 := HP7.out.c 2 1 rfl rfl
      have y2 := HP7.out.c 2 2 rfl rfl
      have y3 := HP7.out.c 2 3 rfl rfl
      have y4 := HP7.out.c 2 4 rfl rfl
      have y5 := HP7.out.c 2 5 rfl rfl
      have ql := HP7.out.lt 0 rfl
      have yf := HP7.out.f 2 rfl
      have yl := HP7.out.lt 2 rfl
      go_wp2_with fail
      have hX := ((((((HP7.out.set 2 0 (.slice m.s.ad m.s.nd m.s.cd) rfl).set 2 1 (.slice m.s.rs.a0 m.s.rs.n0 m.s.rs.c0) rfl).set 2 2 (.slice m.s.rs.a1 m.s.rs.n1 m.s.rs.c1) rfl).set 2 3 (.slice m.s.rs.a2 m.s.rs.n2 m.s.rs.c2) rfl).set 2 4 (.slice m.pa m.pn m.pc) rfl).set 2 5 (.slice A6 (K.length + 1) cp6) rfl)
      refine bodyPost_ret (v := .tuple #[.agg #[.slice m.s.ad m.s.nd m.s.cd, .slice m.s.rs.a0 m.s.rs.n0 m.s.rs.c0, .slice m.s.rs.a1 m.s.rs.n1 m.s.rs.c1, .slice m.s.rs.a2 m.s.rs.n2 m.s.rs.c2, .slice m.pa m.pn m.pc, .slice A6 (K.length + 1) cp6], .int .i64 0]) (by simp [results, Tryz.results66, go_sem, hX.c 2 0 rfl rfl, hX.c 2 1 rfl rfl, hX.c 2 2 rfl rfl, hX.c 2 3 rfl rfl, hX.c 2 4 rfl rfl, hX.c 2 5 rfl rfl]) rfl ?_
      rw [HR.out]; exact ms_refuted HM.out hX.below HYX.out.2 (by rw [flat_snoc]; exact hX.row 3 rfl) HKS.out HYX.out.1
  ·rw [decide_eq_false hmi, Bool.not_false]
   have HR : Hid (R = (m.Q, 9)) := Lib.hid (by rw [HRE0.out]; unfold rfF; rw [HSAY.out, if_pos HVT.out, if_neg hmi])
   clear hmi HRE0
   have q0 := HP2.out.c 0 0 rfl rfl
   have q1 := HP2.out.c 0 1 rfl rfl
   have q2 := HP2.out.c 0 2 rfl rfl
   have q3 := HP2.out.c 0 3 rfl rfl
   have q4 := HP2.out.c 0 4 rfl rfl
   have q5 := HP2.out.c 0 5 rfl rfl
   have y0 := HP2.out.c 2 0 rfl rfl
   have y1 := HP2.out.c 2 1 rfl rfl
   have y2 := HP2.out.c 2 2 rfl rfl
   have y3 := HP2.out.c 2 3 rfl rfl
   have y4 := HP2.out.c 2 4 rfl rfl
   have y5 := HP2.out.c 2 5 rfl rfl
   have ql := HP2.out.lt 0 rfl
   have yf := HP2.out.f 2 rfl
   have yl := HP2.out.lt 2 rfl
   go_wp2_with fail
   have hX := ((((((HP2.out.set 2 0 (.slice m.s.ad m.s.nd m.s.cd) rfl).set 2 1 (.slice m.s.rs.a0 m.s.rs.n0 m.s.rs.c0) rfl).set 2 2 (.slice m.s.rs.a1 m.s.rs.n1 m.s.rs.c1) rfl).set 2 3 (.slice m.s.rs.a2 m.s.rs.n2 m.s.rs.c2) rfl).set 2 4 (.slice m.pa m.pn m.pc) rfl).set 2 5 (.slice m.qa m.qn m.qc) rfl)
   refine bodyPost_ret (v := .tuple #[.agg #[.slice m.s.ad m.s.nd m.s.cd, .slice m.s.rs.a0 m.s.rs.n0 m.s.rs.c0, .slice m.s.rs.a1 m.s.rs.n1 m.s.rs.c1, .slice m.s.rs.a2 m.s.rs.n2 m.s.rs.c2, .slice m.pa m.pn m.pc, .slice m.qa m.qn m.qc], .int .i64 9]) (by simp [results, Tryz.results66, go_sem, hX.c 2 0 rfl rfl, hX.c 2 1 rfl rfl, hX.c 2 2 rfl rfl, hX.c 2 3 rfl rfl, hX.c 2 4 rfl rfl, hX.c 2 5 rfl rfl]) rfl ?_
   rw [HR.out]; exact ms_same HM.out hX.below
end Go.Proofs.YtdpbbhbegehcjaaGreatDoor
