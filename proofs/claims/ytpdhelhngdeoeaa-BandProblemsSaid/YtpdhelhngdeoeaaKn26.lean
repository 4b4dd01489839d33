/- known() of the statements on layer 26 returns true. -/
import Derived.Test.YtpdhelhngdeoeaaPb26
import Derived.Test.YtpdhelhngdeoeaaNx26
import Derived.Laws.StructEq
namespace Go.Proofs.Ytpdhelhngdeoeaa
open Go.RowKit

theorem at_vld (t : Int) : (vldT t = false ↔ atF t < 0) := by
  by_cases h : ∃ k : Fin 11, keyE k.1 = t
  · obtain ⟨k, rfl⟩ := h
    revert k
    decide +kernel
  · have h1 : ∀ k : Fin 11, keyE k.1 ≠ t := fun k e => h ⟨k, e⟩
    have e0 : (24 : Int) ≠ t := h1 0
    have e1 : (23 : Int) ≠ t := h1 1
    have e2 : (21 : Int) ≠ t := h1 2
    have e3 : (19 : Int) ≠ t := h1 3
    have e4 : (18 : Int) ≠ t := h1 4
    have e5 : (14 : Int) ≠ t := h1 5
    have e6 : (13 : Int) ≠ t := h1 6
    have e7 : (12 : Int) ≠ t := h1 7
    have e8 : (10 : Int) ≠ t := h1 8
    have e9 : (8 : Int) ≠ t := h1 9
    have e10 : (7 : Int) ≠ t := h1 10
    have ha : atF t = -1 := by simp [atF, atGo, keyE, e0, e1, e2, e3, e4, e5, e6, e7, e8, e9, e10]
    have hb : blkN t = 0 := blkN_no t (fun e he h2 => h ⟨⟨e, he⟩, h2.symm⟩)
    rw [ha]
    unfold vldT
    rw [hb]
    decide
theorem kd1 : rngF 3 = (14, 51, 0) := by decide
theorem kd2 : rngF 0 = (0, 0, 2) := by decide
theorem kd3 : ofP 13 = (2, 0) := by decide
theorem kd4 : ofP 52 = (0, 2) := by decide
theorem kd5 : blkF 14 = (7, 0) := by decide +kernel
theorem kd6 : nextT 14 = (13, 0) := by decide +kernel
theorem kd7 : nextT 7 = (0, 9) := by decide +kernel
theorem kd8 : blkF 15 = (0, 2) := by decide +kernel
theorem kd9 : (chF 3 24).2 = 0 ∧ (chF 3 24).1.length = 14 ∧ (chF 3 24).1[0]? = some 14 ∧ (chF 3 24).1[13]? = some 27 := by decide +kernel
theorem kd10 : (chF 3 7).2 = 0 ∧ (chF 3 7).1.length = 30 := by decide +kernel
def kds (A : Option Addr) : List Dom := [⟨4, A, 2, 2, [1, 3]⟩]
def krl : Rul := ⟨[⟨4, 5, 0, 14, 51⟩], [], []⟩
def kds1 : List Dom := kds none
theorem kd11 : (probF kds1 krl 24).2 = 0 ∧ (probF kds1 krl 24).1.1.map (fun x => (x.1, x.2.length)) = [(4, 19)] ∧ (probF kds1 krl 24).1.2.pairs = [] := by decide +kernel
theorem probF_adr (A : Option Addr) (r : Rul) (t : Int) : probF (kds A) r t = probF kds1 r t := by
  have h1 : vbGo none (kds A) = vbGo none kds1 := rfl
  have h2 : (kds A).map (domOf t) = kds1.map (domOf t) := rfl
  have h3 : (kds A).map Dom.st = kds1.map Dom.st := rfl
  unfold probF
  rw [h1, h2, h3]

set_option maxRecDepth 100000 in
set_option maxHeartbeats 4000000 in
theorem known_any (w : World) : Calls Try.prog 10 #[] w (RetPost (.bool true) w.heap.size w) := by
  have Q1 : Hid (∀ w, Calls Try.prog 7 #[.int .i64 3] w fun e w' => e = .returned (.tuple #[.int .i64 14, .int .i64 51, .int .i64 0]) ∧ w = w') := Lib.hid (fun w => by have := range_any 3 w; rw [kd1] at this; exact this)
  have Q2 : Hid (∀ w, Calls Try.prog 7 #[.int .i64 0] w fun e w' => e = .returned (.tuple #[.int .i64 0, .int .i64 0, .int .i64 2]) ∧ w = w') := Lib.hid (fun w => by have := range_any 0 w; rw [kd2] at this; exact this)
  have Q3 : Hid (∀ w, Calls Try.prog 8 #[.int .i64 13] w fun e w' => e = .returned (.tuple #[.int .i64 2, .int .i64 0]) ∧ w = w') := Lib.hid (fun w => by have := of26_any 13 w; rw [kd3] at this; exact this)
  have Q4 : Hid (∀ w, Calls Try.prog 8 #[.int .i64 52] w fun e w' => e = .returned (.tuple #[.int .i64 0, .int .i64 2]) ∧ w = w') := Lib.hid (fun w => by have := of26_any 52 w; rw [kd4] at this; exact this)
  have Q5 : Hid (∀ w, Calls Try.prog 13 #[.agg #[.int .i64 14]] w (RetPost (.tuple #[.int .i64 7, .int .i64 0]) w.heap.size w)) := Lib.hid (fun w => by have := bblocks_any 14 w; rw [kd5] at this; exact this)
  have Q6 : Hid (∀ w, Calls Try.prog 14 #[.agg #[.int .i64 14]] w (RetPost (.tuple #[.agg #[.int .i64 13], .int .i64 0]) w.heap.size w)) := Lib.hid (fun w => by have := nextT_any 14 w; rw [kd6] at this; exact this)
  have Q7 : Hid (∀ w, Calls Try.prog 14 #[.agg #[.int .i64 7]] w (RetPost (.tuple #[.agg #[.int .i64 0], .int .i64 9]) w.heap.size w)) := Lib.hid (fun w => by have := nextT_any 7 w; rw [kd7] at this; exact this)
  have Q8 : Hid (∀ w, Calls Try.prog 13 #[.agg #[.int .i64 15]] w (RetPost (.tuple #[.int .i64 0, .int .i64 2]) w.heap.size w)) := Lib.hid (fun w => by have := bblocks_any 15 w; rw [kd8] at this; exact this)
  have RT := Lib.hid (fun n w => to_any n w)
  have RC := Lib.hid (fun n t w => channels_any n t w)
  go_enter Try.func10, Try.ntmps10
  go_wp2_with fail
  refine (Q1.out _).mono ?_
  rintro e w' ⟨rfl, rfl⟩
  go_wp2_with fail
  refine (Q2.out _).mono ?_
  rintro e w' ⟨rfl, rfl⟩
  go_wp2_with fail
  refine (Q3.out _).mono ?_
  rintro e w' ⟨rfl, rfl⟩
  go_wp2_with fail
  refine (Q4.out _).mono ?_
  rintro e w' ⟨rfl, rfl⟩
  go_wp2_with fail
  refine (RT.out _ _).mono ?_
  rintro e Wa ⟨rfl, hba⟩
  go_wp2_with fail
  refine (Q5.out _).mono ?_
  rintro e Wb ⟨rfl, hbb⟩
  have HBb := Lib.hid (hba.trans (hbb.mono hba.size))
  clear hba hbb
  go_wp2_with fail
  refine (RT.out _ _).mono ?_
  rintro e Wc ⟨rfl, hbc⟩
  go_wp2_with fail
  refine (Q6.out _).mono ?_
  rintro e Wd ⟨rfl, hbd⟩
  have hBd := HBb.out.trans ((hbc.trans (hbd.mono hbc.size)).mono HBb.out.size)
  have HBd := Lib.hid hBd
  clear hbc hbd HBb hBd
  go_wp2_with fail
  obtain ⟨We, hWe⟩ : ∃ We, We = Wd.alloc (.cells #[.int .i64 13] 32) := ⟨_, rfl⟩
  rw [← hWe]
  have HB12 : Hid (Blk We Wd.heap.size 32 [.int .i64 13]) := Lib.hid (by rw [hWe]; exact blk_new _ _ _)
  have HBe : Hid (Below w.heap.size w We) := Lib.hid (by rw [hWe]; exact HBd.out.alloc HBd.out.size _)
  clear hWe
  refine (RT.out _ _).mono ?_
  rintro e Wf ⟨rfl, hbf⟩
  go_wp2_with fail
  refine (Q7.out _).mono ?_
  rintro e Wg ⟨rfl, hbg⟩
  have hBg := hbf.trans (hbg.mono hbf.size)
  have HBg := Lib.hid hBg
  clear hbf hbg hBg
  go_wp2_with fail
  refine (RT.out _ _).mono ?_
  rintro e Wh ⟨rfl, hbh⟩
  go_wp2_with fail
  refine (Q8.out _).mono ?_
  rintro e Wi ⟨rfl, hbi⟩
  have hBi := HBg.out.trans ((hbh.trans (hbi.mono hbh.size)).mono HBg.out.size)
  have HBi := Lib.hid (HBe.out.trans (hBi.mono HBe.out.size))
  have HX := Lib.hid (HB12.out.keep hBi)
  have x0 : Wi.cell? ⟨Wd.heap.size, 0, none⟩ = some (.int .i64 13) := HX.out.cell rfl
  have x1 := HX.out.lt
  have hne : ∀ w, (binOp .neq 32 (.agg #[.int .i64 13]) (.agg #[.int .i64 13])).run Try.prog w = .ok (.bool false) w := fun w => by rw [tgt_neq]; rfl
  clear hbh hbi hBi HBg HBe HB12
  go_wp2_with fail
  refine Lx.region (C := fun X => Below Wi.heap.size Wi X ∧ X.cell? ⟨Wd.heap.size, 0, none⟩ = some (.int .i64 13)) (hs := [3]) (by kernel_rfl) (by kernel_rfl) ⟨(Below.refl _ _).drew, x0⟩ ?_
  repeat' (first
    | (refine Lx.lex_no (Lx.n1 rfl rfl rfl (by with_reducible rfl)) (fun K hK => ?_); go_simp; skip; refine hK _ ?_; clear hK K)
    | (refine Lx.lex_no (Lx.n0 rfl rfl rfl (by with_reducible rfl)) (fun K hK => ?_); go_simp; skip; refine hK _ ?_; clear hK K)
    | (refine Lx.lex_no (Lx.n2 rfl rfl rfl) (fun K hK => ?_); go_simp; skip; refine hK _ ?_; clear hK K)
    | (refine Lx.lex_pure (v := ?_) rfl (by first | exact Lx.w0 rfl | exact Lx.w1 rfl rfl rfl (by with_reducible rfl)) ?_ (fun K hK => ?_); rotate_left 1; (intro w' hCw; (try dsimp only at hCw); go_simp; first | done | with_reducible rfl); go_simp; skip; refine hK _ ?_; clear hK K)
    | (refine Lx.lex_read (v := ?_) rfl (by first | exact Lx.w0 rfl | exact Lx.w1 rfl rfl rfl (by with_reducible rfl)) ?_ (fun K hK => ?_); rotate_left 1; (go_simp; first | done | with_reducible rfl); go_simp; skip; refine hK _ ?_; clear hK K)
    | (refine Lx.lex_eff rfl (by first | exact Lx.w0 rfl | exact Lx.w1 rfl rfl rfl (by with_reducible rfl)) (fun K hK => ?_); go_simp; (first | (go_at_call 12; refine (RT.out _ _).mono ?_; rintro e Wj ⟨rfl, hbj⟩)); refine hK _ _ (by first | exact ⟨(Below.refl _ _).drew.trans (hbj.mono (by simp)), (hbj.cell (p := ⟨Wd.heap.size, 0, none⟩) (by simpa using x1)).trans x0⟩) ?_; clear hK K))
  all_goals (refine Lx.lex_nil ?_)
  have HBj := Lib.hid (HBi.out.drew.trans (hbj.mono (show w.heap.size ≤ Wi.heap.size from HBi.out.size)))
  clear hbj x0 x1 hne HX
  go_wp2_with fail
  refine (RT.out _ _).mono ?_
  rintro e Wk ⟨rfl, hbk⟩
  have HBk := Lib.hid (HBj.out.trans (hbk.mono HBj.out.size))
  clear hbk
  go_wp2_with fail
  refine (RC.out _ _ _).mono ?_
  rintro e Wl ⟨v1, rfl, hown1, hbl⟩
  obtain ⟨A1, cc1, rfl, hr1⟩ := row1_of_own hown1
  have HBl := Lib.hid (HBk.out.trans (hbl.mono HBk.out.size))
  have HR1 := Lib.hid hr1
  obtain ⟨K1, K2, K3, K4⟩ := kd9
  rw [K1, K2]
  have HK3 := Eqn.mk K3
  have HK4 := Eqn.mk K4
  rw [K2] at HR1
  generalize (chF 3 24).1 = L1 at *
  clear hown1 hbl hr1 K1 K2 K3 K4
  go_wp2_with fail
  refine (RT.out _ _).mono ?_
  rintro e Wm ⟨rfl, hbm⟩
  have HBm := Lib.hid (HBl.out.trans (hbm.mono HBl.out.size))
  have HR2 := Lib.hid (HR1.out.keep hbm)
  clear hbm HR1
  go_wp2_with fail
  refine (RC.out _ _ _).mono ?_
  rintro e Wn ⟨v2, rfl, hown2, hbn⟩
  obtain ⟨A2, cc2, rfl, _⟩ := row1_of_own hown2
  have HBn := Lib.hid (HBm.out.trans (hbn.mono HBm.out.size))
  have HR3 := Lib.hid (HR2.out.keep hbn)
  obtain ⟨K1, K2⟩ := kd10
  rw [K1, K2]
  clear hown2 hbn HR2 K1 K2
  obtain ⟨Wo, hWo⟩ : ∃ Wo, Wo = ((Wn.alloc (.cells #[.int .i64 1, .int .i64 3] 3)).alloc (.cells #[.int .i64 4, .slice (some ⟨Wn.heap.size, 0, none⟩) 2 2] 67)).alloc (.cells #[.int .i64 4, .int .i64 5, .int .i64 0, .int .i64 14, .int .i64 51] 69) := ⟨_, rfl⟩
  have hbo : Below Wn.heap.size Wn Wo := by rw [hWo]; exact (((Below.refl _ _).alloc (Nat.le_refl _) _).alloc (by simp) _).alloc (by simp; omega) _
  have hso : Wo.heap.size = Wn.heap.size + 3 := by rw [hWo]; simp
  have HDo : Hid (DomsAt Wo Wo.heap.size (some ⟨Wn.heap.size + 1, 0, none⟩) 1 (kds (some ⟨Wn.heap.size, 0, none⟩))) := Lib.hid (by
    have h1 := row1_new Wn intV 3 [1, 3]
    have h2 := rowS_new (Wn.alloc (.cells #[.int .i64 1, .int .i64 3] 3)) 2 Dom.cell 67 (kds (some ⟨Wn.heap.size, 0, none⟩))
    rw [World.size_alloc] at h2
    refine ⟨?_, fun d hd => ?_⟩
    · rw [hWo]
      exact (RowS.up (B' := Wn.heap.size + 3) (RowS.below h2 ((Below.refl _ _).alloc (by simp) _)) (by omega)).up (by simp)
    · obtain rfl : d = ⟨4, some ⟨Wn.heap.size, 0, none⟩, 2, 2, [1, 3]⟩ := by simpa [kds] using hd
      rw [hWo]
      exact ((Row1.below h1 ((Below.refl _ _).alloc (by simp) _)).below ((Below.refl _ _).alloc (by simp) _)).up (by simp))
  have HRo : Hid (RulAt Wo Wo.heap.size ⟨some ⟨Wn.heap.size + 1 + 1, 0, none⟩, 1, 1, none, 0, 0, none, 0, 0⟩ krl) := Lib.hid (by
    have h2 := rowS_new ((Wn.alloc (.cells #[.int .i64 1, .int .i64 3] 3)).alloc (.cells #[.int .i64 4, .slice (some ⟨Wn.heap.size, 0, none⟩) 2 2] 67)) 5 R5.cell 69 [⟨4, 5, 0, 14, 51⟩]
    rw [World.size_alloc, World.size_alloc] at h2
    refine ⟨?_, RowS.nil _ _ _ _ _, RowS.nil _ _ _ _ _, by dsimp only; omega, by dsimp only; omega, by dsimp only; omega⟩
    rw [hWo]
    exact RowS.up h2 (by simp))
  have HRp : Hid (Row1 intV Wo Wo.heap.size A1 14 L1) := Lib.hid (HR3.out.keep hbo)
  have HBo := Lib.hid (HBn.out.trans (hbo.mono HBn.out.size))
  clear hbo
  go_wp2_with fail
  rw [← hWo]
  clear hWo
  refine (RT.out _ _).mono ?_
  rintro e Wp ⟨rfl, hbp⟩
  have HBp := Lib.hid (HBo.out.trans (hbp.mono HBo.out.size))
  have HRq := Lib.hid (HRp.out.keep hbp)
  have HP := Lib.hid (problem_any (some ⟨Wn.heap.size + 1, 0, none⟩) 1 1 ⟨some ⟨Wn.heap.size + 1 + 1, 0, none⟩, 1, 1, none, 0, 0, none, 0, 0⟩ 24 Wp _ krl (by omega) (fun d hd => by (obtain rfl : d = ⟨4, some ⟨Wn.heap.size, 0, none⟩, 2, 2, [1, 3]⟩ := (by simpa [kds] using hd)); dsimp only; omega) (HDo.out.keep hbp) (HRo.out.keep hbp))
  rw [probF_adr] at HP
  unfold RulS.val at HP
  dsimp only at HP
  clear hbp HRp HDo HRo
  go_wp2_with fail
  refine HP.out.mono ?_
  rintro e Wq ⟨⟨dA, dn, dc, ⟨pA, pn, pc, lA, ln, lc, kA, kn, kc⟩⟩, ds, rfl, hat, hsay, hbq⟩
  obtain ⟨K1, K2, K3⟩ := kd11
  rw [K1]
  have HBq := Lib.hid (HBp.out.trans (hbq.mono HBp.out.size))
  have HRr := Lib.hid (HRq.out.keep hbq)
  obtain ⟨d, hds, hdl⟩ : ∃ d : Dom, ds = [d] ∧ d.chs.length = 19 := by
    have h := K2
    rw [← hsay, List.map_map] at h
    match ds, h with
    | [], h => simp at h
    | [d], h => exact ⟨d, rfl, (by simpa [Dom.say] using h : d.st = 4 ∧ d.chs.length = 19).2⟩
    | _ :: _ :: _, h => simp at h
  have hpn : pn = 0 := by have := hat.2.1.1; rw [K3] at this; exact this.symm
  have hdn : dn = 1 := by have := hat.1.1.1; rw [hds] at this; exact this.symm
  have hlen : d.len = 19 := by have := (hat.1.2 d (by rw [hds]; simp)).1; omega
  subst hds hpn hdn
  obtain ⟨b, off, hA, hbl, hc⟩ := hat.1.1.2 (by dsimp only; omega)
  dsimp only at hA hbl hc
  subst hA
  have c1 := hc 0 d rfl 1 (by decide)
  simp only [Dom.cell, hlen, Nat.zero_mul, Nat.add_zero] at c1
  obtain ⟨b2, off2, hA2, hbl2, hc2⟩ := HRr.out.2 (by decide)
  subst hA2
  have e0 := hc2 0 _ HK3.out
  have e1 := hc2 13 _ HK4.out
  simp only [intV, Nat.add_zero] at e0 e1
  obtain ⟨dst, dad, dle, dca, dch⟩ := d
  dsimp only at c1 hlen
  unfold PrbS.val
  dsimp only
  clear hat hsay hbq hc hc2 K1 K2 K3 HP hdl hlen
  go_wp2_with fail
  go_ret
  exact ⟨rfl, HBq.out.alloc HBq.out.size _⟩
end Go.Proofs.Ytpdhelhngdeoeaa
