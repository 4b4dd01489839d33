/- ProductHolds: for every input the call returns true, and each argument reads afterwards as it read before. No conditions. -/
import Derived.Test.YtpgomblalmnonaaDoorDoor
import Derived.Test.YtpgomblalmnonaaDoorKnown33
import Derived.Test.YtpgomblalmnonaaDoorPlH33
import Derived.Test.YtpgomblalmnonaaDoorAppS
namespace Go.Proofs.YtpgomblalmnonaaDoor
open Go.RowKit Go.ChangeShapes Go.WideShapes Go.ChangeAt

theorem ctl_len (ar : List Area) (imps : List Imp) (cl pr : Int) : (ctlF ar imps cl pr).1.length ≤ 2 * ar.length := by
  unfold ctlF
  split
  · split
    · exact catal_len _ _ _ _
    · simp
  · simp

theorem name_len (p : Prod) : (strOf (nameF p.area p.cat)).size ≤ 1000 := by
  show (nameF p.area p.cat).toArray.size ≤ 1000
  unfold nameF
  split
  · simp
  · unfold nameN digS
    split <;> simp
theorem name_parse {p : Prod} (h : ¬ badP p) : v3 (parseF (strOf (nameF p.area p.cat)).data.toList) = .tuple #[.int .i64 p.area, .int .i64 p.cat, .int .i64 0] := by
  have : (strOf (nameF p.area p.cat)).data.toList = nameF p.area p.cat := rfl
  rw [this, parse_own h]
  rfl

set_option maxRecDepth 100000 in
set_option maxHeartbeats 4000000 in
theorem productHolds_walk (w : World) (A : Option Addr) (n c : Nat) (ar : List Area) (R : RowS 2 Area.cell w w.heap.size A n ar ∧ n ≤ 9223372036854775807) (B : Option Addr) (m d : Nat) (imps : List Imp) (Rb : RowS 3 Imp.cell w w.heap.size B m imps ∧ m ≤ 9223372036854775807) (cl : Int) (_hcl : I64 cl) (mo : Int) (_hmo : I64 mo) (pr : Int) (_hpr : I64 pr) :
    Calls Tryd.prog 9 #[.slice A n c, .slice B m d, .agg #[.int .i64 cl], .agg #[.int .i64 mo], .int .i64 pr] w fun e w' => e = .returned (.bool true) ∧ Below w.heap.size w w' := by
  obtain ⟨ha, hnn⟩ := R
  obtain ⟨hb, hmm⟩ := Rb
  have B0 : Hid (Below w.heap.size w ((w.alloc (.cells #[.int .i64 cl] 32)).alloc (.cells #[.int .i64 mo] 32))) := Lib.hid (((Below.refl _ _).alloc (Nat.le_refl _) _).alloc (by simp) _)
  have HA := Lib.hid (ha.keep B0.out)
  have HB := Lib.hid (hb.keep B0.out)
  have Hal := Eqn.mk ha.1
  clear ha hb
  by_cases h1 : n ≤ 12
  · have d1 : ¬ (12 : Int) < (n : Int) := by omega
    by_cases h2 : m ≤ 40
    · have d2 : ¬ (40 : Int) < (m : Int) := by omega
      have hlen : (ctlF ar imps cl pr).1.length ≤ 24 := Nat.le_trans (ctl_len _ _ _ _) (by rw [Hal.out]; omega)
      have hlen2 : (ctlF ar imps mo pr).1.length ≤ 24 := Nat.le_trans (ctl_len _ _ _ _) (by rw [Hal.out]; omega)
      have hnot := ctl_not (ar := ar) (imps := imps) (cl := cl) (pr := pr)
      have hval := ctl_valid (ar := ar) (imps := imps) (cl := cl) (pr := pr)
      have hnot2 := ctl_not (ar := ar) (imps := imps) (cl := mo) (pr := pr)
      have hmore := fun (a : (ctlF ar imps cl pr).2 = 0) (b : (ctlF ar imps mo pr).2 = 0) (hle : cl ≤ mo) (p : Prod) => ctl_more (p := p) a b hle
      generalize ht : ctlF ar imps cl pr = tt at hlen hnot hval hmore
      obtain ⟨xs, er⟩ := tt
      generalize ht2 : ctlF ar imps mo pr = tt2 at hlen2 hnot2 hmore
      obtain ⟨ys, er2⟩ := tt2
      dsimp only at hlen hlen2 hnot hnot2 hval hmore
      have HT := Eqn.mk ht
      have HT2 := Eqn.mk ht2
      have HN := Lib.hid hnot
      have HV := Lib.hid hval
      have HN2 := Lib.hid hnot2
      have HM := Lib.hid hmore
      clear ht ht2 hnot hval hnot2 hmore
      by_cases her : er = 0
      · have t1 : (er != 0) = false := by simpa using her
        have HER := Lib.hid her
        have hxs := Lib.hid (HV.out her)
        clear her
        go_enter Tryd.func9, Tryd.ntmps9
        go_wp2_with fail
        refine (catalogue_any A B n c m d cl pr _ ar imps (by omega) (by omega) (by exact HA.out) (by exact HB.out)).mono ?_
        rw [HT.out]
        rintro e w1 ⟨v1, rfl, ho1, hb1⟩
        obtain ⟨X1, e1, rfl, hr1⟩ := own_formS (by omega) ho1
        have R1 := Lib.hid hr1
        have cA := (hb1.cell (p := ⟨w.heap.size, 0, none⟩) (by simp <;> omega)).trans (show _ = some (Value.int .i64 cl) by go_simp)
        have cB := (hb1.cell (p := ⟨w.heap.size + 1, 0, none⟩) (by simp)).trans (show _ = some (Value.int .i64 mo) by go_simp)
        have HA1 := Lib.hid (HA.out.keep hb1)
        have HB1 := Lib.hid (HB.out.keep hb1)
        have L1 : w.heap.size + 1 < w1.heap.size := Nat.lt_of_lt_of_le (by simp) hb1.size
        have BW : Hid (Below w.heap.size w w1) := Lib.hid (B0.out.trans (hb1.mono B0.out.size))
        clear ho1 hr1 hb1 HA HB B0
        go_wp2_with fail
        refine (prodValid_any X1 _ e1 xs _ (by omega) (by exact R1.out)).mono ?_
        rw [hxs.out]
        rintro e w2 ⟨rfl, hb2⟩
        have cA2 := (hb2.cell (p := ⟨w.heap.size, 0, none⟩) (by simp; omega)).trans cA
        have cB2 := (hb2.cell (p := ⟨w.heap.size + 1, 0, none⟩) (by simp; omega)).trans cB
        have HA2 := Lib.hid (HA1.out.keep hb2)
        have HB2 := Lib.hid (HB1.out.keep hb2)
        have R2 := Lib.hid (R1.out.keep hb2)
        have L2 : w.heap.size + 1 < w2.heap.size := Nat.lt_of_lt_of_le L1 hb2.size
        have BW2 : Hid (Below w.heap.size w w2) := Lib.hid (BW.out.trans (hb2.mono BW.out.size))
        clear hb2 HA1 HB1 R1 L1 BW cA cB
        go_wp2_with fail
        go_loopw [13] (fun i wr => ∃ k : Nat, k ≤ xs.length ∧ i = .int .i64 k ∧ Below w2.heap.size w2 wr) (fun i _ => xs.length - (intOf i).toNat)
        case atStart => exact ⟨0, Nat.zero_le _, rfl, Below.refl _ _⟩
        case round =>
          obtain ⟨k, hk, rfl, HW⟩ := hrel
          have HWW := Lib.hid HW
          by_cases hlt : k < xs.length
          · obtain ⟨p, hp, _⟩ := drop_at (xs := xs) (k := k) hlt
            have RR := Lib.hid (R2.out.keep HW)
            obtain ⟨b, off, rfl, hbl, hc⟩ := RR.out.2 (by omega)
            have q0 := hc k p hp 0 (by omega)
            have q1 := hc k p hp 1 (by omega)
            have q2 := hc k p hp 2 (by omega)
            have q3 := hc k p hp 3 (by omega)
            have q4 := hc k p hp 4 (by omega)
            simp only [Prod.cell, Nat.add_zero] at q0 q1 q2 q3 q4
            have j0 : (0 : Int) ≤ (k : Int) := by omega
            have j1 : (k : Int) < (xs.length : Int) := by omega
            have HP := Lib.hid hp
            have HNP := Lib.hid (name_parse (pv_ok hxs.out p (List.mem_of_getElem? hp)))
            have HFO := Lib.hid (findF_own hxs.out hp)
            have n1 : (p.area != p.area) = false := by simp
            have n2 : (p.cat != p.cat) = false := by simp
            have n3 : ((k : Int) != (k : Int)) = false := by simp
            obtain ⟨wo, rfl⟩ : ∃ wo : World, wo = wr := ⟨_, rfl⟩
            clear hc hp HW
            go_wp2_with fail
            refine (name_any p _).mono ?_
            rintro e w3 ⟨rfl, hb3⟩
            have q0 := (hb3.cell (p := ⟨b, off + k * 5, none⟩) hbl).trans q0
            have q1 := (hb3.cell (p := ⟨b, off + k * 5 + 1, none⟩) hbl).trans q1
            have q2 := (hb3.cell (p := ⟨b, off + k * 5 + 2, none⟩) hbl).trans q2
            have q3 := (hb3.cell (p := ⟨b, off + k * 5 + 3, none⟩) hbl).trans q3
            have q4 := (hb3.cell (p := ⟨b, off + k * 5 + 4, none⟩) hbl).trans q4
            have R3 := Lib.hid (RR.out.keep hb3)
            have hbl3 : b < w3.heap.size := Nat.lt_of_lt_of_le hbl hb3.size
            have BO : Hid (Below w2.heap.size w2 w3) := Lib.hid (HWW.out.trans (hb3.mono HWW.out.size))
            clear hb3 RR HWW hbl
            go_wp2_with fail
            refine (parse_any _ _ (name_len p)).mono ?_
            rw [HNP.out]
            rintro e w4 ⟨rfl, hb4⟩
            have q0 := (hb4.cell (p := ⟨b, off + k * 5, none⟩) hbl3).trans q0
            have q1 := (hb4.cell (p := ⟨b, off + k * 5 + 1, none⟩) hbl3).trans q1
            have q2 := (hb4.cell (p := ⟨b, off + k * 5 + 2, none⟩) hbl3).trans q2
            have q3 := (hb4.cell (p := ⟨b, off + k * 5 + 3, none⟩) hbl3).trans q3
            have q4 := (hb4.cell (p := ⟨b, off + k * 5 + 4, none⟩) hbl3).trans q4
            have R4 := Lib.hid (R3.out.keep hb4)
            have hbl4 : b < w4.heap.size := Nat.lt_of_lt_of_le hbl3 hb4.size
            have BO4 : Hid (Below w2.heap.size w2 w4) := Lib.hid (BO.out.trans (hb4.mono BO.out.size))
            clear hb4 R3 BO hbl3
            go_wp2_with fail
            refine Lx.region (C := fun _ => True) (hs := []) (by kernel_rfl) (by kernel_rfl) trivial ?_
            repeat' (first
              | (refine Lx.lex_no (Lx.n1 rfl rfl rfl (by with_reducible rfl)) (fun K hK => ?_); go_simp; refine hK _ ?_; clear hK K)
              | (refine Lx.lex_no (Lx.n0 rfl rfl rfl (by with_reducible rfl)) (fun K hK => ?_); go_simp; refine hK _ ?_; clear hK K)
              | (refine Lx.lex_no (Lx.n2 rfl rfl rfl) (fun K hK => ?_); go_simp; refine hK _ ?_; clear hK K)
              | (refine Lx.lex_pure (v := ?_) rfl (by first | exact Lx.w0 rfl | exact Lx.w1 rfl rfl rfl (by with_reducible rfl)) ?_ (fun K hK => ?_); rotate_left 1; (intro w' hCw; (try dsimp only at hCw); go_simp; done); go_simp; refine hK _ ?_; clear hK K)
              | (refine Lx.lex_pure (v := ?_) rfl (by first | exact Lx.w0 rfl | exact Lx.w1 rfl rfl rfl (by with_reducible rfl)) ?_ (fun K hK => ?_); rotate_left 1; (intro w' hCw; (try dsimp only at hCw); go_simp; with_reducible rfl); go_simp; refine hK _ ?_; clear hK K)
              | (refine Lx.lex_read (v := ?_) rfl (by first | exact Lx.w0 rfl | exact Lx.w1 rfl rfl rfl (by with_reducible rfl)) ?_ (fun K hK => ?_); rotate_left 1; (go_simp; done); go_simp; refine hK _ ?_; clear hK K)
              | (refine Lx.lex_read (v := ?_) rfl (by first | exact Lx.w0 rfl | exact Lx.w1 rfl rfl rfl (by with_reducible rfl)) ?_ (fun K hK => ?_); rotate_left 1; (go_simp; with_reducible rfl); go_simp; refine hK _ ?_; clear hK K)
              | (refine Lx.lex_eff rfl (by first | exact Lx.w0 rfl | exact Lx.w1 rfl rfl rfl (by with_reducible rfl)) (fun K hK => ?_); go_simp; (first | (go_at_call 28; refine (find_any _ _ e1 _ _ _ xs (by omega) (by exact R4.out.keep (Below.refl _ _).drew)).mono ?_; rw [HFO.out]; simp only [v2]; rintro e w5 ⟨rfl, hb5⟩) | skip); refine hK _ _ (trivial) ?_; clear hK K)
              | (refine Lx.lex_cases rfl rfl rfl (fun hgd K hK => ?_) (fun hgd K hK => ?_) <;> (try simp only [decide_eq_true_eq, decide_eq_false_iff_not] at hgd) <;> (first | (exfalso; omega) | (go_simp; refine hK _ ?_; clear hK K))))
            all_goals (refine Lx.lex_nil ?_)
            have q0 := (hb5.cell (p := ⟨b, off + k * 5, none⟩) hbl4).trans q0
            have q1 := (hb5.cell (p := ⟨b, off + k * 5 + 1, none⟩) hbl4).trans q1
            have R5 : Hid (RowS 5 Prod.cell w5 w5.heap.size (some ⟨b, off, none⟩) xs.length xs) := Lib.hid ((R4.out.keep (Below.refl _ _).drew).keep hb5)
            have BO5 : Hid (Below w2.heap.size w2 w5) := Lib.hid (BO4.out.drew.trans (hb5.mono BO4.out.size))
            clear hb5 R4 BO4 hbl4
            go_wp2_with fail
            go_loopw [19] (fun i wr => ∃ j : Nat, j ≤ k ∧ i = .int .i64 j ∧ Below w5.heap.size w5 wr) (fun i _ => k - (intOf i).toNat)
            case atStart => exact ⟨0, Nat.zero_le _, rfl, Below.refl _ _⟩
            case round =>
              obtain ⟨j, hj, rfl, HW⟩ := hrel
              have HWW := Lib.hid HW
              by_cases hjk : j < k
              · obtain ⟨q, hq, _⟩ := drop_at (xs := xs) (k := j) (by omega)
                have RR := Lib.hid (R5.out.keep HW)
                obtain ⟨b', off', hbo, hbl, hc⟩ := RR.out.2 (by omega)
                simp only [Option.some.injEq, Addr.mk.injEq, and_true] at hbo
                obtain ⟨rfl, rfl⟩ := hbo
                have s0 := hc j q hq 0 (by omega)
                have s1 := hc j q hq 1 (by omega)
                have s2 := hc j q hq 2 (by omega)
                have s3 := hc j q hq 3 (by omega)
                have s4 := hc j q hq 4 (by omega)
                have r0 := hc k p HP.out 0 (by omega)
                have r1 := hc k p HP.out 1 (by omega)
                have r2 := hc k p HP.out 2 (by omega)
                have r3 := hc k p HP.out 3 (by omega)
                have r4 := hc k p HP.out 4 (by omega)
                simp only [Prod.cell, Nat.add_zero] at s0 s1 s2 s3 s4 r0 r1 r2 r3 r4
                have hdiff := names_ne hxs.out hq HP.out hjk
                have hne : strOf (nameF q.area q.cat) ≠ strOf (nameF p.area p.cat) := fun hh => hdiff (by rw [← toList_strOf (nameF q.area q.cat), hh, toList_strOf])
                have hsl : ((strOf (nameF q.area q.cat)).toList == (strOf (nameF p.area p.cat)).toList) = false := by
                  rw [toList_strOf, toList_strOf]; simpa using hdiff
                have hN1 := fun w => name_any q w
                have hN2 := fun w => name_any p w
                generalize strOf (nameF q.area q.cat) = S1 at hne hN1 hsl
                generalize strOf (nameF p.area p.cat) = S2 at hne hN2 hsl
                have HN1 := Lib.hid hN1
                have HN2' := Lib.hid hN2
                have i0 : (0 : Int) ≤ (j : Int) := by omega
                have i1 : (j : Int) < (xs.length : Int) := by omega
                have i2 : (j : Int) < (k : Int) := by omega
                clear hc hq hdiff hN1 hN2 HW
                obtain ⟨wp, rfl⟩ : ∃ wp : World, wp = wr := ⟨_, rfl⟩
                go_wp2_with fail
                refine Lx.region (C := fun w' => w'.cell? ⟨b, off + k * 5, none⟩ = some (.int .i64 p.area) ∧ w'.cell? ⟨b, off + k * 5 + 1, none⟩ = some (.int .i64 p.cat) ∧ w'.cell? ⟨b, off + k * 5 + 2, none⟩ = some (.int .i64 p.sup) ∧ w'.cell? ⟨b, off + k * 5 + 3, none⟩ = some (.int .i64 p.units) ∧ w'.cell? ⟨b, off + k * 5 + 4, none⟩ = some (.int .i64 p.res)) (hs := [8]) (by kernel_rfl) (by kernel_rfl) (by exact ⟨r0, r1, r2, r3, r4⟩) ?_
                repeat' (first
                  | (refine Lx.lex_no (Lx.n1 rfl rfl rfl (by with_reducible rfl)) (fun K hK => ?_); go_simp; refine hK _ ?_; clear hK K)
                  | (refine Lx.lex_no (Lx.n0 rfl rfl rfl (by with_reducible rfl)) (fun K hK => ?_); go_simp; refine hK _ ?_; clear hK K)
                  | (refine Lx.lex_no (Lx.n2 rfl rfl rfl) (fun K hK => ?_); go_simp; refine hK _ ?_; clear hK K)
                  | (refine Lx.lex_pure (v := ?_) rfl (by first | exact Lx.w0 rfl | exact Lx.w1 rfl rfl rfl (by with_reducible rfl)) ?_ (fun K hK => ?_); rotate_left 1; (intro w' hCw; (try dsimp only at hCw); go_simp; done); go_simp; refine hK _ ?_; clear hK K)
                  | (refine Lx.lex_pure (v := ?_) rfl (by first | exact Lx.w0 rfl | exact Lx.w1 rfl rfl rfl (by with_reducible rfl)) ?_ (fun K hK => ?_); rotate_left 1; (intro w' hCw; (try dsimp only at hCw); go_simp; with_reducible rfl); go_simp; refine hK _ ?_; clear hK K)
                  | (refine Lx.lex_read (v := ?_) rfl (by first | exact Lx.w0 rfl | exact Lx.w1 rfl rfl rfl (by with_reducible rfl)) ?_ (fun K hK => ?_); rotate_left 1; (go_simp; done); go_simp; refine hK _ ?_; clear hK K)
                  | (refine Lx.lex_read (v := ?_) rfl (by first | exact Lx.w0 rfl | exact Lx.w1 rfl rfl rfl (by with_reducible rfl)) ?_ (fun K hK => ?_); rotate_left 1; (go_simp; with_reducible rfl); go_simp; refine hK _ ?_; clear hK K)
                  | (refine Lx.lex_eff rfl (by first | exact Lx.w0 rfl | exact Lx.w1 rfl rfl rfl (by with_reducible rfl)) (fun K hK => ?_); go_simp; (first | (go_at_call_of 24 (Value.agg #[.int .i64 q.area, .int .i64 q.cat, .int .i64 q.sup, .int .i64 q.units, .int .i64 q.res]); refine (HN1.out _).mono ?_; rintro e w6 ⟨rfl, hb6⟩; have HB6 := Lib.hid hb6; have r0 := (hb6.cell (p := ⟨b, off + k * 5, none⟩) hbl).trans r0; have r1 := (hb6.cell (p := ⟨b, off + k * 5 + 1, none⟩) hbl).trans r1; have r2 := (hb6.cell (p := ⟨b, off + k * 5 + 2, none⟩) hbl).trans r2; have r3 := (hb6.cell (p := ⟨b, off + k * 5 + 3, none⟩) hbl).trans r3; have r4 := (hb6.cell (p := ⟨b, off + k * 5 + 4, none⟩) hbl).trans r4; have hbl := Nat.lt_of_lt_of_le hbl hb6.size; clear hb6) | (go_at_call_of 24 (Value.agg #[.int .i64 p.area, .int .i64 p.cat, .int .i64 p.sup, .int .i64 p.units, .int .i64 p.res]); refine (HN2'.out _).mono ?_; rintro e w7 ⟨rfl, hb7⟩; have HB7 := Lib.hid hb7; have r0 := (hb7.cell (p := ⟨b, off + k * 5, none⟩) hbl).trans r0; have r1 := (hb7.cell (p := ⟨b, off + k * 5 + 1, none⟩) hbl).trans r1; have r2 := (hb7.cell (p := ⟨b, off + k * 5 + 2, none⟩) hbl).trans r2; have r3 := (hb7.cell (p := ⟨b, off + k * 5 + 3, none⟩) hbl).trans r3; have r4 := (hb7.cell (p := ⟨b, off + k * 5 + 4, none⟩) hbl).trans r4; clear hb7) | skip); refine hK _ _ (by exact ⟨r0, r1, r2, r3, r4⟩) ?_; clear hK K)
                  | (refine Lx.lex_cases rfl rfl rfl (fun hgd K hK => ?_) (fun hgd K hK => ?_) <;> (try simp only [decide_eq_true_eq, decide_eq_false_iff_not] at hgd) <;> (first | (exfalso; omega) | (go_simp; refine hK _ ?_; clear hK K))))
                all_goals (refine Lx.lex_nil ?_)
                have BO7 : Hid (Below w5.heap.size w5 w7) := Lib.hid ((HWW.out.drew.trans (HB6.out.mono HWW.out.size)).trans (HB7.out.mono (Nat.le_trans HWW.out.size HB6.out.size)))
                clear HB6 HB7
                go_wp2_with fail
                go_roundw
                case rel => exact ⟨j + 1, by omega, by go_num, BO7.out⟩
                case measure => simp only [intOf]; omega
              · have BO6 : Hid (Below w2.heap.size w2 wr) := Lib.hid (BO5.out.trans (HWW.out.mono BO5.out.size))
                clear HW HWW
                go_wp2_with fail
                go_roundw
                case rel => exact ⟨k + 1, by omega, by go_num, BO6.out⟩
                case measure => simp only [intOf]; omega
          · have cA3 := (HW.cell (p := ⟨w.heap.size, 0, none⟩) (by dsimp only; omega)).trans cA2
            have cB3 := (HW.cell (p := ⟨w.heap.size + 1, 0, none⟩) L2).trans cB2
            have HA3 := Lib.hid (HA2.out.keep HW)
            have HB3 := Lib.hid (HB2.out.keep HW)
            have R3 := Lib.hid (R2.out.keep HW)
            have L3 : w.heap.size + 1 < wr.heap.size := Nat.lt_of_lt_of_le L2 HW.size
            have BW3 : Hid (Below w.heap.size w wr) := Lib.hid (BW2.out.trans (HW.mono BW2.out.size))
            clear HW HWW cA2 cB2 HA2 HB2 R2 L2 BW2
            by_cases hmo : mo < cl
            ·
              go_wp2_with fail
              refine (known_any _).mono ?_
              rintro e wz ⟨rfl, hbz⟩
              have BZ := BW3.out.trans (hbz.mono BW3.out.size)
              clear hbz
              go_wp2_with fail
              go_ret
              exact ⟨rfl, BZ⟩
            · obtain ⟨wo, rfl⟩ : ∃ wo : World, wo = wr := ⟨_, rfl⟩
              by_cases her2 : er2 = 0
              · have t2 : (er2 != 0) = false := by simpa using her2
                have HMO := Lib.hid (HM.out HER.out her2 (by omega))
                clear her2
                go_wp2_with fail
                refine (catalogue_any A B n c m d mo pr _ ar imps (by omega) (by omega) (by exact HA3.out) (by exact HB3.out)).mono ?_
                rw [HT2.out]
                rintro e w8 ⟨v2', rfl, ho2, hb8⟩
                obtain ⟨X2, e2, rfl, hr2⟩ := own_formS (by omega) ho2
                have R8 := Lib.hid (R3.out.keep hb8)
                have S8 := Lib.hid hr2
                have BW8 : Hid (Below w.heap.size w w8) := Lib.hid (BW3.out.trans (hb8.mono BW3.out.size))
                clear ho2 hr2 hb8 HA3 HB3 R3 BW3 cA3 cB3 L3
                go_wp2_with fail
                go_loopw [22] (fun i wr => ∃ k : Nat, k ≤ xs.length ∧ i = .int .i64 k ∧ Below w8.heap.size w8 wr) (fun i _ => xs.length - (intOf i).toNat)
                case atStart => exact ⟨0, Nat.zero_le _, rfl, Below.refl _ _⟩
                case round =>
                  obtain ⟨k2, hk2, rfl, HW⟩ := hrel
                  have HWW := Lib.hid HW
                  by_cases hlt2 : k2 < xs.length
                  · obtain ⟨p, hp, _⟩ := drop_at (xs := xs) (k := k2) hlt2
                    obtain ⟨k3, p', hp', hf, hu1, hu2, hu3⟩ := HMO.out p (List.mem_of_getElem? hp)
                    have RR := Lib.hid (R8.out.keep HW)
                    have SS := Lib.hid (S8.out.keep HW)
                    have hk3 : k3 < ys.length := (List.getElem?_eq_some_iff.1 hp').1
                    obtain ⟨b, off, rfl, hbl, hc⟩ := RR.out.2 (by omega)
                    obtain ⟨b2, off2, rfl, hbl2, hc2⟩ := SS.out.2 (by omega)
                    have q0 := hc k2 p hp 0 (by omega)
                    have q1 := hc k2 p hp 1 (by omega)
                    have q2 := hc k2 p hp 2 (by omega)
                    have q3 := hc k2 p hp 3 (by omega)
                    have q4 := hc k2 p hp 4 (by omega)
                    have y2 := hc2 k3 p' hp' 2 (by omega)
                    have y3 := hc2 k3 p' hp' 3 (by omega)
                    have y4 := hc2 k3 p' hp' 4 (by omega)
                    simp only [Prod.cell, Nat.add_zero] at q0 q1 q2 q3 q4 y2 y3 y4
                    rw [hu1] at y3
                    rw [hu2] at y4
                    have HF := Eqn.mk hf
                    have j0 : (0 : Int) ≤ (k2 : Int) := by omega
                    have j1 : (k2 : Int) < (xs.length : Int) := by omega
                    have j2 : (0 : Int) ≤ (k3 : Int) := by omega
                    have j3 : (k3 : Int) < (ys.length : Int) := by omega
                    have n1 : (p.units != p.units) = false := by simp
                    have n2 : (p.res != p.res) = false := by simp
                    have n3 : ¬ p'.sup < p.sup := by omega
                    clear hc hc2 hp hp' hf hu1 hu2 HW
                    obtain ⟨wq, rfl⟩ : ∃ wq : World, wq = wr := ⟨_, rfl⟩
                    go_wp2_with fail
                    refine Lx.region (C := fun _ => True) (hs := []) (by kernel_rfl) (by kernel_rfl) trivial ?_
                    repeat' (first
                      | (refine Lx.lex_no (Lx.n1 rfl rfl rfl (by with_reducible rfl)) (fun K hK => ?_); go_simp; refine hK _ ?_; clear hK K)
                      | (refine Lx.lex_no (Lx.n0 rfl rfl rfl (by with_reducible rfl)) (fun K hK => ?_); go_simp; refine hK _ ?_; clear hK K)
                      | (refine Lx.lex_no (Lx.n2 rfl rfl rfl) (fun K hK => ?_); go_simp; refine hK _ ?_; clear hK K)
                      | (refine Lx.lex_pure (v := ?_) rfl (by first | exact Lx.w0 rfl | exact Lx.w1 rfl rfl rfl (by with_reducible rfl)) ?_ (fun K hK => ?_); rotate_left 1; (intro w' hCw; (try dsimp only at hCw); go_simp; done); go_simp; refine hK _ ?_; clear hK K)
                      | (refine Lx.lex_pure (v := ?_) rfl (by first | exact Lx.w0 rfl | exact Lx.w1 rfl rfl rfl (by with_reducible rfl)) ?_ (fun K hK => ?_); rotate_left 1; (intro w' hCw; (try dsimp only at hCw); go_simp; with_reducible rfl); go_simp; refine hK _ ?_; clear hK K)
                      | (refine Lx.lex_read (v := ?_) rfl (by first | exact Lx.w0 rfl | exact Lx.w1 rfl rfl rfl (by with_reducible rfl)) ?_ (fun K hK => ?_); rotate_left 1; (go_simp; done); go_simp; refine hK _ ?_; clear hK K)
                      | (refine Lx.lex_read (v := ?_) rfl (by first | exact Lx.w0 rfl | exact Lx.w1 rfl rfl rfl (by with_reducible rfl)) ?_ (fun K hK => ?_); rotate_left 1; (go_simp; with_reducible rfl); go_simp; refine hK _ ?_; clear hK K)
                      | (refine Lx.lex_eff rfl (by first | exact Lx.w0 rfl | exact Lx.w1 rfl rfl rfl (by with_reducible rfl)) (fun K hK => ?_); go_simp; (first | (go_at_call 28; refine (find_any _ _ e2 _ _ _ ys (by omega) (by exact SS.out.keep (Below.refl _ _).drew)).mono ?_; rw [HF.out]; simp only [v2]; rintro e w9 ⟨rfl, hb9⟩) | skip); refine hK _ _ (trivial) ?_; clear hK K)
                      | (refine Lx.lex_cases rfl rfl rfl (fun hgd K hK => ?_) (fun hgd K hK => ?_) <;> (try simp only [decide_eq_true_eq, decide_eq_false_iff_not] at hgd) <;> (first | (exfalso; omega) | (go_simp; refine hK _ ?_; clear hK K))))
                    all_goals (refine Lx.lex_nil ?_)
                    have q2 := (hb9.cell (p := ⟨b, off + k2 * 5 + 2, none⟩) hbl).trans q2
                    have q3 := (hb9.cell (p := ⟨b, off + k2 * 5 + 3, none⟩) hbl).trans q3
                    have q4 := (hb9.cell (p := ⟨b, off + k2 * 5 + 4, none⟩) hbl).trans q4
                    have y2 := (hb9.cell (p := ⟨b2, off2 + k3 * 5 + 2, none⟩) hbl2).trans y2
                    have y3 := (hb9.cell (p := ⟨b2, off2 + k3 * 5 + 3, none⟩) hbl2).trans y3
                    have y4 := (hb9.cell (p := ⟨b2, off2 + k3 * 5 + 4, none⟩) hbl2).trans y4
                    have BO9 : Hid (Below w8.heap.size w8 w9) := Lib.hid (HWW.out.drew.trans (hb9.mono HWW.out.size))
                    clear hb9 RR SS HWW
                    go_wp2_with fail
                    refine Lx.region (C := fun _ => True) (hs := []) (by kernel_rfl) (by kernel_rfl) trivial ?_
                    repeat' (first
                      | (refine Lx.lex_no (Lx.n1 rfl rfl rfl (by with_reducible rfl)) (fun K hK => ?_); go_simp; refine hK _ ?_; clear hK K)
                      | (refine Lx.lex_no (Lx.n0 rfl rfl rfl (by with_reducible rfl)) (fun K hK => ?_); go_simp; refine hK _ ?_; clear hK K)
                      | (refine Lx.lex_no (Lx.n2 rfl rfl rfl) (fun K hK => ?_); go_simp; refine hK _ ?_; clear hK K)
                      | (refine Lx.lex_pure (v := ?_) rfl (by first | exact Lx.w0 rfl | exact Lx.w1 rfl rfl rfl (by with_reducible rfl)) ?_ (fun K hK => ?_); rotate_left 1; (intro w' hCw; (try dsimp only at hCw); go_simp; done); go_simp; refine hK _ ?_; clear hK K)
                      | (refine Lx.lex_pure (v := ?_) rfl (by first | exact Lx.w0 rfl | exact Lx.w1 rfl rfl rfl (by with_reducible rfl)) ?_ (fun K hK => ?_); rotate_left 1; (intro w' hCw; (try dsimp only at hCw); go_simp; with_reducible rfl); go_simp; refine hK _ ?_; clear hK K)
                      | (refine Lx.lex_read (v := ?_) rfl (by first | exact Lx.w0 rfl | exact Lx.w1 rfl rfl rfl (by with_reducible rfl)) ?_ (fun K hK => ?_); rotate_left 1; (go_simp; done); go_simp; refine hK _ ?_; clear hK K)
                      | (refine Lx.lex_read (v := ?_) rfl (by first | exact Lx.w0 rfl | exact Lx.w1 rfl rfl rfl (by with_reducible rfl)) ?_ (fun K hK => ?_); rotate_left 1; (go_simp; with_reducible rfl); go_simp; refine hK _ ?_; clear hK K)
                      | (refine Lx.lex_eff rfl (by first | exact Lx.w0 rfl | exact Lx.w1 rfl rfl rfl (by with_reducible rfl)) (fun K hK => ?_); go_simp; (first | fail | skip); refine hK _ _ (trivial) ?_; clear hK K)
                      | (refine Lx.lex_cases rfl rfl rfl (fun hgd K hK => ?_) (fun hgd K hK => ?_) <;> (try simp only [decide_eq_true_eq, decide_eq_false_iff_not] at hgd) <;> (first | (exfalso; omega) | (go_simp; refine hK _ ?_; clear hK K))))
                    all_goals (refine Lx.lex_nil ?_)
                    go_wp2_with fail
                    go_roundw
                    case rel => exact ⟨k2 + 1, by omega, by go_num, BO9.out.drew⟩
                    case measure => simp only [intOf]; omega
                  · have BW9 : Hid (Below w.heap.size w wr) := Lib.hid (BW8.out.trans (HW.mono BW8.out.size))
                    clear HW HWW
                    go_wp2_with fail
                    refine (known_any _).mono ?_
                    rintro e wz ⟨rfl, hbz⟩
                    have BZ := BW9.out.trans (hbz.mono BW9.out.size)
                    clear hbz
                    go_wp2_with fail
                    go_ret
                    exact ⟨rfl, BZ⟩
              · have t2 : (er2 != 0) = true := by simpa using her2
                have hys := HN2.out her2
                subst hys
                clear her2
                go_wp2_with fail
                refine (catalogue_any A B n c m d mo pr _ ar imps (by omega) (by omega) (by exact HA3.out) (by exact HB3.out)).mono ?_
                rw [HT2.out]
                rintro e w8 ⟨v2', rfl, ho2, hb8⟩
                obtain ⟨X2, e2, rfl, hr2⟩ := own_formS (by omega) ho2
                have BW8 : Hid (Below w.heap.size w w8) := Lib.hid (BW3.out.trans (hb8.mono BW3.out.size))
                clear ho2 hr2 hb8
                simp only [List.length_nil]
                go_wp2_with fail
                refine (known_any _).mono ?_
                rintro e wz ⟨rfl, hbz⟩
                have BZ := BW8.out.trans (hbz.mono BW8.out.size)
                clear hbz
                go_wp2_with fail
                go_ret
                exact ⟨rfl, BZ⟩
      · have t1 : (er != 0) = true := by simpa using her
        have hxs := HN.out her
        subst hxs
        clear her
        go_enter Tryd.func9, Tryd.ntmps9
        go_wp2_with fail
        refine (catalogue_any A B n c m d cl pr _ ar imps (by omega) (by omega) (by exact HA.out) (by exact HB.out)).mono ?_
        rw [HT.out]
        rintro e w1 ⟨v1, rfl, ho1, hb1⟩
        obtain ⟨X1, e1, rfl, hr1⟩ := own_formS (by omega) ho1
        have BW : Hid (Below w.heap.size w w1) := Lib.hid (B0.out.trans (hb1.mono B0.out.size))
        clear ho1 hr1 hb1
        simp only [List.length_nil]
        go_wp2_with fail
        refine (known_any _).mono ?_
        rintro e wz ⟨rfl, hbz⟩
        go_wp2_with fail
        go_ret
        exact ⟨rfl, BW.out.trans (hbz.mono BW.out.size)⟩
    · have d2 : (40 : Int) < (m : Int) := by omega
      go_enter Tryd.func9, Tryd.ntmps9
      go_wp2_with fail
      refine (known_any _).mono ?_
      rintro e wz ⟨rfl, hbz⟩
      have BZ := B0.out.trans (hbz.mono B0.out.size)
      clear hbz
      go_wp2_with fail
      go_ret
      exact ⟨rfl, BZ⟩
  · have d1 : (12 : Int) < (n : Int) := by omega
    go_enter Tryd.func9, Tryd.ntmps9
    go_wp2_with fail
    refine (known_any _).mono ?_
    rintro e wz ⟨rfl, hbz⟩
    have BZ := B0.out.trans (hbz.mono B0.out.size)
    clear hbz
    go_wp2_with fail
    go_ret
    exact ⟨rfl, BZ⟩
set_option maxRecDepth 100000 in
theorem productHolds_lifted (os : Os) (started : os.Started) (H : Type) (enc : TypeId × Value → H) :
    ReturnsInHanded {} Tryd.checked os 9 .any (fun w args => (Rows.productHoldsSpec.pre enc Tryd.prog Tryd.f9 [] false w args ∧ laidMetH Tryd.prog laid33 w) ∧ sizedMet enc Tryd.prog Tryd.f9 (OpenSpec.ofChange Rows.productHoldsSpec) false w args) (Rows.productHoldsSpec.post enc Tryd.prog Tryd.f9 false true false false) := by
  refine returnsInHanded_of_change_and (C := Tryd.checked) (X := fun w _ => laidMetH Tryd.prog laid33 w) (fun _ _ _ hh h => h.of_heap hh) own started (by kernel_rfl) Tryd.func9
    (ChangeSpec.witness_shaped (enc := enc) (C := Tryd.checked) (os := os) (X := fun w _ => laidMetH Tryd.prog laid33 w) false (World.laidAll Tryd.prog os laid33) #[.slice none 0 0, .slice none 0 0, .agg #[.int .i64 0], .agg #[.int .i64 0], .int .i64 0] 8 (World.laidAll_os _ _ _) (World.shaped_of_ZipB (by kernel_rfl) (by kernel_rfl)) (by kernel_rfl) (by kernel_rfl) (by kernel_rfl) (laidHold os _)) ?_
  intro W base args ds gs before hval0 hW hcnd _ _ _
  have hval : ∀ (j : Nat) t v, Tryd.f9.params[j]? = some t → args[j]? = some v → Value.okWide Tryd.prog W .any base t v := hval0
  have hW' := hW
  obtain ⟨p, q, hA0, hV, rfl, hfz, hnd⟩ := hW
  have hA : DataW.TrodAll enc Tryd.prog W 0 (fun _ => true) true Tryd.f9.params.toList args.toList ds p := hA0
  rw [Tryd.params9] at hA hval
  obtain ⟨v0, vs0, d0, ds0, p0, q0, hargs, rfl, rfl, h0, r0⟩ := trodAll_cons hA
  obtain ⟨v1, vs1, d1, ds1, p1, q1, rfl, rfl, rfl, h1, r1⟩ := trodAll_cons r0
  obtain ⟨v2, vs2, d2, ds2, p2, q2, rfl, rfl, rfl, h2, r2⟩ := trodAll_cons r1
  obtain ⟨v3, vs3, d3, ds3, p3, q3, rfl, rfl, rfl, h3, r3⟩ := trodAll_cons r2
  obtain ⟨v4, vs4, d4, ds4, p4, q4, rfl, rfl, rfl, h4, r4⟩ := trodAll_cons r3
  obtain ⟨rfl, rfl, rfl⟩ := trodAll_nil r4
  obtain rfl : args = #[v0, v1, v2, v3, v4] := by cases args; simp_all
  obtain ⟨rfl, rfl⟩ := trodVars_none hV
  have k0 := h0
  have lt0 : ∀ x ∈ p0, x.block < W.heap.size := by obtain ⟨m, hm⟩ := k0; exact DataW.trod_lt m _ _ _ hm
  have k1 := h1
  have lt1 : ∀ x ∈ p1, x.block < W.heap.size := by obtain ⟨m, hm⟩ := k1; exact DataW.trod_lt m _ _ _ hm
  have k2 := h2
  have lt2 : ∀ x ∈ p2, x.block < W.heap.size := by obtain ⟨m, hm⟩ := k2; exact DataW.trod_lt m _ _ _ hm
  have k3 := h3
  have lt3 : ∀ x ∈ p3, x.block < W.heap.size := by obtain ⟨m, hm⟩ := k3; exact DataW.trod_lt m _ _ _ hm
  have k4 := h4
  have lt4 : ∀ x ∈ p4, x.block < W.heap.size := by obtain ⟨m, hm⟩ := k4; exact DataW.trod_lt m _ _ _ hm
  obtain ⟨A0, n0, c0, xs0, rfl, R0⟩ := arg_areas (hval 0 29 _ rfl rfl) h0
  obtain ⟨A1, n1, c1, xs1, rfl, R1⟩ := arg_imps (hval 1 30 _ rfl rfl) h1
  obtain ⟨y2, rfl, R2⟩ := arg_target (hval 2 32 _ rfl rfl) h2
  obtain ⟨y3, rfl, R3⟩ := arg_target (hval 3 32 _ rfl rfl) h3
  obtain ⟨x4, rfl, b4⟩ := arg_int Tryd.underlying3 (hval 4 3 _ rfl rfl) h4
  clear hA0 hval0
  refine (productHolds_walk W A0 n0 c0 xs0 R0 A1 n1 c1 xs1 R1 y2 R2 y3 R3 x4 b4).mono fun e W' ⟨he, bel⟩ => ?_
  subst he
  exact ⟨_, rfl, _, _, _, [], _, [], hW', trodAll_mk1 (shut_bool Tryd.underlying4 _), (trodAll_cons_mk (Below.trod laidOut (by kernel_rfl) (of_decide_eq_true (by kernel_rfl)) k0 bel lt0) (trodAll_cons_mk (Below.trod laidOut (by kernel_rfl) (of_decide_eq_true (by kernel_rfl)) k1 bel lt1) (trodAll_cons_mk (Below.trod laidOut (by kernel_rfl) (of_decide_eq_true (by kernel_rfl)) k2 bel lt2) (trodAll_cons_mk (Below.trod laidOut (by kernel_rfl) (of_decide_eq_true (by kernel_rfl)) k3 bel lt3) (trodAll_cons_mk (Below.trod laidOut (by kernel_rfl) (of_decide_eq_true (by kernel_rfl)) k4 bel lt4) trodAll_mk0))))), rfl, bel.frame _, fun h => by cases h⟩

theorem productHolds_over : Rows.productHoldsRow.holds Tryd.pinned (OpenSpec.ofChange Rows.productHoldsSpec) :=
  OpenClaim.holds_of_wide 9 Tryd.f9 rfl rfl rfl rfl rfl rfl rfl ⟨rfl, rfl, rfl, rfl, rfl⟩ rfl rfl rfl rfl rfl (by kernel_rfl) Tryd.func9 (by kernel_rfl)
    (of_decide_eq_true (by kernel_rfl)) (by unfold Func.isWrapper; first | (rw [if_pos (by decide +kernel)]; kernel_rfl) | (rw [if_neg (by decide +kernel)]; exact ⟨rfl, rfl⟩))
    (fun os started H enc _ => productHolds_lifted os started H enc)

theorem productHoldsCard_holds : Rows.ProductHoldsCardSaid :=
  Claim7.holds_tied_plain_at .later [] [.data, .data, .data] true (true, "99b0a6eeb5f712185567425eb08b9b8cd25ece7f1515afd70c80bd1073e70de0") false
    productHolds_over (fun _ h => by cases h) (by kernel_rfl) (fun _ h => by cases h) productHolds_row_tie rfl ⟨rfl, rfl⟩ (by kernel_rfl) rfl
    (fun f fn hf hfn => by
      obtain rfl : f = 9 := Option.some.inj ((show Tryd.prog.funcNamed "bandplan/bandplanlaw33.ProductHolds" = some 9 by kernel_rfl).symm.trans hf) |>.symm
      obtain rfl : fn = Tryd.f9 := (Option.some.inj (Tryd.func9.symm.trans hfn)).symm
      exact ⟨by kernel_rfl, fun j t ht => by
        rw [Tryd.params9] at ht
        rcases j with _ | j
        · obtain rfl : t = 29 := by simpa using ht.symm
          exact (show Tryd.prog.wantsStandIn 29 = false by kernel_rfl)
        rcases j with _ | j
        · obtain rfl : t = 30 := by simpa using ht.symm
          exact (show Tryd.prog.wantsStandIn 30 = false by kernel_rfl)
        rcases j with _ | j
        · obtain rfl : t = 32 := by simpa using ht.symm
          exact (show Tryd.prog.wantsStandIn 32 = false by kernel_rfl)
        rcases j with _ | j
        · obtain rfl : t = 32 := by simpa using ht.symm
          exact (show Tryd.prog.wantsStandIn 32 = false by kernel_rfl)
        rcases j with _ | j
        · obtain rfl : t = 3 := by simpa using ht.symm
          exact (show Tryd.prog.wantsStandIn 3 = false by kernel_rfl)
        · simp at ht⟩)
    (by kernel_rfl)
#print axioms productHoldsCard_holds
end Go.Proofs.YtpgomblalmnonaaDoor
