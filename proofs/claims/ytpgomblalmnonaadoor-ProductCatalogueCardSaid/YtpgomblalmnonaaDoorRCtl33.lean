/- Contract of the reference's Catalogue. -/
import Derived.Test.YtpgomblalmnonaaDoorPlC33
import Derived.Test.YtpgomblalmnonaaDoorRBlk33
namespace Go.Proofs.YtpgomblalmnonaaDoor
open Go.RowKit

theorem hasA_snoc (ar : List Area) (k : Nat) (a : Area) (h : ar[k]? = some a) (x : Int) : hasA (ar.take (k + 1)) x = (hasA (ar.take k) x || decide (a.id = x)) := by
  unfold hasA
  rw [List.take_add_one, h]
  simp [List.any_append]

set_option maxHeartbeats 8000000 in
set_option maxRecDepth 100000 in
theorem rcatalogue_any (A B : Option Addr) (n c m d : Nat) (cl pr : Int) (w : World) (ar : List Area) (imps : List Imp) (hn : n ≤ 140) (hm : m ≤ 140) (ha : RowS 2 Area.cell w w.heap.size A n ar) (hi : RowS 3 Imp.cell w w.heap.size B m imps) :
    Calls Tryd.prog 16 #[.slice A n c, .slice B m d, .agg #[.int .i64 cl], .int .i64 pr] w (CtlPost (ctlF ar imps cl pr) w) := by
  have HA := Lib.hid ha
  have HI := Lib.hid hi
  have Hal := Eqn.mk ha.1
  have Hil := Eqn.mk hi.1
  clear ha hi
  have hL : Hid (Below w.heap.size w (w.alloc (.cells #[.int .i64 cl] 32))) := (Below.refl _ _).alloc (Nat.le_refl _) _
  cases h1 : areasF ar with
  | false =>
    have H1 := Eqn.mk h1
    have HF : Eqn (ctlF ar imps cl pr) ([], 2) := ctl_no (by rw [h1]; simp)
    clear h1
    go_enter Tryd.func16, Tryd.ntmps16
    go_wp2_with fail
    refine (rareas_any A n c ar _ hn (by exact HA.out.keep hL.out)).mono ?_
    rw [H1.out]
    rintro e w1 ⟨rfl, hb1⟩
    go_wp2_with fail
    go_ret2
    rw [HF.out]
    exact ⟨_, rfl, World.ownsRow_nil _ _ _ _, hL.out.trans (hb1.mono (by simp))⟩
  | true =>
    have H1 := Eqn.mk h1
    cases h2 : impsF imps with
    | false =>
      have H2 := Eqn.mk h2
      have HF : Eqn (ctlF ar imps cl pr) ([], 2) := ctl_no (by rw [h2]; simp)
      clear h1 h2
      go_enter Tryd.func16, Tryd.ntmps16
      go_wp2_with fail
      refine (rareas_any A n c ar _ hn (by exact HA.out.keep hL.out)).mono ?_
      rw [H1.out]
      rintro e w1 ⟨rfl, hb1⟩
      have B1 : Hid (Below w.heap.size w w1) := hL.out.trans (hb1.mono (by simp))
      clear hb1
      go_wp2_with fail
      refine (rimps_any B m d imps _ hm (by exact HI.out.keep B1.out)).mono ?_
      rw [H2.out]
      rintro e w2 ⟨rfl, hb2⟩
      go_wp2_with fail
      go_ret2
      rw [HF.out]
      exact ⟨_, rfl, World.ownsRow_nil _ _ _ _, B1.out.trans (hb2.mono B1.out.size)⟩
    | true =>
      have H2 := Eqn.mk h2
      by_cases hgood : vldT cl = true ∧ withinB pr 1 1000000 = true
      · obtain ⟨h3, h4⟩ := hgood
        have HAK := Lib.hid (areasGo_ok ar none h1)
        have HIV := Lib.hid h2
        have HF : Eqn (ctlF ar imps cl pr) (if knowB ar imps = true then (catalL ar imps (blkN cl).toNat pr, 0) else ([], 9)) := by
          unfold ctlF Eqn; rw [if_pos ⟨h1, h2, h3, h4⟩]
        have hpr : 1 ≤ pr ∧ pr ≤ 1000000 := by
          have := h4; unfold withinB at this; rw [Bool.and_eq_true, decide_eq_true_eq, decide_eq_true_eq] at this; exact this
        obtain ⟨p0, p1⟩ := hpr
        have p2 : ¬ pr < 1 := by omega
        have p3 : ¬ 1000000 < pr := by omega
        have hb0 := blkN_bd cl
        have hbn : ¬ blkN cl = 0 := by unfold vldT at h3; simpa using h3
        have hbz : (blkN cl == 0) = false := by simpa using hbn
        obtain ⟨nb, hnb⟩ := Int.eq_ofNat_of_zero_le hb0.1
        have hnb12 : nb ≤ 12 := by omega
        rw [hnb, Int.toNat_natCast] at HF
        have HNB := Eqn.mk hnb
        rw [hnb] at hbz
        clear h1 h2 h3 h4 hb0 hbn hnb
        go_enter Tryd.func16, Tryd.ntmps16
        go_wp2_with fail
        refine (rareas_any A n c ar _ hn (by exact HA.out.keep hL.out)).mono ?_
        rw [H1.out]
        rintro e w1 ⟨rfl, hb1⟩
        have B1 : Hid (Below w.heap.size w w1) := hL.out.trans (hb1.mono (by simp))
        have q1 := hb1.cell (p := ⟨w.heap.size, 0, none⟩) (by simp)
        rw [show (w.alloc (.cells #[.int .i64 cl] 32)).cell? ⟨w.heap.size, 0, none⟩ = some (.int .i64 cl) by go_simp] at q1
        have z1 : w.heap.size < w1.heap.size := by have := hb1.size; simp at this; omega
        clear hb1
        go_wp2_with fail
        refine (rimps_any B m d imps _ hm (by exact HI.out.keep B1.out)).mono ?_
        rw [H2.out]
        rintro e w2 ⟨rfl, hb2⟩
        have B2 : Hid (Below w.heap.size w w2) := B1.out.trans (hb2.mono B1.out.size)
        have q2 := (hb2.cell (p := ⟨w.heap.size, 0, none⟩) z1).trans q1
        have z2 : w.heap.size < w2.heap.size := Nat.lt_of_lt_of_le z1 hb2.size
        clear hb2 q1
        go_wp2_with fail
        refine (rblocks_any cl _).mono ?_
        rw [HNB.out]
        rintro e w3 ⟨rfl, hb3⟩
        have B3 : Hid (Below w.heap.size w w3) := B2.out.trans (hb3.mono B2.out.size)
        have q3 := (hb3.cell (p := ⟨w.heap.size, 0, none⟩) z2).trans q2
        have z3 : w.heap.size < w3.heap.size := Nat.lt_of_lt_of_le z2 hb3.size
        clear hb3 q2
        have B3z := Lib.hid (Nat.le_of_lt z3)
        have Q3 := Lib.hid q3
        clear q3
        go_wp2_with fail
        go_loopw [10] (fun i wr => ∃ k : Nat, k ≤ m ∧ i = .int .i64 k ∧ Eqn (knowB ar imps) (knowB ar (imps.drop k)) ∧ Below w3.heap.size w3 wr) (fun i _ => m - (intOf i).toNat)
        case atStart => exact ⟨0, Nat.zero_le _, rfl, rfl, Below.refl _ _⟩
        case round =>
          obtain ⟨k, hk, rfl, HR, HW⟩ := hrel
          obtain ⟨wo, rfl⟩ : ∃ wo : World, wo = wr := ⟨_, rfl⟩
          have HWW := Lib.hid HW
          by_cases hlt : k < m
          · obtain ⟨p, hp, hpd⟩ := drop_at (xs := imps) (k := k) (by rw [Hil.out]; exact hlt)
            have HR' : Eqn (knowB ar imps) (if hasA ar p.area = false then false else knowB ar (imps.drop (k + 1))) := by
              rw [Eqn, HR.out, hpd, knowB]
            have HP := Lib.hid hp
            have j0 : (0 : Int) ≤ (k : Int) := by omega
            have j1 : (k : Int) < (m : Int) := by omega
            clear hp hpd HR HW
            go_wp2_with fail
            go_loopw [11, 12] (fun t i wr => ∃ (j : Nat) (th : Bool), j ≤ n ∧ i = .int .i64 j ∧ t = .bool th ∧ Eqn th (hasA (ar.take j) p.area) ∧ Below w3.heap.size w3 wr) (fun _ i _ => n - (intOf i).toNat)
            case atStart => exact ⟨0, false, Nat.zero_le _, rfl, rfl, rfl, HWW.out⟩
            case round =>
              obtain ⟨j, th, hj, rfl, rfl, HT, HY⟩ := hrel
              have HYY := Lib.hid HY
              have HYW : Hid (Below w.heap.size w wr) := B3.out.trans (HY.mono B3z.out)
              by_cases hlt2 : j < n
              · obtain ⟨a, hp, hpd⟩ := drop_at (xs := ar) (k := j) (by rw [Hal.out]; exact hlt2)
                obtain ⟨b, off, rfl, hbl, hc⟩ := (HA.out.below HYW.out).2 (by omega)
                obtain ⟨b', off', rfl, hbl', hc'⟩ := (HI.out.below HYW.out).2 (by omega)
                have c0 := hc j a hp 0 (by omega)
                have d0 := hc' k p HP.out 0 (by omega)
                simp only [Area.cell, Imp.cell, Nat.add_zero] at c0 d0
                have HSN := hasA_snoc ar j a hp p.area
                have i0 : (0 : Int) ≤ (j : Int) := by omega
                have i1 : (j : Int) < (n : Int) := by omega
                by_cases he : a.id = p.area
                · have t1 : (a.id == p.area) = true := by simpa using he
                  have HT2 : Eqn true (hasA (ar.take (j + 1)) p.area) := by rw [Eqn, HSN, decide_eq_true he]; simp
                  clear hc hc' hp hpd HY HSN he HT
                  go_wp2_with fail
                  refine Lx.region (C := fun _ => True) (hs := []) (by kernel_rfl) (by kernel_rfl) trivial ?_
                  repeat' (first
                    | (refine Lx.lex_no (Lx.n1 rfl rfl rfl (by with_reducible rfl)) (fun K hK => ?_); go_simp; refine hK _ ?_; clear hK K)
                    | (refine Lx.lex_no (Lx.n0 rfl rfl rfl (by with_reducible rfl)) (fun K hK => ?_); go_simp; refine hK _ ?_; clear hK K)
                    | (refine Lx.lex_no (Lx.n2 rfl rfl rfl) (fun K hK => ?_); go_simp; refine hK _ ?_; clear hK K)
                    | (refine Lx.lex_pure (v := ?_) rfl (by first | exact Lx.w0 rfl | exact Lx.w1 rfl rfl rfl (by with_reducible rfl)) ?_ (fun K hK => ?_); rotate_left 1; (intro w' hCw; (try dsimp only at hCw); go_simp; done); go_simp; refine hK _ ?_; clear hK K)
                    | (refine Lx.lex_pure (v := ?_) rfl (by first | exact Lx.w0 rfl | exact Lx.w1 rfl rfl rfl (by with_reducible rfl)) ?_ (fun K hK => ?_); rotate_left 1; (intro w' hCw; (try dsimp only at hCw); go_simp; with_reducible rfl); go_simp; refine hK _ ?_; clear hK K)
                    | (refine Lx.lex_read (v := ?_) rfl (by first | exact Lx.w0 rfl | exact Lx.w1 rfl rfl rfl (by with_reducible rfl)) ?_ (fun K hK => ?_); rotate_left 1; (go_simp; done); go_simp; refine hK _ ?_; clear hK K)
                    | (refine Lx.lex_read (v := ?_) rfl (by first | exact Lx.w0 rfl | exact Lx.w1 rfl rfl rfl (by with_reducible rfl)) ?_ (fun K hK => ?_); rotate_left 1; (go_simp; with_reducible rfl); go_simp; refine hK _ ?_; clear hK K)
                    | (refine Lx.lex_eff rfl (by first | exact Lx.w0 rfl | exact Lx.w1 rfl rfl rfl (by with_reducible rfl)) (fun K hK => ?_); go_simp; (first | fail | skip); refine hK _ _ (trivial) ?_; clear hK K)
                    | (refine Lx.lex_cases rfl rfl rfl (fun hgd K hK => ?_) (fun hgd K hK => ?_) <;> (try simp only [decide_eq_true_eq, decide_eq_false_iff_not] at hgd) <;> (first | (exfalso; omega) | (go_simp; refine hK _ ?_; clear hK K))))
                  all_goals (refine Lx.lex_nil ?_)
                  go_wp2_with fail
                  go_roundw
                  case rel => exact ⟨j + 1, true, by omega, by go_num, rfl, HT2, HYY.out.drew⟩
                  case measure => simp [intOf]; omega
                · have t1 : (a.id == p.area) = false := by simpa using he
                  have HT2 : Eqn th (hasA (ar.take (j + 1)) p.area) := by rw [Eqn, HSN, decide_eq_false he, HT.out]; simp
                  clear hc hc' hp hpd HY HSN he HT
                  go_wp2_with fail
                  refine Lx.region (C := fun _ => True) (hs := []) (by kernel_rfl) (by kernel_rfl) trivial ?_
                  repeat' (first
                    | (refine Lx.lex_no (Lx.n1 rfl rfl rfl (by with_reducible rfl)) (fun K hK => ?_); go_simp; refine hK _ ?_; clear hK K)
                    | (refine Lx.lex_no (Lx.n0 rfl rfl rfl (by with_reducible rfl)) (fun K hK => ?_); go_simp; refine hK _ ?_; clear hK K)
                    | (refine Lx.lex_no (Lx.n2 rfl rfl rfl) (fun K hK => ?_); go_simp; refine hK _ ?_; clear hK K)
                    | (refine Lx.lex_pure (v := ?_) rfl (by first | exact Lx.w0 rfl | exact Lx.w1 rfl rfl rfl (by with_reducible rfl)) ?_ (fun K hK => ?_); rotate_left 1; (intro w' hCw; (try dsimp only at hCw); go_simp; done); go_simp; refine hK _ ?_; clear hK K)
                    | (refine Lx.lex_pure (v := ?_) rfl (by first | exact Lx.w0 rfl | exact Lx.w1 rfl rfl rfl (by with_reducible rfl)) ?_ (fun K hK => ?_); rotate_left 1; (intro w' hCw; (try dsimp only at hCw); go_simp; with_reducible rfl); go_simp; refine hK _ ?_; clear hK K)
                    | (refine Lx.lex_read (v := ?_) rfl (by first | exact Lx.w0 rfl | exact Lx.w1 rfl rfl rfl (by with_reducible rfl)) ?_ (fun K hK => ?_); rotate_left 1; (go_simp; done); go_simp; refine hK _ ?_; clear hK K)
                    | (refine Lx.lex_read (v := ?_) rfl (by first | exact Lx.w0 rfl | exact Lx.w1 rfl rfl rfl (by with_reducible rfl)) ?_ (fun K hK => ?_); rotate_left 1; (go_simp; with_reducible rfl); go_simp; refine hK _ ?_; clear hK K)
                    | (refine Lx.lex_eff rfl (by first | exact Lx.w0 rfl | exact Lx.w1 rfl rfl rfl (by with_reducible rfl)) (fun K hK => ?_); go_simp; (first | fail | skip); refine hK _ _ (trivial) ?_; clear hK K)
                    | (refine Lx.lex_cases rfl rfl rfl (fun hgd K hK => ?_) (fun hgd K hK => ?_) <;> (try simp only [decide_eq_true_eq, decide_eq_false_iff_not] at hgd) <;> (first | (exfalso; omega) | (go_simp; refine hK _ ?_; clear hK K))))
                  all_goals (refine Lx.lex_nil ?_)
                  go_wp2_with fail
                  go_roundw
                  case rel => exact ⟨j + 1, th, by omega, by go_num, rfl, HT2, HYY.out.drew⟩
                  case measure => simp [intOf]; omega
              · have HTE : th = hasA ar p.area := by
                  rw [HT.out, List.take_of_length_le (by rw [Hal.out]; omega)]
                clear HY HT
                cases th with
                | false =>
                  have HK : Eqn (ctlF ar imps cl pr) ([], 9) := by rw [Eqn, HF.out, HR'.out, if_pos HTE.symm]; rfl
                  clear HTE HR'
                  go_wp2_with fail
                  go_ret2
                  rw [HK.out]
                  exact ⟨_, rfl, World.ownsRow_nil _ _ _ _, HYW.out⟩
                | true =>
                  have HR2 : Eqn (knowB ar imps) (knowB ar (imps.drop (k + 1))) := by rw [Eqn, HR'.out, if_neg (by rw [← HTE]; simp)]
                  clear HTE HR'
                  go_wp2_with fail
                  go_roundw
                  case rel => exact ⟨k + 1, by omega, by go_num, HR2, HYY.out⟩
                  case measure => simp [intOf]; omega
          · have HK : Eqn (ctlF ar imps cl pr) (catalL ar imps nb pr, 0) := by
              have : knowB ar imps = true := by rw [HR.out, drop_end (by rw [Hil.out]; omega)]; rfl
              rw [Eqn, HF.out, this]; rfl
            obtain ⟨i0, hi0, hz0, hz1, hz2⟩ := info_parts prod_info
            clear HR HW HF
            go_wp2_with fail
            go_loopw [13, 14] (fun v i wr => ∃ k : Nat, k ≤ n ∧ i = .int .i64 k ∧ wr.ownsRow w3.heap.size 48 5 v (catalL (ar.take k) imps nb pr).length (flat 5 Prod.cell (catalL (ar.take k) imps nb pr)) ∧ Below w3.heap.size w3 wr) (fun _ i _ => n - (intOf i).toNat)
            case atStart => exact ⟨0, Nat.zero_le _, rfl, World.ownsRow_nil _ _ _ _, HWW.out⟩
            case round =>
              obtain ⟨k3, hk3, rfl, HO, HW⟩ := hrel
              obtain ⟨wp, rfl⟩ : ∃ wp : World, wp = wr := ⟨_, rfl⟩
              have HWW := Lib.hid HW
              have HOO := Lib.hid HO
              have HBW : Hid (Below w.heap.size w wp) := B3.out.trans (HW.mono B3z.out)
              by_cases hlt3 : k3 < n
              · obtain ⟨a, hp, hpd⟩ := drop_at (xs := ar) (k := k3) (by rw [Hal.out]; exact hlt3)
                obtain ⟨b, off, rfl, hbl, hc⟩ := (HA.out.below HBW.out).2 (by omega)
                have c1 := hc k3 a hp 1 (by omega)
                simp only [Area.cell] at c1
                have hbad := HAK.out a (List.mem_of_getElem? hp)
                unfold badA at hbad
                obtain ⟨u1, u2, u3, u4⟩ := uniF_bd (n := a.people) (by omega) (by omega)
                have HUN : Eqn (v2 (uniF a.people)) (.tuple #[.int .i64 (uniF a.people).1, .int .i64 0]) := by unfold v2 Eqn; rw [u2]
                have HSN := Eqn.mk (catal_snoc imps nb pr ar k3 a hp)
                have hcl := catal_len imps nb pr (ar.take k3)
                have hcl2 : (catalL (ar.take k3) imps nb pr).length ≤ 280 := by
                  have : (ar.take k3).length ≤ k3 := List.length_take_le _ _
                  omega
                have HPA : Eqn (prodsA imps nb pr a) (prodsU a (uniF a.people).1 pr (countsF a.id nb imps) 3) := rfl
                rw [HPA.out] at HSN
                generalize (uniF a.people).1 = uu at *
                have HCR := Lib.hid (fun c hc => counts_ref (area := a.id) HIV.out hnb12 c hc)
                have HPk := Lib.hid hp
                generalize hns : countsF a.id nb imps = ns at *
                have j0 : (0 : Int) ≤ (k3 : Int) := by omega
                have j1 : (k3 : Int) < (n : Int) := by omega
                clear hc hp hpd hbad HW HO HPA u1 u2 hcl hns
                go_wp2_with fail
                refine (runits33_any a.people _).mono ?_
                rw [HUN.out]
                rintro e w' ⟨rfl, rfl⟩
                go_wp2_with fail
                generalize hbase : catalL (ar.take k3) imps nb pr = base at *
                clear hbase
                go_loopw [13, 17] (fun v i wr => ∃ cc : Nat, 1 ≤ cc ∧ cc ≤ 3 ∧ i = .int .i64 cc ∧ Hid (wr.ownsRow w3.heap.size 48 5 v (base ++ prodsU a uu pr ns cc).length (flat 5 Prod.cell (base ++ prodsU a uu pr ns cc))) ∧ Below w3.heap.size w3 wr) (fun _ i _ => 3 - (intOf i).toNat)
                case atStart => exact ⟨1, by omega, by omega, rfl, (Lib.hid (by simpa [prodsU] using HOO.out)), HWW.out⟩
                case round =>
                  obtain ⟨cc, hc1, hc2, rfl, HX, HY⟩ := hrel
                  obtain ⟨wq, rfl⟩ : ∃ wq : World, wq = wr := ⟨_, rfl⟩
                  have HYY := Lib.hid HY
                  by_cases hlt4 : cc < 3
                  · have k1 : (cc : Int) ≤ 2 := by omega
                    have k0 : (0 : Int) ≤ (cc : Int) := by omega
                    clear HY
                    go_wp2_with fail
                    go_loopw [18, 19] (fun t i wr => ∃ (bb : Nat) (acc : Int), bb ≤ nb ∧ i = .int .i64 bb ∧ t = .int .i64 acc ∧ 0 ≤ acc ∧ acc ≤ bb ∧ Eqn acc (cntC cc (pctL a.id imps bb)) ∧ Below wq.heap.size wq wr) (fun _ i _ => nb - (intOf i).toNat)
                    case atStart => exact ⟨0, 0, Nat.zero_le _, rfl, rfl, Int.le_refl _, by omega, rfl, Below.refl _ _⟩
                    case round =>
                      obtain ⟨bb, acc, hbb, rfl, rfl, a0, a1, HT, HZ⟩ := hrel
                      have HZZ := Lib.hid HZ
                      have HZ3 : Hid (Below w3.heap.size w3 wr) := HYY.out.trans (HZ.mono HYY.out.size)
                      have HZW : Hid (Below w.heap.size w wr) := B3.out.trans (HZ3.out.mono B3z.out)
                      have qc := (HZ3.out.cell (p := ⟨w.heap.size, 0, none⟩) z3).trans Q3.out
                      clear HZ
                      go_wp2_with fail
                      refine (rblocks_any cl _).mono ?_
                      rw [HNB.out]
                      rintro e w4 ⟨rfl, hb4⟩
                      have HZ4 : Hid (Below wq.heap.size wq w4) := HZZ.out.trans (hb4.mono HZZ.out.size)
                      have HW4 : Hid (Below w.heap.size w w4) := HZW.out.trans (hb4.mono HZW.out.size)
                      clear hb4 qc
                      by_cases hlt5 : bb < nb
                      · obtain ⟨b2, off2, hA2, hbl2, hc2'⟩ := (HA.out.below HW4.out).2 (by omega)
                        injection hA2 with hA2
                        injection hA2 with hA3 hA4 _
                        subst hA3 hA4
                        have c0 := hc2' k3 a HPk.out 0 (by omega)
                        simp only [Area.cell, Nat.add_zero] at c0
                        have l1 : (bb : Int) < (nb : Int) := by omega
                        have HT2 := cntC_snoc cc (pctL a.id imps bb) (pctF a.id bb imps)
                        rw [← pctL_snoc] at HT2
                        obtain ⟨kk, er, hkk⟩ : ∃ kk er, catF (pctF a.id bb imps) = (kk, er) := ⟨_, _, rfl⟩
                        have HQ : Eqn (v2 (catF (pctF a.id bb imps))) (.tuple #[.int .i64 kk, .int .i64 er]) := by unfold v2 Eqn; rw [hkk]
                        rw [hkk] at HT2
                        dsimp only at HT2
                        clear hc2' hkk
                        by_cases hkc : kk = cc
                        · have t1 : (kk == (cc : Int)) = true := by simpa using hkc
                          have HT3 : Eqn (acc + 1) (cntC cc (pctL a.id imps (bb + 1))) := by rw [Eqn, HT2, if_pos hkc, HT.out]
                          clear HT2 hkc HT
                          go_wp2_with fail
                          refine (percent_any B m d a.id bb imps _ w.heap.size hm (by exact HI.out.below HW4.out)).mono ?_
                          rintro e w' ⟨rfl, rfl⟩
                          go_wp2_with fail
                          refine (rcategory_any _ _).mono ?_
                          rw [HQ.out]
                          rintro e w' ⟨rfl, rfl⟩
                          go_wp2_with fail
                          go_roundw
                          case rel => exact ⟨bb + 1, acc + 1, by omega, by go_num, rfl, by omega, by omega, HT3, HZ4.out⟩
                          case measure => simp [intOf]; omega
                        · have t1 : (kk == (cc : Int)) = false := by simpa using hkc
                          have HT3 : Eqn acc (cntC cc (pctL a.id imps (bb + 1))) := by rw [Eqn, HT2, if_neg hkc, HT.out]; omega
                          clear HT2 hkc HT
                          go_wp2_with fail
                          refine (percent_any B m d a.id bb imps _ w.heap.size hm (by exact HI.out.below HW4.out)).mono ?_
                          rintro e w' ⟨rfl, rfl⟩
                          go_wp2_with fail
                          refine (rcategory_any _ _).mono ?_
                          rw [HQ.out]
                          rintro e w' ⟨rfl, rfl⟩
                          go_wp2_with fail
                          go_roundw
                          case rel => exact ⟨bb + 1, acc, by omega, by go_num, rfl, by omega, by omega, HT3, HZ4.out⟩
                          case measure => simp [intOf]; omega
                      · have l1 : ¬ (bb : Int) < (nb : Int) := by omega
                        have HAC : Eqn (ns.getD cc 0) acc := by
                          have hbn : bb = nb := by omega
                          rw [Eqn, HCR.out cc (by omega), HT.out, hbn]
                        have HU := prodsU_succ a uu pr ns cc hc1
                        rw [HAC.out] at HU
                        have HX4 := Lib.hid (own_keep HX.out HZ4.out)
                        have HY4 : Hid (Below w3.heap.size w3 w4) := HYY.out.trans (HZ4.out.mono HYY.out.size)
                        have hy4 := HY4.out.size
                        clear HT
                        by_cases hy0 : 0 < acc
                        · have HU2 : Eqn (prodsU a uu pr ns (cc + 1)) (prodsU a uu pr ns cc ++ [⟨a.id, cc, acc, uu, uu * pr / cc⟩]) := by
                            rw [Eqn, HU, if_pos hy0]; unfold prodC; rw [HAC.out]
                          obtain ⟨m1, m2⟩ : 0 ≤ uu * pr ∧ uu * pr ≤ 81921 * 1000000 := ⟨Int.mul_nonneg (by omega) (by omega), Int.mul_le_mul u4 p1 (by omega) (by omega)⟩
                          have e1 : IntKind.i64.wrap (uu * pr) = uu * pr := by rw [IntKind.wrap_i64]; omega
                          have e3 : IntKind.i64.wrap ((uu * pr).tdiv (cc : Int)) = uu * pr / (cc : Int) := IntWalk.i64_quo _ _ (by omega)
                          have hzc : ¬ cc = 0 := by omega
                          have hzd : ((cc : Int) == 0) = false := by simp; omega
                          have hpl : (prodsU a uu pr ns cc).length ≤ 2 := by
                            have h3 : cc = 1 ∨ cc = 2 := by omega
                            rcases h3 with rfl | rfl
                            · simp [prodsU]
                            · simp only [prodsU, List.nil_append]; split <;> simp
                          have hLL : (base ++ prodsU a uu pr ns cc).length ≤ 282 := by rw [List.length_append]; omega
                          obtain ⟨b2, off2, hA2, hbl2, hc2'⟩ := (HA.out.below HW4.out).2 (by omega)
                          injection hA2 with hA2
                          injection hA2 with hA3 hA4 _
                          subst hA3 hA4
                          have c0 := hc2' k3 a HPk.out 0 (by omega)
                          simp only [Area.cell, Nat.add_zero] at c0
                          clear hc2' HU hpl
                          go_wp2_with fail
                          refine Lx.region (C := fun _ => True) (hs := []) (by kernel_rfl) (by kernel_rfl) trivial ?_
                          repeat' (first
                            | (refine Lx.lex_no (Lx.n1 rfl rfl rfl (by with_reducible rfl)) (fun K hK => ?_); go_simp; refine hK _ ?_; clear hK K)
                            | (refine Lx.lex_no (Lx.n0 rfl rfl rfl (by with_reducible rfl)) (fun K hK => ?_); go_simp; refine hK _ ?_; clear hK K)
                            | (refine Lx.lex_no (Lx.n2 rfl rfl rfl) (fun K hK => ?_); go_simp; refine hK _ ?_; clear hK K)
                            | (refine Lx.lex_pure (v := ?_) rfl (by first | exact Lx.w0 rfl | exact Lx.w1 rfl rfl rfl (by with_reducible rfl)) ?_ (fun K hK => ?_); rotate_left 1; (intro w' hCw; (try dsimp only at hCw); go_simp; done); go_simp; refine hK _ ?_; clear hK K)
                            | (refine Lx.lex_pure (v := ?_) rfl (by first | exact Lx.w0 rfl | exact Lx.w1 rfl rfl rfl (by with_reducible rfl)) ?_ (fun K hK => ?_); rotate_left 1; (intro w' hCw; (try dsimp only at hCw); go_simp; with_reducible rfl); go_simp; refine hK _ ?_; clear hK K)
                            | (refine Lx.lex_read (v := ?_) rfl (by first | exact Lx.w0 rfl | exact Lx.w1 rfl rfl rfl (by with_reducible rfl)) ?_ (fun K hK => ?_); rotate_left 1; (go_simp; done); go_simp; refine hK _ ?_; clear hK K)
                            | (refine Lx.lex_read (v := ?_) rfl (by first | exact Lx.w0 rfl | exact Lx.w1 rfl rfl rfl (by with_reducible rfl)) ?_ (fun K hK => ?_); rotate_left 1; (go_simp; with_reducible rfl); go_simp; refine hK _ ?_; clear hK K)
                            | (refine Lx.lex_eff rfl (by first | exact Lx.w0 rfl | exact Lx.w1 rfl rfl rfl (by with_reducible rfl)) (fun K hK => ?_); go_simp; (first | fail | skip); refine hK _ _ (trivial) ?_; clear hK K)
                            | (refine Lx.lex_cases rfl rfl rfl (fun hgd K hK => ?_) (fun hgd K hK => ?_) <;> (try simp only [decide_eq_true_eq, decide_eq_false_iff_not] at hgd) <;> (first | (exfalso; omega) | (go_simp; refine hK _ ?_; clear hK K))))
                          refine Lx.lex_append rfl rfl _ _ 33 rfl w3.heap.size 48 i0 (.agg #[.int .i64 0, .int .i64 0, .int .i64 0, .int .i64 0, .int .i64 0]) 5 40 Tryd.underlying33 hi0 hz0 hz1 hz2 rfl (by decide) _ _ _ rfl (by exact (HX4.out.alloc _).drew) ⟨w4.heap.size, 0, none⟩ 1 1 [.int .i64 a.id, .int .i64 (cc : Int), .int .i64 acc, .int .i64 uu, .int .i64 (uu * pr / (cc : Int))] rfl rfl ?_ (by simp [Value.oneCell']) (by unfold maxLen; omega) (by omega) (by simp; omega) ?_
                          · exact cells_new w4 #[.int .i64 a.id, .int .i64 (cc : Int), .int .i64 acc, .int .i64 uu, .int .i64 (uu * pr / (cc : Int))] 48
                          · intro v' w8 hown8 hgrow8 _
                            refine ⟨trivial, ?_⟩
                            clear e1 e3
                            repeat' (first
                              | (refine Lx.lex_no (Lx.n1 rfl rfl rfl (by with_reducible rfl)) (fun K hK => ?_); go_simp; refine hK _ ?_; clear hK K)
                              | (refine Lx.lex_no (Lx.n0 rfl rfl rfl (by with_reducible rfl)) (fun K hK => ?_); go_simp; refine hK _ ?_; clear hK K)
                              | (refine Lx.lex_no (Lx.n2 rfl rfl rfl) (fun K hK => ?_); go_simp; refine hK _ ?_; clear hK K)
                              | (refine Lx.lex_pure (v := ?_) rfl (by first | exact Lx.w0 rfl | exact Lx.w1 rfl rfl rfl (by with_reducible rfl)) ?_ (fun K hK => ?_); rotate_left 1; (intro w' hCw; (try dsimp only at hCw); go_simp; done); go_simp; refine hK _ ?_; clear hK K)
                              | (refine Lx.lex_pure (v := ?_) rfl (by first | exact Lx.w0 rfl | exact Lx.w1 rfl rfl rfl (by with_reducible rfl)) ?_ (fun K hK => ?_); rotate_left 1; (intro w' hCw; (try dsimp only at hCw); go_simp; with_reducible rfl); go_simp; refine hK _ ?_; clear hK K)
                              | (refine Lx.lex_read (v := ?_) rfl (by first | exact Lx.w0 rfl | exact Lx.w1 rfl rfl rfl (by with_reducible rfl)) ?_ (fun K hK => ?_); rotate_left 1; (go_simp; done); go_simp; refine hK _ ?_; clear hK K)
                              | (refine Lx.lex_read (v := ?_) rfl (by first | exact Lx.w0 rfl | exact Lx.w1 rfl rfl rfl (by with_reducible rfl)) ?_ (fun K hK => ?_); rotate_left 1; (go_simp; with_reducible rfl); go_simp; refine hK _ ?_; clear hK K)
                              | (refine Lx.lex_eff rfl (by first | exact Lx.w0 rfl | exact Lx.w1 rfl rfl rfl (by with_reducible rfl)) (fun K hK => ?_); go_simp; (first | fail | skip); refine hK _ _ (trivial) ?_; clear hK K)
                              | (refine Lx.lex_cases rfl rfl rfl (fun hgd K hK => ?_) (fun hgd K hK => ?_) <;> (try simp only [decide_eq_true_eq, decide_eq_false_iff_not] at hgd) <;> (first | (exfalso; omega) | (go_simp; refine hK _ ?_; clear hK K))))
                            all_goals (refine Lx.lex_nil ?_)
                            go_wp2_with fail
                            go_roundw
                            case rel =>
                              refine ⟨cc + 1, by omega, by omega, by go_num, ?_, ((HY4.out.alloc hy4 _).drew).grown hgrow8 (by simp; omega) (own_ge HX4.out)⟩
                              rw [HU2.out, ← List.append_assoc, List.length_append, flat_app]
                              exact hown8
                            case measure => simp [intOf]; omega
                        · have HU2 : Eqn (prodsU a uu pr ns (cc + 1)) (prodsU a uu pr ns cc) := by
                            rw [Eqn, HU, if_neg hy0, List.append_nil]
                          clear HU
                          go_wp2_with fail
                          go_roundw
                          case rel => exact ⟨cc + 1, by omega, by omega, by go_num, by rw [HU2.out]; exact HX4.out, HY4.out⟩
                          case measure => simp [intOf]; omega
                  · have hcc : cc = 3 := by omega
                    have HO2 : Hid (wq.ownsRow w3.heap.size 48 5 u13 (base ++ prodsU a uu pr ns 3).length (flat 5 Prod.cell (base ++ prodsU a uu pr ns 3))) := by rw [← hcc]; exact HX.out
                    have k1 : ¬ (cc : Int) ≤ 2 := by omega
                    clear HX HY hcc
                    go_wp2_with fail
                    go_roundw
                    case rel => exact ⟨k3 + 1, by omega, by go_num, by rw [HSN.out]; exact HO2.out, HYY.out⟩
                    case measure => simp [intOf]; omega
              · have hkn : k3 = n := by omega
                clear HO HW
                go_wp2_with fail
                go_ret2
                rw [HK.out]
                refine ⟨_, rfl, ?_, HBW.out⟩
                have := HOO.out
                rw [hkn, List.take_of_length_le (by rw [Hal.out]; omega)] at this
                exact own_low this B3z.out
      · have HF : Eqn (ctlF ar imps cl pr) ([], 2) := ctl_no (fun h => hgood h.2.2)
        have hb2 : (blkN cl == 0) = true ∨ ((blkN cl == 0) = false ∧ (pr < 1 ∨ (¬ pr < 1 ∧ 1000000 < pr))) := by
          by_cases h0 : blkN cl = 0
          · left; simpa using h0
          · right
            refine ⟨by simpa using h0, ?_⟩
            by_cases hp1 : pr < 1
            · exact .inl hp1
            · right
              refine ⟨hp1, ?_⟩
              apply Int.not_le.1
              intro hp2
              exact hgood ⟨by unfold vldT; simpa using h0, withinB_true (by omega) hp2⟩
        clear h1 h2 hgood
        go_enter Tryd.func16, Tryd.ntmps16
        go_wp2_with fail
        refine (rareas_any A n c ar _ hn (by exact HA.out.keep hL.out)).mono ?_
        rw [H1.out]
        rintro e w1 ⟨rfl, hb1⟩
        have B1 : Hid (Below w.heap.size w w1) := hL.out.trans (hb1.mono (by simp))
        have q1 := hb1.cell (p := ⟨w.heap.size, 0, none⟩) (by simp)
        have z1 : w.heap.size < w1.heap.size := by have := hb1.size; simp at this; omega
        clear hb1
        go_wp2_with fail
        refine (rimps_any B m d imps _ hm (by exact HI.out.keep B1.out)).mono ?_
        rw [H2.out]
        rintro e w2 ⟨rfl, hb2'⟩
        have B2 : Hid (Below w.heap.size w w2) := B1.out.trans (hb2'.mono B1.out.size)
        have q2 := (hb2'.cell (p := ⟨w.heap.size, 0, none⟩) z1).trans q1
        clear hb2' q1
        go_wp2_with fail
        refine (rblocks_any cl _).mono ?_
        rintro e w3 ⟨rfl, hb3⟩
        have B3 : Hid (Below w.heap.size w w3) := B2.out.trans (hb3.mono B2.out.size)
        clear hb3 q2
        rcases hb2 with hb2 | ⟨hb2, hp | ⟨hp, hp2⟩⟩
        all_goals
          go_wp2_with fail
          go_ret2
          rw [HF.out]
          exact ⟨_, rfl, World.ownsRow_nil _ _ _ _, B3.out⟩
end Go.Proofs.YtpgomblalmnonaaDoor
