/- AssignHolds: for every input the call returns true, and each argument reads afterwards as it read before. No conditions. -/
import Derived.Test.YteckijkmcafpaaaLaw39E
import Derived.Test.YteckijkmcafpaaaVal239
namespace Go.Proofs.Yteckijkmcafpaaa
open Go.RowKit Go.ChangeShapes Go.WideShapes Go.ChangeAt

set_option maxRecDepth 100000 in
set_option maxHeartbeats 16000000 in
theorem assignHolds_walk (w : World) (b : Int) (_hb : I64 b) (A : Option Addr) (n c : Nat) (l : List Claim) (R : RowS 2 Claim.cell w w.heap.size A n l ∧ n ≤ 9223372036854775807) (B : Option Addr) (m d : Nat) (ws : List Wish) (Rb : RowS 3 Wish.cell w w.heap.size B m ws ∧ m ≤ 9223372036854775807) (C : Option Addr) (k0 e0 : Nat) (sl : List Slot) (Rs : RowS 3 Slot.cell w w.heap.size C k0 sl ∧ k0 ≤ 9223372036854775807) (W : Option Addr) (p pc : Nat) (wn : List Int) (Rw : Row1 intV w w.heap.size W p wn) (_hwb : ∀ x ∈ wn, I64 x) (_hwm : p ≤ 9223372036854775807) :
    Calls Try.prog 10 #[.int .i64 b, .slice A n c, .slice B m d, .slice C k0 e0, .slice W p pc] w fun e w' => e = .returned (.bool true) ∧ Below w.heap.size w w' := by
  have L0 := Lib.hid R.1
  have M0 := Lib.hid Rb.1
  have S0 := Lib.hid Rs.1
  have P0 := Lib.hid Rw
  have Hlen := Eqn.mk R.1.1
  have Hsl := Eqn.mk Rs.1.1
  have B0 : Hid (Below w.heap.size w w) := Lib.hid (Below.refl _ _)
  have t0 : ((0 : Int) != 0) = false := by simp
  have t1 : ((0 : Int) == 0) = true := by simp
  clear R Rb Rs Rw _hwb
  by_cases h1 : n ≤ 6
  · have d1 : ¬ (6 : Int) < (n : Int) := by omega
    by_cases h2 : m ≤ 100
    · have d2 : ¬ (100 : Int) < (m : Int) := by omega
      by_cases h4 : k0 ≤ 20
      · have d4 : ¬ (20 : Int) < (k0 : Int) := by omega
        by_cases h3 : p ≤ 20
        · have d3 : ¬ (20 : Int) < (p : Int) := by omega
          cases hvw : vwF b l ws with
          | false =>
            have HX : Eqn (solveF b l ws) ([], 0, 2) := by unfold solveF; rw [if_neg (by rw [hvw]; simp)]; rfl
            have HY := Eqn.mk hvw
            clear hvw
            go_enter Try.func10, Try.ntmps10
            go_wp2_with fail
            refine (psolve_any b A B n c m d _ l ws (by omega) (by omega) L0.out M0.out).mono ?_
            rw [HX.out]
            rintro e w1 ⟨X1, e1, rfl, _, hb1⟩
            have L1 := Lib.hid (L0.out.keep hb1)
            have M1 := Lib.hid (M0.out.keep hb1)
            have B1 : Hid (Below w.heap.size w w1) := Lib.hid (B0.out.trans (hb1.mono B0.out.size))
            clear hb1 L0 M0 B0
            simp only [List.length_nil]
            go_wp2_with fail
            refine (vw_any b A B n c m d _ l ws (by omega) (by omega) L1.out M1.out).mono ?_
            rw [HY.out]
            rintro e w2 ⟨rfl, hb2⟩
            have B2 : Hid (Below w.heap.size w w2) := Lib.hid (B1.out.trans (hb2.mono B1.out.size))
            clear hb2  B1
            go_wp2_with fail
            refine (known_any _).mono ?_
            rintro e wz ⟨rfl, hbz⟩
            have BZ := B2.out.trans (hbz.mono B2.out.size)
            clear hbz
            go_wp2_with fail
            go_ret
            exact ⟨rfl, BZ⟩
          | true =>
            obtain ⟨v, f, hx, hfl, his, hv1, hb1, hsome, hs⟩ := holds_plain hvw
            have hval : validF b l = true := (vwF_yes hvw).1
            have hs0l : (slotsOf l f).length ≤ 1000 := by unfold slotsOf; rw [List.length_zipWith, hfl, Nat.min_self, Hlen.out]; omega
            obtain ⟨s0, hs0⟩ : ∃ s0, slotsOf l f = s0 := ⟨_, rfl⟩
            simp only [hs0] at hx his hv1 hsome hs0l
            have HX := Eqn.mk hx
            have HV1 : Eqn (v2 (valueF b l ws s0 (l.map Claim.win))) (.tuple #[.int .i64 v, .int .i64 0]) := by rw [Eqn, hv1]; rfl
            have HB1 : Eqn (v2 (bestF b l ws (l.map Claim.win))) (.tuple #[.int .i64 v, .int .i64 0]) := by rw [Eqn, hb1]; rfl
            have HC1 : Eqn (checkF b l s0) 0 := by unfold checkF; rw [if_pos hval, if_pos his]; rfl
            have tv : (v != v) = false := by simp
            obtain ⟨hsa, hsb⟩ := hsome wn
            have HIS : Hid (∀ z, isF b l sl = z → checkF b l sl = if z = true then 0 else 10) := Lib.hid (fun z hz => by unfold checkF; rw [if_pos hval, hz])
            have HSS := Lib.hid (hs sl)
            clear hx his hv1 hb1 hsome hs hs0 hval hvw hfl
            by_cases hck : checkedF b l ws wn = 0
            · obtain ⟨so, ow, hq1, hq2, hq3, hq4⟩ := hsa hck
              have HB2 : Eqn (v2 (bestF b l ws wn)) (.tuple #[.int .i64 so, .int .i64 0]) := by rw [Eqn, hq1]; rfl
              have HV2 : Eqn (v2 (valueF b l ws s0 wn)) (.tuple #[.int .i64 ow, .int .i64 0]) := by rw [Eqn, hq2]; rfl
              have g1 : ¬ v < so := by omega
              have g2 : ¬ so < ow := by omega
              clear hsa hsb hck hq1 hq2 hq3 hq4
              cases hi : isF b l sl with
              | true =>
                obtain ⟨z, hz1, hz2, hz3, hz4⟩ := HSS.out hi
                have HC2 : Eqn (checkF b l sl) 0 := by rw [Eqn, HIS.out _ hi]; rfl
                have HV3 : Eqn (v2 (valueF b l ws sl (l.map Claim.win))) (.tuple #[.int .i64 z, .int .i64 0]) := by rw [Eqn, hz1]; rfl
                have HST := Lib.hid hz4
                have g3 : ¬ v < z := by omega
                have tn : ((k0 : Int) != (n : Int)) = false := by rw [Hsl.out, Hlen.out] at hz3; simp; omega
                clear hz1 hz2 hz3 hz4 hi HSS HIS
                go_enter Try.func10, Try.ntmps10
                go_wp2_with fail
                refine (psolve_any b A B n c m d _ l ws (by omega) (by omega) L0.out M0.out).mono ?_
                rw [HX.out]
                rintro e w1 ⟨X1, e1, rfl, hr1, hb1⟩
                have R1 : Hid (RowS 3 Slot.cell w1 w1.heap.size X1 s0.length s0) := Lib.hid hr1
                have L1 := Lib.hid (L0.out.keep hb1)
                have M1 := Lib.hid (M0.out.keep hb1)
                have S1 := Lib.hid (S0.out.keep hb1)
                have P1 := Lib.hid (P0.out.keep hb1)
                have B1 : Hid (Below w.heap.size w w1) := Lib.hid (B0.out.trans (hb1.mono B0.out.size))
                clear hr1 hb1 L0 M0 S0 P0 B0
                go_wp2_with fail
                refine (all39_any A n c _ l (by omega) L1.out).mono ?_
                rintro e w2 ⟨va, rfl, hoa, hb2⟩
                obtain ⟨Xa, ca, rfl, hra⟩ := row1_of_own hoa
                rw [List.length_map, Hlen.out] at hra
                rw [List.length_map, Hlen.out]
                have Q2 := Lib.hid hra
                have L2 := Lib.hid (L1.out.keep hb2)
                have M2 := Lib.hid (M1.out.keep hb2)
                have S2 := Lib.hid (S1.out.keep hb2)
                have P2 := Lib.hid (P1.out.keep hb2)
                have R2 := Lib.hid (R1.out.keep hb2)
                have B2 : Hid (Below w.heap.size w w2) := Lib.hid (B1.out.trans (hb2.mono B1.out.size))
                clear hoa hra hb2 L1 M1 S1 P1 R1 B1
                go_wp2_with fail
                refine (value_any b A B X1 Xa n c m d _ e1 n ca _ l ws s0 (l.map Claim.win) (by omega) (by omega) (by exact hs0l) (by omega) L2.out M2.out R2.out Q2.out).mono ?_
                rw [HV1.out]
                rintro e w3 ⟨rfl, hb3⟩
                have L3 := Lib.hid (L2.out.keep hb3)
                have M3 := Lib.hid (M2.out.keep hb3)
                have S3 := Lib.hid (S2.out.keep hb3)
                have P3 := Lib.hid (P2.out.keep hb3)
                have R3 := Lib.hid (R2.out.keep hb3)
                have Q3 := Lib.hid (Q2.out.keep hb3)
                have B3 : Hid (Below w.heap.size w w3) := Lib.hid (B2.out.trans (hb3.mono B2.out.size))
                clear hb3 L2 M2 S2 P2 R2 Q2 B2
                go_wp2_with fail
                refine (best_any b A B Xa n c m d n ca _ l ws (l.map Claim.win) (by omega) (by omega) (by omega) L3.out M3.out Q3.out).mono ?_
                rw [HB1.out]
                rintro e w4 ⟨rfl, hb4⟩
                have L4 := Lib.hid (L3.out.keep hb4)
                have M4 := Lib.hid (M3.out.keep hb4)
                have S4 := Lib.hid (S3.out.keep hb4)
                have P4 := Lib.hid (P3.out.keep hb4)
                have R4 := Lib.hid (R3.out.keep hb4)
                have Q4 := Lib.hid (Q3.out.keep hb4)
                have B4 : Hid (Below w.heap.size w w4) := Lib.hid (B3.out.trans (hb4.mono B3.out.size))
                clear hb4 L3 M3 S3 P3 R3 Q3 B3
                go_wp2_with fail
                refine (check_any b A X1 n c _ e1 _ l s0 (by omega) (by exact hs0l) L4.out R4.out).mono ?_
                rw [HC1.out]
                rintro e w5 ⟨rfl, hb5⟩
                have L5 := Lib.hid (L4.out.keep hb5)
                have M5 := Lib.hid (M4.out.keep hb5)
                have S5 := Lib.hid (S4.out.keep hb5)
                have P5 := Lib.hid (P4.out.keep hb5)
                have R5 := Lib.hid (R4.out.keep hb5)
                have Q5 := Lib.hid (Q4.out.keep hb5)
                have B5 : Hid (Below w.heap.size w w5) := Lib.hid (B4.out.trans (hb5.mono B4.out.size))
                clear hb5 L4 M4 S4 P4 R4 Q4 B4
                go_wp2_with fail
                refine (best_any b A B W n c m d p pc _ l ws wn (by omega) (by omega) (by omega) L5.out M5.out P5.out).mono ?_
                rw [HB2.out]
                rintro e w6 ⟨rfl, hb6⟩
                have L6 := Lib.hid (L5.out.keep hb6)
                have M6 := Lib.hid (M5.out.keep hb6)
                have S6 := Lib.hid (S5.out.keep hb6)
                have P6 := Lib.hid (P5.out.keep hb6)
                have R6 := Lib.hid (R5.out.keep hb6)
                have Q6 := Lib.hid (Q5.out.keep hb6)
                have B6 : Hid (Below w.heap.size w w6) := Lib.hid (B5.out.trans (hb6.mono B5.out.size))
                clear hb6 L5 M5 S5 P5 R5 Q5 B5
                go_wp2_with fail
                refine (value_any b A B X1 W n c m d _ e1 p pc _ l ws s0 wn (by omega) (by omega) (by exact hs0l) (by omega) L6.out M6.out R6.out P6.out).mono ?_
                rw [HV2.out]
                rintro e w7 ⟨rfl, hb7⟩
                have L7 := Lib.hid (L6.out.keep hb7)
                have M7 := Lib.hid (M6.out.keep hb7)
                have S7 := Lib.hid (S6.out.keep hb7)
                have P7 := Lib.hid (P6.out.keep hb7)
                have R7 := Lib.hid (R6.out.keep hb7)
                have Q7 := Lib.hid (Q6.out.keep hb7)
                have B7 : Hid (Below w.heap.size w w7) := Lib.hid (B6.out.trans (hb7.mono B6.out.size))
                clear hb7 L6 M6 S6 P6 R6 Q6 B6
                go_wp2_with fail
                refine (check_any b A C n c k0 e0 _ l sl (by omega) (by omega) L7.out S7.out).mono ?_
                rw [HC2.out]
                rintro e w8 ⟨rfl, hb8⟩
                have L8 := Lib.hid (L7.out.keep hb8)
                have M8 := Lib.hid (M7.out.keep hb8)
                have S8 := Lib.hid (S7.out.keep hb8)
                have P8 := Lib.hid (P7.out.keep hb8)
                have R8 := Lib.hid (R7.out.keep hb8)
                have Q8 := Lib.hid (Q7.out.keep hb8)
                have B8 : Hid (Below w.heap.size w w8) := Lib.hid (B7.out.trans (hb8.mono B7.out.size))
                clear hb8 L7 M7 S7 P7 R7 Q7 B7
                go_wp2_with fail
                refine (value_any b A B C Xa n c m d k0 e0 n ca _ l ws sl (l.map Claim.win) (by omega) (by omega) (by omega) (by omega) L8.out M8.out S8.out Q8.out).mono ?_
                rw [HV3.out]
                rintro e w9 ⟨rfl, hb9⟩
                have L9 := Lib.hid (L8.out.keep hb9)
                have M9 := Lib.hid (M8.out.keep hb9)
                have S9 := Lib.hid (S8.out.keep hb9)
                have P9 := Lib.hid (P8.out.keep hb9)
                have R9 := Lib.hid (R8.out.keep hb9)
                have Q9 := Lib.hid (Q8.out.keep hb9)
                have B9 : Hid (Below w.heap.size w w9) := Lib.hid (B8.out.trans (hb9.mono B8.out.size))
                clear hb9 L8 M8 S8 P8 R8 Q8 B8
                clear M9 P9 R9 Q9
                go_wp2_with fail
                go_loopw [25] (fun i wr => ∃ k : Nat, k ≤ k0 ∧ i = .int .i64 k ∧ Below w9.heap.size w9 wr) (fun i _ => k0 - (intOf i).toNat)
                case atStart => exact ⟨0, Nat.zero_le _, rfl, Below.refl _ _⟩
                case round =>
                  obtain ⟨k, hk, rfl, HW⟩ := hrel
                  have HWW := Lib.hid HW
                  by_cases hlt : k < k0
                  · obtain ⟨x, hx, _⟩ := drop_at (xs := sl) (k := k) (by rw [Hsl.out]; exact hlt)
                    obtain ⟨g, off, rfl, hg, hc⟩ := (S9.out.below HW).2 (by omega)
                    have y0 := hc k x hx 0 (by omega)
                    have y1 := hc k x hx 1 (by omega)
                    simp only [Slot.cell, Nat.add_zero] at y0 y1
                    have Y1 := Lib.hid y1
                    have hgs : g < wr.heap.size := Nat.lt_of_lt_of_le hg HW.size
                    have j0 : (k : Int) < (k0 : Int) := by omega
                    obtain ⟨st, hst, hhas⟩ := HST.out k x hx
                    have hlen := starts_len b l x.win
                    rw [hst] at hlen
                    dsimp only at hlen
                    have HSF := Eqn.mk hst
                    have HHF := Eqn.mk hhas
                    obtain ⟨wo, rfl⟩ : ∃ wo : World, wo = wr := ⟨_, rfl⟩
                    clear hc hx HW hst hhas y1
                    go_wp2_with fail
                    refine (starts_any b x.win A n c _ l (by omega) (by exact (L9.out.below HWW.out).up HWW.out.size)).mono ?_
                    rw [HSF.out]
                    rintro e w10 ⟨va', rfl, hoa, hb10⟩
                    obtain ⟨Xs, cs, rfl, hrs⟩ := row1_of_own hoa
                    have RS := Lib.hid hrs
                    have BA : Hid (Below w9.heap.size w9 w10) := Lib.hid (HWW.out.trans (hb10.mono HWW.out.size))
                    have y1 := (hb10.cell (p := ⟨g, off + k * 3 + 1, none⟩) hgs).trans Y1.out
                    have hgs2 : g < w10.heap.size := Nat.lt_of_lt_of_le hgs hb10.size
                    clear hoa hrs hb10 y0
                    go_wp2_with fail
                    refine (has_any Xs _ cs x.start _ _ st hlen (by exact RS.out)).mono ?_
                    rw [HHF.out]
                    rintro e w11 ⟨rfl, rfl⟩
                    go_wp2_with fail
                    go_roundw
                    case rel => exact ⟨k + 1, by omega, by go_num, BA.out⟩
                    case measure => simp only [intOf]; omega
                  · have j0 : ¬ (k : Int) < (k0 : Int) := by omega
                    have B10 : Hid (Below w.heap.size w wr) := Lib.hid (B9.out.trans (HW.mono B9.out.size))
                    clear HW
                    go_wp2_with fail
                    refine (known_any _).mono ?_
                    rintro e wz ⟨rfl, hbz⟩
                    have BZ := B10.out.trans (hbz.mono B10.out.size)
                    clear hbz
                    go_wp2_with fail
                    go_ret
                    exact ⟨rfl, BZ⟩
              | false =>
                have HC2 : Eqn (checkF b l sl) 10 := by rw [Eqn, HIS.out _ hi]; rfl
                clear hi HSS HIS
                go_enter Try.func10, Try.ntmps10
                go_wp2_with fail
                refine (psolve_any b A B n c m d _ l ws (by omega) (by omega) L0.out M0.out).mono ?_
                rw [HX.out]
                rintro e w1 ⟨X1, e1, rfl, hr1, hb1⟩
                have R1 : Hid (RowS 3 Slot.cell w1 w1.heap.size X1 s0.length s0) := Lib.hid hr1
                have L1 := Lib.hid (L0.out.keep hb1)
                have M1 := Lib.hid (M0.out.keep hb1)
                have S1 := Lib.hid (S0.out.keep hb1)
                have P1 := Lib.hid (P0.out.keep hb1)
                have B1 : Hid (Below w.heap.size w w1) := Lib.hid (B0.out.trans (hb1.mono B0.out.size))
                clear hr1 hb1 L0 M0 S0 P0 B0
                go_wp2_with fail
                refine (all39_any A n c _ l (by omega) L1.out).mono ?_
                rintro e w2 ⟨va, rfl, hoa, hb2⟩
                obtain ⟨Xa, ca, rfl, hra⟩ := row1_of_own hoa
                rw [List.length_map, Hlen.out] at hra
                rw [List.length_map, Hlen.out]
                have Q2 := Lib.hid hra
                have L2 := Lib.hid (L1.out.keep hb2)
                have M2 := Lib.hid (M1.out.keep hb2)
                have S2 := Lib.hid (S1.out.keep hb2)
                have P2 := Lib.hid (P1.out.keep hb2)
                have R2 := Lib.hid (R1.out.keep hb2)
                have B2 : Hid (Below w.heap.size w w2) := Lib.hid (B1.out.trans (hb2.mono B1.out.size))
                clear hoa hra hb2 L1 M1 S1 P1 R1 B1
                go_wp2_with fail
                refine (value_any b A B X1 Xa n c m d _ e1 n ca _ l ws s0 (l.map Claim.win) (by omega) (by omega) (by exact hs0l) (by omega) L2.out M2.out R2.out Q2.out).mono ?_
                rw [HV1.out]
                rintro e w3 ⟨rfl, hb3⟩
                have L3 := Lib.hid (L2.out.keep hb3)
                have M3 := Lib.hid (M2.out.keep hb3)
                have S3 := Lib.hid (S2.out.keep hb3)
                have P3 := Lib.hid (P2.out.keep hb3)
                have R3 := Lib.hid (R2.out.keep hb3)
                have Q3 := Lib.hid (Q2.out.keep hb3)
                have B3 : Hid (Below w.heap.size w w3) := Lib.hid (B2.out.trans (hb3.mono B2.out.size))
                clear hb3 L2 M2 S2 P2 R2 Q2 B2
                go_wp2_with fail
                refine (best_any b A B Xa n c m d n ca _ l ws (l.map Claim.win) (by omega) (by omega) (by omega) L3.out M3.out Q3.out).mono ?_
                rw [HB1.out]
                rintro e w4 ⟨rfl, hb4⟩
                have L4 := Lib.hid (L3.out.keep hb4)
                have M4 := Lib.hid (M3.out.keep hb4)
                have S4 := Lib.hid (S3.out.keep hb4)
                have P4 := Lib.hid (P3.out.keep hb4)
                have R4 := Lib.hid (R3.out.keep hb4)
                have Q4 := Lib.hid (Q3.out.keep hb4)
                have B4 : Hid (Below w.heap.size w w4) := Lib.hid (B3.out.trans (hb4.mono B3.out.size))
                clear hb4 L3 M3 S3 P3 R3 Q3 B3
                go_wp2_with fail
                refine (check_any b A X1 n c _ e1 _ l s0 (by omega) (by exact hs0l) L4.out R4.out).mono ?_
                rw [HC1.out]
                rintro e w5 ⟨rfl, hb5⟩
                have L5 := Lib.hid (L4.out.keep hb5)
                have M5 := Lib.hid (M4.out.keep hb5)
                have S5 := Lib.hid (S4.out.keep hb5)
                have P5 := Lib.hid (P4.out.keep hb5)
                have R5 := Lib.hid (R4.out.keep hb5)
                have Q5 := Lib.hid (Q4.out.keep hb5)
                have B5 : Hid (Below w.heap.size w w5) := Lib.hid (B4.out.trans (hb5.mono B4.out.size))
                clear hb5 L4 M4 S4 P4 R4 Q4 B4
                go_wp2_with fail
                refine (best_any b A B W n c m d p pc _ l ws wn (by omega) (by omega) (by omega) L5.out M5.out P5.out).mono ?_
                rw [HB2.out]
                rintro e w6 ⟨rfl, hb6⟩
                have L6 := Lib.hid (L5.out.keep hb6)
                have M6 := Lib.hid (M5.out.keep hb6)
                have S6 := Lib.hid (S5.out.keep hb6)
                have P6 := Lib.hid (P5.out.keep hb6)
                have R6 := Lib.hid (R5.out.keep hb6)
                have Q6 := Lib.hid (Q5.out.keep hb6)
                have B6 : Hid (Below w.heap.size w w6) := Lib.hid (B5.out.trans (hb6.mono B5.out.size))
                clear hb6 L5 M5 S5 P5 R5 Q5 B5
                go_wp2_with fail
                refine (value_any b A B X1 W n c m d _ e1 p pc _ l ws s0 wn (by omega) (by omega) (by exact hs0l) (by omega) L6.out M6.out R6.out P6.out).mono ?_
                rw [HV2.out]
                rintro e w7 ⟨rfl, hb7⟩
                have L7 := Lib.hid (L6.out.keep hb7)
                have M7 := Lib.hid (M6.out.keep hb7)
                have S7 := Lib.hid (S6.out.keep hb7)
                have P7 := Lib.hid (P6.out.keep hb7)
                have R7 := Lib.hid (R6.out.keep hb7)
                have Q7 := Lib.hid (Q6.out.keep hb7)
                have B7 : Hid (Below w.heap.size w w7) := Lib.hid (B6.out.trans (hb7.mono B6.out.size))
                clear hb7 L6 M6 S6 P6 R6 Q6 B6
                go_wp2_with fail
                refine (check_any b A C n c k0 e0 _ l sl (by omega) (by omega) L7.out S7.out).mono ?_
                rw [HC2.out]
                rintro e w8 ⟨rfl, hb8⟩
                have L8 := Lib.hid (L7.out.keep hb8)
                have M8 := Lib.hid (M7.out.keep hb8)
                have S8 := Lib.hid (S7.out.keep hb8)
                have P8 := Lib.hid (P7.out.keep hb8)
                have R8 := Lib.hid (R7.out.keep hb8)
                have Q8 := Lib.hid (Q7.out.keep hb8)
                have B8 : Hid (Below w.heap.size w w8) := Lib.hid (B7.out.trans (hb8.mono B7.out.size))
                clear hb8 L7 M7 S7 P7 R7 Q7 B7
                go_wp2_with fail
                refine (known_any _).mono ?_
                rintro e wz ⟨rfl, hbz⟩
                have BZ := B8.out.trans (hbz.mono B8.out.size)
                clear hbz
                go_wp2_with fail
                go_ret
                exact ⟨rfl, BZ⟩
            · obtain ⟨hq1, hq2⟩ := hsb hck
              obtain ⟨ck, hcke⟩ : ∃ ck, checkedF b l ws wn = ck := ⟨_, rfl⟩
              rw [hcke] at hq1 hq2 hck
              have HB2 : Eqn (v2 (bestF b l ws wn)) (.tuple #[.int .i64 0, .int .i64 ck]) := by rw [Eqn, hq1]; rfl
              have HV2 : Eqn (v2 (valueF b l ws s0 wn)) (.tuple #[.int .i64 0, .int .i64 ck]) := by rw [Eqn, hq2]; rfl
              have g1 : (ck == 0) = false := by simpa using hck
              clear hsa hsb hck hq1 hq2 hcke
              cases hi : isF b l sl with
              | true =>
                obtain ⟨z, hz1, hz2, hz3, hz4⟩ := HSS.out hi
                have HC2 : Eqn (checkF b l sl) 0 := by rw [Eqn, HIS.out _ hi]; rfl
                have HV3 : Eqn (v2 (valueF b l ws sl (l.map Claim.win))) (.tuple #[.int .i64 z, .int .i64 0]) := by rw [Eqn, hz1]; rfl
                have HST := Lib.hid hz4
                have g3 : ¬ v < z := by omega
                have tn : ((k0 : Int) != (n : Int)) = false := by rw [Hsl.out, Hlen.out] at hz3; simp; omega
                clear hz1 hz2 hz3 hz4 hi HSS HIS
                go_enter Try.func10, Try.ntmps10
                go_wp2_with fail
                refine (psolve_any b A B n c m d _ l ws (by omega) (by omega) L0.out M0.out).mono ?_
                rw [HX.out]
                rintro e w1 ⟨X1, e1, rfl, hr1, hb1⟩
                have R1 : Hid (RowS 3 Slot.cell w1 w1.heap.size X1 s0.length s0) := Lib.hid hr1
                have L1 := Lib.hid (L0.out.keep hb1)
                have M1 := Lib.hid (M0.out.keep hb1)
                have S1 := Lib.hid (S0.out.keep hb1)
                have P1 := Lib.hid (P0.out.keep hb1)
                have B1 : Hid (Below w.heap.size w w1) := Lib.hid (B0.out.trans (hb1.mono B0.out.size))
                clear hr1 hb1 L0 M0 S0 P0 B0
                go_wp2_with fail
                refine (all39_any A n c _ l (by omega) L1.out).mono ?_
                rintro e w2 ⟨va, rfl, hoa, hb2⟩
                obtain ⟨Xa, ca, rfl, hra⟩ := row1_of_own hoa
                rw [List.length_map, Hlen.out] at hra
                rw [List.length_map, Hlen.out]
                have Q2 := Lib.hid hra
                have L2 := Lib.hid (L1.out.keep hb2)
                have M2 := Lib.hid (M1.out.keep hb2)
                have S2 := Lib.hid (S1.out.keep hb2)
                have P2 := Lib.hid (P1.out.keep hb2)
                have R2 := Lib.hid (R1.out.keep hb2)
                have B2 : Hid (Below w.heap.size w w2) := Lib.hid (B1.out.trans (hb2.mono B1.out.size))
                clear hoa hra hb2 L1 M1 S1 P1 R1 B1
                go_wp2_with fail
                refine (value_any b A B X1 Xa n c m d _ e1 n ca _ l ws s0 (l.map Claim.win) (by omega) (by omega) (by exact hs0l) (by omega) L2.out M2.out R2.out Q2.out).mono ?_
                rw [HV1.out]
                rintro e w3 ⟨rfl, hb3⟩
                have L3 := Lib.hid (L2.out.keep hb3)
                have M3 := Lib.hid (M2.out.keep hb3)
                have S3 := Lib.hid (S2.out.keep hb3)
                have P3 := Lib.hid (P2.out.keep hb3)
                have R3 := Lib.hid (R2.out.keep hb3)
                have Q3 := Lib.hid (Q2.out.keep hb3)
                have B3 : Hid (Below w.heap.size w w3) := Lib.hid (B2.out.trans (hb3.mono B2.out.size))
                clear hb3 L2 M2 S2 P2 R2 Q2 B2
                go_wp2_with fail
                refine (best_any b A B Xa n c m d n ca _ l ws (l.map Claim.win) (by omega) (by omega) (by omega) L3.out M3.out Q3.out).mono ?_
                rw [HB1.out]
                rintro e w4 ⟨rfl, hb4⟩
                have L4 := Lib.hid (L3.out.keep hb4)
                have M4 := Lib.hid (M3.out.keep hb4)
                have S4 := Lib.hid (S3.out.keep hb4)
                have P4 := Lib.hid (P3.out.keep hb4)
                have R4 := Lib.hid (R3.out.keep hb4)
                have Q4 := Lib.hid (Q3.out.keep hb4)
                have B4 : Hid (Below w.heap.size w w4) := Lib.hid (B3.out.trans (hb4.mono B3.out.size))
                clear hb4 L3 M3 S3 P3 R3 Q3 B3
                go_wp2_with fail
                refine (check_any b A X1 n c _ e1 _ l s0 (by omega) (by exact hs0l) L4.out R4.out).mono ?_
                rw [HC1.out]
                rintro e w5 ⟨rfl, hb5⟩
                have L5 := Lib.hid (L4.out.keep hb5)
                have M5 := Lib.hid (M4.out.keep hb5)
                have S5 := Lib.hid (S4.out.keep hb5)
                have P5 := Lib.hid (P4.out.keep hb5)
                have R5 := Lib.hid (R4.out.keep hb5)
                have Q5 := Lib.hid (Q4.out.keep hb5)
                have B5 : Hid (Below w.heap.size w w5) := Lib.hid (B4.out.trans (hb5.mono B4.out.size))
                clear hb5 L4 M4 S4 P4 R4 Q4 B4
                go_wp2_with fail
                refine (best_any b A B W n c m d p pc _ l ws wn (by omega) (by omega) (by omega) L5.out M5.out P5.out).mono ?_
                rw [HB2.out]
                rintro e w6 ⟨rfl, hb6⟩
                have L6 := Lib.hid (L5.out.keep hb6)
                have M6 := Lib.hid (M5.out.keep hb6)
                have S6 := Lib.hid (S5.out.keep hb6)
                have P6 := Lib.hid (P5.out.keep hb6)
                have R6 := Lib.hid (R5.out.keep hb6)
                have Q6 := Lib.hid (Q5.out.keep hb6)
                have B6 : Hid (Below w.heap.size w w6) := Lib.hid (B5.out.trans (hb6.mono B5.out.size))
                clear hb6 L5 M5 S5 P5 R5 Q5 B5
                go_wp2_with fail
                refine (value_any b A B X1 W n c m d _ e1 p pc _ l ws s0 wn (by omega) (by omega) (by exact hs0l) (by omega) L6.out M6.out R6.out P6.out).mono ?_
                rw [HV2.out]
                rintro e w7 ⟨rfl, hb7⟩
                have L7 := Lib.hid (L6.out.keep hb7)
                have M7 := Lib.hid (M6.out.keep hb7)
                have S7 := Lib.hid (S6.out.keep hb7)
                have P7 := Lib.hid (P6.out.keep hb7)
                have R7 := Lib.hid (R6.out.keep hb7)
                have Q7 := Lib.hid (Q6.out.keep hb7)
                have B7 : Hid (Below w.heap.size w w7) := Lib.hid (B6.out.trans (hb7.mono B6.out.size))
                clear hb7 L6 M6 S6 P6 R6 Q6 B6
                go_wp2_with fail
                refine (check_any b A C n c k0 e0 _ l sl (by omega) (by omega) L7.out S7.out).mono ?_
                rw [HC2.out]
                rintro e w8 ⟨rfl, hb8⟩
                have L8 := Lib.hid (L7.out.keep hb8)
                have M8 := Lib.hid (M7.out.keep hb8)
                have S8 := Lib.hid (S7.out.keep hb8)
                have P8 := Lib.hid (P7.out.keep hb8)
                have R8 := Lib.hid (R7.out.keep hb8)
                have Q8 := Lib.hid (Q7.out.keep hb8)
                have B8 : Hid (Below w.heap.size w w8) := Lib.hid (B7.out.trans (hb8.mono B7.out.size))
                clear hb8 L7 M7 S7 P7 R7 Q7 B7
                go_wp2_with fail
                refine (value_any b A B C Xa n c m d k0 e0 n ca _ l ws sl (l.map Claim.win) (by omega) (by omega) (by omega) (by omega) L8.out M8.out S8.out Q8.out).mono ?_
                rw [HV3.out]
                rintro e w9 ⟨rfl, hb9⟩
                have L9 := Lib.hid (L8.out.keep hb9)
                have M9 := Lib.hid (M8.out.keep hb9)
                have S9 := Lib.hid (S8.out.keep hb9)
                have P9 := Lib.hid (P8.out.keep hb9)
                have R9 := Lib.hid (R8.out.keep hb9)
                have Q9 := Lib.hid (Q8.out.keep hb9)
                have B9 : Hid (Below w.heap.size w w9) := Lib.hid (B8.out.trans (hb9.mono B8.out.size))
                clear hb9 L8 M8 S8 P8 R8 Q8 B8
                clear M9 P9 R9 Q9
                go_wp2_with fail
                go_loopw [25] (fun i wr => ∃ k : Nat, k ≤ k0 ∧ i = .int .i64 k ∧ Below w9.heap.size w9 wr) (fun i _ => k0 - (intOf i).toNat)
                case atStart => exact ⟨0, Nat.zero_le _, rfl, Below.refl _ _⟩
                case round =>
                  obtain ⟨k, hk, rfl, HW⟩ := hrel
                  have HWW := Lib.hid HW
                  by_cases hlt : k < k0
                  · obtain ⟨x, hx, _⟩ := drop_at (xs := sl) (k := k) (by rw [Hsl.out]; exact hlt)
                    obtain ⟨g, off, rfl, hg, hc⟩ := (S9.out.below HW).2 (by omega)
                    have y0 := hc k x hx 0 (by omega)
                    have y1 := hc k x hx 1 (by omega)
                    simp only [Slot.cell, Nat.add_zero] at y0 y1
                    have Y1 := Lib.hid y1
                    have hgs : g < wr.heap.size := Nat.lt_of_lt_of_le hg HW.size
                    have j0 : (k : Int) < (k0 : Int) := by omega
                    obtain ⟨st, hst, hhas⟩ := HST.out k x hx
                    have hlen := starts_len b l x.win
                    rw [hst] at hlen
                    dsimp only at hlen
                    have HSF := Eqn.mk hst
                    have HHF := Eqn.mk hhas
                    obtain ⟨wo, rfl⟩ : ∃ wo : World, wo = wr := ⟨_, rfl⟩
                    clear hc hx HW hst hhas y1
                    go_wp2_with fail
                    refine (starts_any b x.win A n c _ l (by omega) (by exact (L9.out.below HWW.out).up HWW.out.size)).mono ?_
                    rw [HSF.out]
                    rintro e w10 ⟨va', rfl, hoa, hb10⟩
                    obtain ⟨Xs, cs, rfl, hrs⟩ := row1_of_own hoa
                    have RS := Lib.hid hrs
                    have BA : Hid (Below w9.heap.size w9 w10) := Lib.hid (HWW.out.trans (hb10.mono HWW.out.size))
                    have y1 := (hb10.cell (p := ⟨g, off + k * 3 + 1, none⟩) hgs).trans Y1.out
                    have hgs2 : g < w10.heap.size := Nat.lt_of_lt_of_le hgs hb10.size
                    clear hoa hrs hb10 y0
                    go_wp2_with fail
                    refine (has_any Xs _ cs x.start _ _ st hlen (by exact RS.out)).mono ?_
                    rw [HHF.out]
                    rintro e w11 ⟨rfl, rfl⟩
                    go_wp2_with fail
                    go_roundw
                    case rel => exact ⟨k + 1, by omega, by go_num, BA.out⟩
                    case measure => simp only [intOf]; omega
                  · have j0 : ¬ (k : Int) < (k0 : Int) := by omega
                    have B10 : Hid (Below w.heap.size w wr) := Lib.hid (B9.out.trans (HW.mono B9.out.size))
                    clear HW
                    go_wp2_with fail
                    refine (known_any _).mono ?_
                    rintro e wz ⟨rfl, hbz⟩
                    have BZ := B10.out.trans (hbz.mono B10.out.size)
                    clear hbz
                    go_wp2_with fail
                    go_ret
                    exact ⟨rfl, BZ⟩
              | false =>
                have HC2 : Eqn (checkF b l sl) 10 := by rw [Eqn, HIS.out _ hi]; rfl
                clear hi HSS HIS
                go_enter Try.func10, Try.ntmps10
                go_wp2_with fail
                refine (psolve_any b A B n c m d _ l ws (by omega) (by omega) L0.out M0.out).mono ?_
                rw [HX.out]
                rintro e w1 ⟨X1, e1, rfl, hr1, hb1⟩
                have R1 : Hid (RowS 3 Slot.cell w1 w1.heap.size X1 s0.length s0) := Lib.hid hr1
                have L1 := Lib.hid (L0.out.keep hb1)
                have M1 := Lib.hid (M0.out.keep hb1)
                have S1 := Lib.hid (S0.out.keep hb1)
                have P1 := Lib.hid (P0.out.keep hb1)
                have B1 : Hid (Below w.heap.size w w1) := Lib.hid (B0.out.trans (hb1.mono B0.out.size))
                clear hr1 hb1 L0 M0 S0 P0 B0
                go_wp2_with fail
                refine (all39_any A n c _ l (by omega) L1.out).mono ?_
                rintro e w2 ⟨va, rfl, hoa, hb2⟩
                obtain ⟨Xa, ca, rfl, hra⟩ := row1_of_own hoa
                rw [List.length_map, Hlen.out] at hra
                rw [List.length_map, Hlen.out]
                have Q2 := Lib.hid hra
                have L2 := Lib.hid (L1.out.keep hb2)
                have M2 := Lib.hid (M1.out.keep hb2)
                have S2 := Lib.hid (S1.out.keep hb2)
                have P2 := Lib.hid (P1.out.keep hb2)
                have R2 := Lib.hid (R1.out.keep hb2)
                have B2 : Hid (Below w.heap.size w w2) := Lib.hid (B1.out.trans (hb2.mono B1.out.size))
                clear hoa hra hb2 L1 M1 S1 P1 R1 B1
                go_wp2_with fail
                refine (value_any b A B X1 Xa n c m d _ e1 n ca _ l ws s0 (l.map Claim.win) (by omega) (by omega) (by exact hs0l) (by omega) L2.out M2.out R2.out Q2.out).mono ?_
                rw [HV1.out]
                rintro e w3 ⟨rfl, hb3⟩
                have L3 := Lib.hid (L2.out.keep hb3)
                have M3 := Lib.hid (M2.out.keep hb3)
                have S3 := Lib.hid (S2.out.keep hb3)
                have P3 := Lib.hid (P2.out.keep hb3)
                have R3 := Lib.hid (R2.out.keep hb3)
                have Q3 := Lib.hid (Q2.out.keep hb3)
                have B3 : Hid (Below w.heap.size w w3) := Lib.hid (B2.out.trans (hb3.mono B2.out.size))
                clear hb3 L2 M2 S2 P2 R2 Q2 B2
                go_wp2_with fail
                refine (best_any b A B Xa n c m d n ca _ l ws (l.map Claim.win) (by omega) (by omega) (by omega) L3.out M3.out Q3.out).mono ?_
                rw [HB1.out]
                rintro e w4 ⟨rfl, hb4⟩
                have L4 := Lib.hid (L3.out.keep hb4)
                have M4 := Lib.hid (M3.out.keep hb4)
                have S4 := Lib.hid (S3.out.keep hb4)
                have P4 := Lib.hid (P3.out.keep hb4)
                have R4 := Lib.hid (R3.out.keep hb4)
                have Q4 := Lib.hid (Q3.out.keep hb4)
                have B4 : Hid (Below w.heap.size w w4) := Lib.hid (B3.out.trans (hb4.mono B3.out.size))
                clear hb4 L3 M3 S3 P3 R3 Q3 B3
                go_wp2_with fail
                refine (check_any b A X1 n c _ e1 _ l s0 (by omega) (by exact hs0l) L4.out R4.out).mono ?_
                rw [HC1.out]
                rintro e w5 ⟨rfl, hb5⟩
                have L5 := Lib.hid (L4.out.keep hb5)
                have M5 := Lib.hid (M4.out.keep hb5)
                have S5 := Lib.hid (S4.out.keep hb5)
                have P5 := Lib.hid (P4.out.keep hb5)
                have R5 := Lib.hid (R4.out.keep hb5)
                have Q5 := Lib.hid (Q4.out.keep hb5)
                have B5 : Hid (Below w.heap.size w w5) := Lib.hid (B4.out.trans (hb5.mono B4.out.size))
                clear hb5 L4 M4 S4 P4 R4 Q4 B4
                go_wp2_with fail
                refine (best_any b A B W n c m d p pc _ l ws wn (by omega) (by omega) (by omega) L5.out M5.out P5.out).mono ?_
                rw [HB2.out]
                rintro e w6 ⟨rfl, hb6⟩
                have L6 := Lib.hid (L5.out.keep hb6)
                have M6 := Lib.hid (M5.out.keep hb6)
                have S6 := Lib.hid (S5.out.keep hb6)
                have P6 := Lib.hid (P5.out.keep hb6)
                have R6 := Lib.hid (R5.out.keep hb6)
                have Q6 := Lib.hid (Q5.out.keep hb6)
                have B6 : Hid (Below w.heap.size w w6) := Lib.hid (B5.out.trans (hb6.mono B5.out.size))
                clear hb6 L5 M5 S5 P5 R5 Q5 B5
                go_wp2_with fail
                refine (value_any b A B X1 W n c m d _ e1 p pc _ l ws s0 wn (by omega) (by omega) (by exact hs0l) (by omega) L6.out M6.out R6.out P6.out).mono ?_
                rw [HV2.out]
                rintro e w7 ⟨rfl, hb7⟩
                have L7 := Lib.hid (L6.out.keep hb7)
                have M7 := Lib.hid (M6.out.keep hb7)
                have S7 := Lib.hid (S6.out.keep hb7)
                have P7 := Lib.hid (P6.out.keep hb7)
                have R7 := Lib.hid (R6.out.keep hb7)
                have Q7 := Lib.hid (Q6.out.keep hb7)
                have B7 : Hid (Below w.heap.size w w7) := Lib.hid (B6.out.trans (hb7.mono B6.out.size))
                clear hb7 L6 M6 S6 P6 R6 Q6 B6
                go_wp2_with fail
                refine (check_any b A C n c k0 e0 _ l sl (by omega) (by omega) L7.out S7.out).mono ?_
                rw [HC2.out]
                rintro e w8 ⟨rfl, hb8⟩
                have L8 := Lib.hid (L7.out.keep hb8)
                have M8 := Lib.hid (M7.out.keep hb8)
                have S8 := Lib.hid (S7.out.keep hb8)
                have P8 := Lib.hid (P7.out.keep hb8)
                have R8 := Lib.hid (R7.out.keep hb8)
                have Q8 := Lib.hid (Q7.out.keep hb8)
                have B8 : Hid (Below w.heap.size w w8) := Lib.hid (B7.out.trans (hb8.mono B7.out.size))
                clear hb8 L7 M7 S7 P7 R7 Q7 B7
                go_wp2_with fail
                refine (known_any _).mono ?_
                rintro e wz ⟨rfl, hbz⟩
                have BZ := B8.out.trans (hbz.mono B8.out.size)
                clear hbz
                go_wp2_with fail
                go_ret
                exact ⟨rfl, BZ⟩
        · have d3 : (20 : Int) < (p : Int) := by omega
          go_enter Try.func10, Try.ntmps10
          go_wp2_with fail
          refine (known_any _).mono ?_
          rintro e wz ⟨rfl, hbz⟩
          have BZ := hbz
          clear hbz
          go_wp2_with fail
          go_ret
          exact ⟨rfl, BZ⟩
      · have d4 : (20 : Int) < (k0 : Int) := by omega
        go_enter Try.func10, Try.ntmps10
        go_wp2_with fail
        refine (known_any _).mono ?_
        rintro e wz ⟨rfl, hbz⟩
        have BZ := hbz
        clear hbz
        go_wp2_with fail
        go_ret
        exact ⟨rfl, BZ⟩
    · have d2 : (100 : Int) < (m : Int) := by omega
      go_enter Try.func10, Try.ntmps10
      go_wp2_with fail
      refine (known_any _).mono ?_
      rintro e wz ⟨rfl, hbz⟩
      have BZ := hbz
      clear hbz
      go_wp2_with fail
      go_ret
      exact ⟨rfl, BZ⟩
  · have d1 : (6 : Int) < (n : Int) := by omega
    go_enter Try.func10, Try.ntmps10
    go_wp2_with fail
    refine (known_any _).mono ?_
    rintro e wz ⟨rfl, hbz⟩
    have BZ := hbz
    clear hbz
    go_wp2_with fail
    go_ret
    exact ⟨rfl, BZ⟩

set_option maxRecDepth 100000 in
theorem assignHolds_lifted (os : Os) (started : os.Started) (H : Type) (enc : TypeId × Value → H) :
    ReturnsInHanded {} Try.checked os 10 .any (Rows.assignHoldsSpec.pre6 enc Try.prog Try.f10 Rows.assignHoldsRow.domain false) (Rows.assignHoldsSpec.post enc Try.prog Try.f10 false true false false) := by
  refine returnsInHanded_of_change (C := Try.checked) own started (by kernel_rfl) Try.func10
    (ChangeSpec.witness6 (enc := enc) (C := Try.checked) false ⟨#[], #[.int .i64 0, .slice none 0 0, .slice none 0 0, .slice none 0 0, .slice none 0 0], []⟩ 8 (by kernel_rfl) (by kernel_rfl) (by kernel_rfl) (by kernel_rfl)) ?_
  intro W base args ds gs before hval0 hW hcnd _
  have hval : ∀ (j : Nat) t v, Try.f10.params[j]? = some t → args[j]? = some v → Value.okWide Try.prog W .any base t v := hval0
  have hW' := hW
  obtain ⟨p, q, hA0, hV, rfl, hfz, hnd⟩ := hW
  have hA : DataW.TrodAll enc Try.prog W 0 (fun _ => true) true Try.f10.params.toList args.toList ds p := hA0
  rw [Try.params10] at hA hval
  obtain ⟨v0, vs0, d0, ds0, p0, q0, hargs, rfl, rfl, h0, r0⟩ := trodAll_cons hA
  obtain ⟨v1, vs1, d1, ds1, p1, q1, rfl, rfl, rfl, h1, r1⟩ := trodAll_cons r0
  obtain ⟨v2, vs2, d2, ds2, p2, q2, rfl, rfl, rfl, h2, r2⟩ := trodAll_cons r1
  obtain ⟨v3, vs3, d3, ds3, p3, q3, rfl, rfl, rfl, h3, r3⟩ := trodAll_cons r2
  obtain ⟨v4, vs4, d4, ds4, p4, q4, rfl, rfl, rfl, h4, r4⟩ := trodAll_cons r3
  obtain ⟨rfl, rfl, rfl⟩ := trodAll_nil r4
  obtain rfl : args = #[v0, v1, v2, v3, v4] := by cases args; simp_all
  obtain ⟨rfl, rfl⟩ := trodVars_none hV
  have k0 := h0
  have lt0 : ∀ x ∈ p0, x.block < W.heap.size := by obtain ⟨m, hm⟩ := k0; exact DataW.trod_lt m _ _ _ hm
  have k1 := h1
  have lt1 : ∀ x ∈ p1, x.block < W.heap.size := by obtain ⟨m, hm⟩ := k1; exact DataW.trod_lt m _ _ _ hm
  have k2 := h2
  have lt2 : ∀ x ∈ p2, x.block < W.heap.size := by obtain ⟨m, hm⟩ := k2; exact DataW.trod_lt m _ _ _ hm
  have k3 := h3
  have lt3 : ∀ x ∈ p3, x.block < W.heap.size := by obtain ⟨m, hm⟩ := k3; exact DataW.trod_lt m _ _ _ hm
  have k4 := h4
  have lt4 : ∀ x ∈ p4, x.block < W.heap.size := by obtain ⟨m, hm⟩ := k4; exact DataW.trod_lt m _ _ _ hm
  obtain ⟨x0, rfl, b0⟩ := arg_int Try.underlying3 (hval 0 3 _ rfl rfl) h0
  obtain ⟨A1, n1, c1, xs1, rfl, R1⟩ := arg_claims (hval 1 22 _ rfl rfl) h1
  obtain ⟨A2, n2, c2, xs2, rfl, R2⟩ := arg_wishes (hval 2 23 _ rfl rfl) h2
  obtain ⟨A3, n3, c3, xs3, rfl, R3⟩ := arg_slots (hval 3 35 _ rfl rfl) h3
  obtain ⟨A4, n4, c4, xs4, rfl, R4, b4, m4⟩ := arg_ints Try.underlying27 Try.underlying3 (by kernel_rfl) (hval 4 27 _ rfl rfl) h4
  clear hA0 hval0
  refine (assignHolds_walk W x0 b0 A1 n1 c1 xs1 R1 A2 n2 c2 xs2 R2 A3 n3 c3 xs3 R3 A4 n4 c4 xs4 R4 b4 m4).mono fun e W' ⟨he, bel⟩ => ?_
  subst he
  exact ⟨_, rfl, _, _, _, [], _, [], hW', trodAll_mk1 (shut_bool Try.underlying4 _), (trodAll_cons_mk (Below.trod laidOut (by kernel_rfl) (of_decide_eq_true (by kernel_rfl)) k0 bel lt0) (trodAll_cons_mk (Below.trod laidOut (by kernel_rfl) (of_decide_eq_true (by kernel_rfl)) k1 bel lt1) (trodAll_cons_mk (Below.trod laidOut (by kernel_rfl) (of_decide_eq_true (by kernel_rfl)) k2 bel lt2) (trodAll_cons_mk (Below.trod laidOut (by kernel_rfl) (of_decide_eq_true (by kernel_rfl)) k3 bel lt3) (trodAll_cons_mk (Below.trod laidOut (by kernel_rfl) (of_decide_eq_true (by kernel_rfl)) k4 bel lt4) trodAll_mk0))))), rfl, bel.frame _, fun h => by cases h⟩

theorem assignHolds_over : Rows.assignHoldsRow.holds Try.pinned (OpenSpec.ofChange Rows.assignHoldsSpec) :=
  OpenClaim.holds_of_wide 10 Try.f10 rfl rfl rfl rfl rfl rfl rfl ⟨rfl, rfl, rfl, rfl, rfl⟩ rfl rfl rfl rfl rfl (by kernel_rfl) Try.func10 (by kernel_rfl)
    (of_decide_eq_true (by kernel_rfl)) (by unfold Func.isWrapper; first | (rw [if_pos (by decide +kernel)]; kernel_rfl) | (rw [if_neg (by decide +kernel)]; exact ⟨rfl, rfl⟩))
    (fun os started H enc _ => assignHolds_lifted os started H enc)

theorem assignHolds_holds : Rows.AssignHoldsSaid := assignHolds_over
#print axioms assignHolds_holds
end Go.Proofs.Yteckijkmcafpaaa
