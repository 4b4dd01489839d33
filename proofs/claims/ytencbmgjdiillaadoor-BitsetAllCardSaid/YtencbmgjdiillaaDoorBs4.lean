/- Contracts of bitset.Of and bitset.Below. -/
import Derived.Test.YtencbmgjdiillaaDoorBs3
namespace Go.Proofs.YtencbmgjdiillaaDoor
open Go.RowKit

def zero8 (W : World) (g : Nat) : World :=
  (((((((W.setCell ⟨g, 0, none⟩ (.int .u64 0)).setCell ⟨g, 1, none⟩ (.int .u64 0)).setCell ⟨g, 2, none⟩ (.int .u64 0)).setCell ⟨g, 3, none⟩ (.int .u64 0)).setCell ⟨g, 4, none⟩ (.int .u64 0)).setCell ⟨g, 5, none⟩ (.int .u64 0)).setCell ⟨g, 6, none⟩ (.int .u64 0)).setCell ⟨g, 7, none⟩ (.int .u64 0)
theorem set8_zero (W : World) (g : Nat) : set8 W g 0 = zero8 W g := by simp [set8, zero8, wd_zero]

def ofGo (acc : Nat) : List Int → Option Nat
  | [] => some acc
  | i :: r => if 0 ≤ i ∧ i < 512 then ofGo (acc ||| 2 ^ i.toNat) r else none
/-- the set of numbers, and the error -/
def ofF (l : List Int) : Nat × Int := match ofGo 0 l with | some S => (S, 0) | none => (0, 2)

set_option maxHeartbeats 2000000 in
theorem of_any (A : Option Addr) (n c : Nat) (w : World) (l : List Int) (hn : n ≤ 9223372036854775807) (hl : Row1 intV w w.heap.size A n l) :
    Calls Tryd.prog 21 #[.slice A n c] w (RetPost (.tuple #[sV (ofF l).1, .int .i64 (ofF l).2]) w.heap.size w) := by
  have Hl := Lib.hid hl
  have Hlen := Eqn.mk hl.1
  clear hl
  go_enter Tryd.func21, Tryd.ntmps21
  go_wp2_with fail
  obtain ⟨W0, hW0⟩ : ∃ W0, W0 = (w.alloc (.cells (sL 0).toArray 28)).alloc (.cells (sL 0).toArray 28) := ⟨_, rfl⟩
  have hR : Blk W0 w.heap.size 28 (tabL 8 (sC 0)) := by rw [hW0, ← sL_tab]; exact (blk_new w _ _).alloc _
  have hS : Blk W0 (w.heap.size + 1) 28 (tabL 8 (sC 0)) := by
    rw [hW0, ← sL_tab]; have := blk_new (w.alloc (.cells (sL 0).toArray 28)) (sL 0) 28; rwa [World.size_alloc] at this
  have hB : Below w.heap.size w W0 := by rw [hW0]; exact ((Below.refl _ w).alloc (Nat.le_refl _) _).alloc (by simp) _
  rw [sL_zero] at hW0
  rw [← hW0]
  have HS := Lib.hid hS
  have HR := Lib.hid hR
  have HB := Lib.hid hB
  clear hW0 hS hR hB
  go_loopw [9] (fun i wr => ∃ (k S : Nat), k ≤ n ∧ i = .int .i64 k ∧ Blk wr (w.heap.size + 1) 28 (tabL 8 (sC S)) ∧ Blk wr w.heap.size 28 (tabL 8 (sC 0)) ∧ Below w.heap.size w wr ∧ Eqn (ofGo 0 l) (ofGo S (l.drop k))) (fun i _ => n - (intOf i).toNat)
  case atStart => exact ⟨0, 0, Nat.zero_le _, rfl, HS.out, HR.out, HB.out, rfl⟩
  case round =>
    clear HS HR HB
    obtain ⟨k, S, hk, rfl, hS, hR, hB, HE⟩ := hrel
    have HB := Lib.hid hB
    have HS := Lib.hid hS
    have HR := Lib.hid hR
    obtain ⟨wo, hwo⟩ : ∃ wo : World, wo = wr := ⟨_, rfl⟩
    by_cases hlt : k < n
    · obtain ⟨p, hp, hpd⟩ := drop_at (xs := l) (k := k) (by rw [Hlen.out]; exact hlt)
      obtain ⟨b, off, rfl, hbl, hc⟩ := (Hl.out.below hB).2 (by omega)
      have c0 := hc k p hp
      simp only [intV] at c0
      have HE' : Eqn (ofGo 0 l) (if 0 ≤ p ∧ p < 512 then ofGo (S ||| 2 ^ p.toNat) (l.drop (k + 1)) else none) := by
        have := HE.out; rw [hpd, ofGo] at this; exact this
      have j0 : (k : Int) < (n : Int) := by omega
      clear hc hp hpd HE hS hR hB
      by_cases hi : 0 ≤ p ∧ p < 512
      · have HE2 : Eqn (ofGo 0 l) (ofGo (S ||| 2 ^ p.toNat) (l.drop (k + 1))) := by rw [Eqn, HE'.out, if_pos hi]
        obtain ⟨q, j, hq, hj, hqj⟩ : ∃ q j : Nat, q < 8 ∧ j < 64 ∧ p = 64 * (q : Int) + (j : Int) := ⟨(p / 64).toNat, (p % 64).toNat, by omega, by omega, by omega⟩
        have HQ := Lib.hid hqj
        have e1 : IntKind.i64.wrap (p.tdiv 64) = (q : Int) := by rw [IntWalk.i64_quo _ _ (by omega)]; omega
        have e2 : p.tmod 64 = (j : Int) := by rw [IntWalk.rem_in _ _ (by omega)]; omega
        have e3 := wrap_pow hj
        have h1 : decide (0 ≤ p ∧ p < 512) = true := by simpa using hi
        have j1 : (q : Int) < 8 := by omega
        have c1 : wr.cell? ⟨w.heap.size + 1, q, none⟩ = some (.int .u64 (wd S q)) := HS.out.cell (tabL_at hq)
        have f1 : wr.frozen? ⟨w.heap.size + 1, q, none⟩ = false := HS.out.frozen q
        have hlt2 := HS.out.lt
        clear hqj hi HE' hwo
        go_wp2_with fail
        refine (inRange_any p _).mono ?_
        rintro e w1 ⟨rfl, rfl⟩
        go_wp2_with fail
        refine Lx.region (C := fun _ => True) (hs := []) (by kernel_rfl) (by kernel_rfl) trivial ?_
        repeat' (first
          | (refine Lx.lex_no (Lx.n1 rfl rfl rfl (by with_reducible rfl)) (fun K hK => ?_); go_simp; refine hK _ ?_; clear hK K)
          | (refine Lx.lex_no (Lx.n0 rfl rfl rfl (by with_reducible rfl)) (fun K hK => ?_); go_simp; refine hK _ ?_; clear hK K)
          | (refine Lx.lex_no (Lx.n2 rfl rfl rfl) (fun K hK => ?_); go_simp; refine hK _ ?_; clear hK K)
          | (refine Lx.lex_pure (v := ?_) rfl (by first | exact Lx.w0 rfl | exact Lx.w1 rfl rfl rfl (by with_reducible rfl)) ?_ (fun K hK => ?_); rotate_left 1; (intro w' hCw; (try dsimp only at hCw); go_simp; done); go_simp; refine hK _ ?_; clear hK K)
          | (refine Lx.lex_pure (v := ?_) rfl (by first | exact Lx.w0 rfl | exact Lx.w1 rfl rfl rfl (by with_reducible rfl)) ?_ (fun K hK => ?_); rotate_left 1; (intro w' hCw; (try dsimp only at hCw); go_simp; with_reducible rfl); go_simp; refine hK _ ?_; clear hK K)
          | (refine Lx.lex_read (v := ?_) rfl (by first | exact Lx.w0 rfl | exact Lx.w1 rfl rfl rfl (by with_reducible rfl)) ?_ (fun K hK => ?_); rotate_left 1; (go_simp; done); go_simp; refine hK _ ?_; clear hK K)
          | (refine Lx.lex_read (v := ?_) rfl (by first | exact Lx.w0 rfl | exact Lx.w1 rfl rfl rfl (by with_reducible rfl)) ?_ (fun K hK => ?_); rotate_left 1; (go_simp; with_reducible rfl); go_simp; refine hK _ ?_; clear hK K)
          | (refine Lx.lex_eff rfl (by first | exact Lx.w0 rfl | exact Lx.w1 rfl rfl rfl (by with_reducible rfl)) (fun K hK => ?_); go_simp; (first | fail | skip); refine hK _ _ (trivial) ?_; clear hK K)
          | (refine Lx.lex_cases rfl rfl rfl (fun hgd K hK => ?_) (fun hgd K hK => ?_) <;> (try simp only [decide_eq_true_eq, decide_eq_false_iff_not] at hgd) <;> (first | (exfalso; omega) | (go_simp; refine hK _ ?_; clear hK K))))
        all_goals (refine Lx.lex_nil ?_)
        go_wp2_with fail
        clear e1 e2 e3
        go_roundw
        case rel => exact ⟨k + 1, S ||| 2 ^ p.toNat, by omega, by go_num, by rw [show p.toNat = 64 * q + j by have := HQ.out; omega]; exact (HS.out.orbit hj).drew, (HR.out.other _ _ (by simp)).drew, (HB.out.setCell (p := ⟨w.heap.size + 1, q, none⟩) (by simp) _).drew, HE2⟩
        case measure => simp [intOf]; omega
      · have HF : Eqn (ofF l) (0, 2) := by rw [Eqn, ofF, HE'.out, if_neg hi]
        have h1 : decide (0 ≤ p ∧ p < 512) = false := by simpa using hi
        obtain ⟨d0, d1, d2, d3, d4, d5, d6, d7⟩ := HR.out.eight
        have hf : ∀ o, wr.frozen? ⟨w.heap.size, o, none⟩ = false := HR.out.frozen
        have hlt2 := HR.out.lt
        clear hi HE' hwo
        go_wp2_with fail
        refine (inRange_any p _).mono ?_
        rintro e w1 ⟨rfl, rfl⟩
        go_wp2_with fail
        have b2 := HR.out.set8 0
        have HB2 := below_set8 0 HB.out (Nat.le_refl w.heap.size)
        rw [set8_zero] at b2 HB2
        change bodyPost _ _ _ _ _ (zero8 wr w.heap.size)
        generalize zero8 wr w.heap.size = W2 at *
        obtain ⟨x0, x1, x2, x3, x4, x5, x6, x7⟩ := b2.eight
        refine bodyPost_ret (v := .tuple #[sV 0, .int .i64 2]) (by simp [results, Tryd.results21, go_sem, sV, x0, x1, x2, x3, x4, x5, x6, x7]) rfl ⟨by rw [HF.out], HB2⟩
    · have HF : Eqn (ofF l) (S, 0) := by
        have := HE.out
        rw [drop_end (by rw [Hlen.out]; omega), ofGo] at this
        rw [Eqn, ofF, this]
      obtain ⟨c0, c1, c2, c3, c4, c5, c6, c7⟩ := hS.eight
      obtain ⟨d0, d1, d2, d3, d4, d5, d6, d7⟩ := hR.eight
      have hf : ∀ o, wr.frozen? ⟨w.heap.size, o, none⟩ = false := hR.frozen
      have hlt2 := hR.lt
      clear hS hR hB hwo HE
      go_wp2_with fail
      have b2 := HR.out.set8 S
      have HB2 := below_set8 S HB.out (Nat.le_refl w.heap.size)
      change bodyPost _ _ _ _ _ (set8 wr w.heap.size S)
      generalize set8 wr w.heap.size S = W2 at *
      obtain ⟨x0, x1, x2, x3, x4, x5, x6, x7⟩ := b2.eight
      refine bodyPost_ret (v := .tuple #[sV S, .int .i64 0]) (by simp [results, Tryd.results21, go_sem, sV, x0, x1, x2, x3, x4, x5, x6, x7]) rfl ⟨by rw [HF.out], HB2⟩

/-- word k of the set of all numbers below n -/
def lowW (n k : Nat) : Nat := if 64 * k + 64 ≤ n then 18446744073709551615 else if 64 * k < n then 2 ^ (n - 64 * k) - 1 else 0
theorem lowW_wd (n k : Nat) : lowW n k = wd (2 ^ n - 1) k := by
  apply Nat.eq_of_testBit_eq
  intro j
  rw [wd_tb, Nat.testBit_two_pow_sub_one, lowW]
  split
  · rw [show (18446744073709551615 : Nat) = 2 ^ 64 - 1 from rfl, Nat.testBit_two_pow_sub_one]
    by_cases hj : j < 64
    · simp [hj]; omega
    · simp [hj]
  · split
    · rw [Nat.testBit_two_pow_sub_one]
      by_cases hj : j < 64
      · simp [hj]; omega
      · simp [hj]; omega
    · rw [Nat.zero_testBit]
      symm
      simp; omega
theorem low_fit {n : Nat} (hn : n ≤ 512) : Fit (2 ^ n - 1) := fun i hi => by rw [Nat.testBit_two_pow_sub_one]; simp; omega

/-- the set of all numbers below n, and the error -/
def belowF (n : Int) : Nat × Int := if 0 ≤ n ∧ n ≤ 512 then (2 ^ n.toNat - 1, 0) else (0, 2)

theorem below_out (n : Int) (w : World) (hn : ¬ (0 ≤ n ∧ n ≤ 512)) : Calls Tryd.prog 16 #[.int .i64 n] w (RetPost (.tuple #[sV 0, .int .i64 2]) w.heap.size w) := by
  rw [sV_zero]
  by_cases h0 : n < 0
  · clear hn
    go_enter Tryd.func16, Tryd.ntmps16
    go_wp2_with fail
    refine bodyPost_ret (v := .tuple #[.agg #[.int .u64 0, .int .u64 0, .int .u64 0, .int .u64 0, .int .u64 0, .int .u64 0, .int .u64 0, .int .u64 0], .int .i64 2]) (by simp [results, Tryd.results16, go_sem]) rfl ⟨rfl, ?_⟩
    exact (Below.refl _ w).alloc (Nat.le_refl _) _
  · have h1 : 512 < n := by omega
    clear hn
    go_enter Tryd.func16, Tryd.ntmps16
    go_wp2_with fail
    refine bodyPost_ret (v := .tuple #[.agg #[.int .u64 0, .int .u64 0, .int .u64 0, .int .u64 0, .int .u64 0, .int .u64 0, .int .u64 0, .int .u64 0], .int .i64 2]) (by simp [results, Tryd.results16, go_sem]) rfl ⟨rfl, ?_⟩
    exact (Below.refl _ w).alloc (Nat.le_refl _) _

set_option maxHeartbeats 2000000 in
theorem below_in (n : Nat) (w : World) (hn : n ≤ 512) : Calls Tryd.prog 16 #[.int .i64 n] w (RetPost (.tuple #[sV (2 ^ n - 1), .int .i64 0]) w.heap.size w) := by
  have HL := Lib.hid (lowW_wd n)
  generalize 2 ^ n - 1 = U at *
  have h0 : ¬ (512 : Int) < (n : Int) := by omega
  go_enter Tryd.func16, Tryd.ntmps16
  go_wp2_with fail
  obtain ⟨W0, hW0⟩ : ∃ W0, W0 = (w.alloc (.cells (sL 0).toArray 28)).alloc (.cells (sL 0).toArray 28) := ⟨_, rfl⟩
  have hR : Blk W0 w.heap.size 28 (tabL 8 (sC 0)) := by rw [hW0, ← sL_tab]; exact (blk_new w _ _).alloc _
  have hS : Blk W0 (w.heap.size + 1) 28 (tabL 8 (sC 0)) := by
    rw [hW0, ← sL_tab]; have := blk_new (w.alloc (.cells (sL 0).toArray 28)) (sL 0) 28; rwa [World.size_alloc] at this
  have hB : Below w.heap.size w W0 := by rw [hW0]; exact ((Below.refl _ w).alloc (Nat.le_refl _) _).alloc (by simp) _
  rw [sL_zero] at hW0
  rw [← hW0]
  have HS := Lib.hid hS
  have HR := Lib.hid hR
  have HB := Lib.hid hB
  clear hW0 hS hR hB
  go_loopw [14] (fun i wr => ∃ (k : Nat), k ≤ 8 ∧ i = .int .i64 k ∧ Blk wr (w.heap.size + 1) 28 (tabL 8 (fun j => if j < k then sC U j else sC 0 j)) ∧ Blk wr w.heap.size 28 (tabL 8 (sC 0)) ∧ Below w.heap.size w wr) (fun i _ => 8 - (intOf i).toNat)
  case atStart => exact ⟨0, by decide, rfl, HS.out.tab (fun j _ => by simp), HR.out, HB.out⟩
  case round =>
    clear HS HR HB
    obtain ⟨k, hk, rfl, hS, hR, hB⟩ := hrel
    have HB := Lib.hid hB
    have HS := Lib.hid hS
    have HR := Lib.hid hR
    by_cases h8 : k = 8
    · subst h8
      have hS1 : Blk wr (w.heap.size + 1) 28 (tabL 8 (sC U)) := hS.tab (fun j hj => by simp [hj])
      obtain ⟨c0, c1, c2, c3, c4, c5, c6, c7⟩ := hS1.eight
      obtain ⟨d0, d1, d2, d3, d4, d5, d6, d7⟩ := hR.eight
      have hf : ∀ o, wr.frozen? ⟨w.heap.size, o, none⟩ = false := hR.frozen
      have hlt2 := hR.lt
      clear hS hR hB hS1 hk
      go_wp2_with fail
      have b2 := HR.out.set8 U
      have HB2 := below_set8 U HB.out (Nat.le_refl w.heap.size)
      change bodyPost _ _ _ _ _ (set8 wr w.heap.size U)
      generalize set8 wr w.heap.size U = W2 at *
      obtain ⟨x0, x1, x2, x3, x4, x5, x6, x7⟩ := b2.eight
      refine bodyPost_ret (v := .tuple #[sV U, .int .i64 0]) (by simp [results, Tryd.results16, go_sem, sV, x0, x1, x2, x3, x4, x5, x6, x7]) rfl ⟨rfl, HB2⟩
    · have c1 : wr.cell? ⟨w.heap.size + 1, k, none⟩ = some (.int .u64 0) := hS.cell (by rw [tabL_at (by omega)]; simp [sC, wd_zero])
      have f1 : wr.frozen? ⟨w.heap.size + 1, k, none⟩ = false := hS.frozen k
      have hlt := hS.lt
      have j1 : (k : Int) < 8 := by omega
      have HW := Eqn.mk (HL.out k)
      clear hS hR hB
      have fin : ∀ v : Nat, v = wd U k → Blk (wr.setCell ⟨w.heap.size + 1, k, none⟩ (.int .u64 v)) (w.heap.size + 1) 28 (tabL 8 (fun j => if j < k + 1 then sC U j else sC 0 j)) := by
        rintro v rfl
        have := HS.out.set_ k (.int .u64 (wd U k))
        rw [tabL_set] at this
        refine this.tab fun j hj => ?_
        by_cases h1 : j = k
        · subst h1; simp [sC]
        · by_cases h2 : j < k
          · simp [h1, h2, show j < k + 1 by omega]
          · simp [h1, h2, show ¬ j < k + 1 by omega]
      have FIN := Lib.hid fin
      clear fin
      by_cases hc1 : 64 * k + 64 ≤ n
      · have e1 : (64 : Int) ≤ (n : Int) - 64 * (k : Int) := by omega
        have HV : Eqn 18446744073709551615 (wd U k) := by rw [Eqn, ← HW.out, lowW, if_pos hc1]
        clear HW
        go_wp2_with fail
        go_roundw
        case rel => exact ⟨k + 1, by omega, by go_num, FIN.out _ HV.out, HR.out.other _ _ (by simp), HB.out.setCell (p := ⟨w.heap.size + 1, k, none⟩) (by simp) _⟩
        case measure => simp [intOf]; omega
      · by_cases hc2 : 64 * k < n
        · obtain ⟨m, hm⟩ : ∃ m : Nat, n = 64 * k + m := ⟨n - 64 * k, by omega⟩
          have HV : Eqn (2 ^ m - 1) (wd U k) := by rw [Eqn, ← HW.out, lowW, if_neg hc1, if_pos hc2, hm]; congr 2; omega
          have hp := pow64_lt (j := m) (by omega)
          have hp2 : 0 < 2 ^ m := Nat.two_pow_pos m
          have e1 : IntKind.i64.wrap ((n : Int) - 64 * (k : Int)) = (m : Int) := by rw [IntWalk.i64_in _ (by omega)]; omega
          have e2 : ¬ (64 : Int) ≤ (m : Int) := by omega
          have e3 : (0 : Int) < (m : Int) := by omega
          have e4 := wrap_pow (j := m) (by omega)
          have e5 : IntKind.u64.wrap (2 ^ m - 1) = ((2 ^ m - 1 : Nat) : Int) := by
            rw [pow_cast]
            generalize 2 ^ m = x at *
            rw [IntWalk.u64_in _ (by omega)]; omega
          clear HW hm hc1 hc2 hp hp2
          go_wp2_with fail
          clear e1 e4 e5
          go_roundw
          case rel => exact ⟨k + 1, by omega, by go_num, FIN.out _ HV.out, HR.out.other _ _ (by simp), HB.out.setCell (p := ⟨w.heap.size + 1, k, none⟩) (by simp) _⟩
          case measure => simp [intOf]; omega
        · have e1 : ¬ (64 : Int) ≤ (n : Int) - 64 * (k : Int) := by omega
          have e2 : (n : Int) - 64 * (k : Int) ≤ 0 := by omega
          have HV : Eqn 0 (wd U k) := by rw [Eqn, ← HW.out, lowW, if_neg hc1, if_neg hc2]
          clear HW
          go_wp2_with fail
          go_roundw
          case rel =>
            refine ⟨k + 1, by omega, by go_num, HS.out.tab (fun j hj => ?_), HR.out, HB.out⟩
            by_cases h1 : j = k
            · subst h1; simp [sC, ← HV.out, wd_zero]
            · by_cases h2 : j < k
              · simp [h2, show j < k + 1 by omega]
              · simp [h2, show ¬ j < k + 1 by omega]
          case measure => simp [intOf]; omega
end Go.Proofs.YtencbmgjdiillaaDoor
