/- Contracts of band.Range, Of, top and of the reference's Of, Left, Blocks, Cleared, At. -/
import Derived.Test.YtpdhelhngdeoeaaMem
import Derived.Test.YtpdhelhngdeoeaaBlk
import Derived.IntWalk
namespace Go.Proofs.Ytpdhelhngdeoeaa
open Go.RowKit

def rngF (n : Int) : Int × Int × Int := if n = 1 then (2, 6, 0) else if n = 2 then (7, 13, 0) else if n = 3 then (14, 51, 0) else (0, 0, 2)
theorem range_any (n : Int) (w : World) : Calls Try.prog 7 #[.int .i64 n] w fun e w' => e = .returned (v3 (rngF n)) ∧ w = w' := by
  by_cases h1 : n = 1
  · subst h1
    go_enter Try.func7, Try.ntmps7
    go_wp2
    go_ret3
    exact ⟨rfl, rfl⟩
  · by_cases h2 : n = 2
    · subst h2
      go_enter Try.func7, Try.ntmps7
      go_wp2
      go_ret3
      exact ⟨rfl, rfl⟩
    · by_cases h3 : n = 3
      · subst h3
        go_enter Try.func7, Try.ntmps7
        go_wp2
        go_ret3
        exact ⟨rfl, rfl⟩
      · have HR : Eqn (rngF n) (0, 0, 2) := by rw [Eqn, rngF, if_neg h1, if_neg h2, if_neg h3]
        go_enter Try.func7, Try.ntmps7
        go_wp2
        go_ret3
        exact ⟨by rw [HR.out]; rfl, rfl⟩

/-- the band of a channel, or 0 -/
def ofB (c : Int) : Int := if 2 ≤ c ∧ c ≤ 6 then 1 else if 7 ≤ c ∧ c ≤ 13 then 2 else if 14 ≤ c ∧ c ≤ 51 then 3 else 0
def ofP (c : Int) : Int × Int := if ofB c = 0 then (0, 2) else (ofB c, 0)

theorem ofRef_any (c : Int) (w : World) : Calls Try.prog 9 #[.int .i64 c] w fun e w' => e = .returned (.int .i64 (ofB c)) ∧ w = w' := by
  by_cases h1 : 2 ≤ c ∧ c ≤ 6
  · have HR : Eqn (ofB c) 1 := by rw [Eqn, ofB, if_pos h1]
    obtain ⟨a1, a2⟩ := h1
    go_enter Try.func9, Try.ntmps9
    go_wp2
    go_ret
    exact ⟨ret_int HR.out.symm, rfl⟩
  · by_cases h2 : 7 ≤ c ∧ c ≤ 13
    · have HR : Eqn (ofB c) 2 := by rw [Eqn, ofB, if_neg h1, if_pos h2]
      obtain ⟨a1, a2⟩ := h2
      have a3 : 2 ≤ c := by omega
      have a4 : ¬ c ≤ 6 := by omega
      clear h1
      go_enter Try.func9, Try.ntmps9
      go_wp2
      go_ret
      exact ⟨ret_int HR.out.symm, rfl⟩
    · by_cases h3 : 14 ≤ c ∧ c ≤ 51
      · have HR : Eqn (ofB c) 3 := by rw [Eqn, ofB, if_neg h1, if_neg h2, if_pos h3]
        obtain ⟨a1, a2⟩ := h3
        have a3 : 2 ≤ c := by omega
        have a4 : ¬ c ≤ 6 := by omega
        have a5 : 7 ≤ c := by omega
        have a6 : ¬ c ≤ 13 := by omega
        clear h1 h2
        go_enter Try.func9, Try.ntmps9
        go_wp2
        go_ret
        exact ⟨ret_int HR.out.symm, rfl⟩
      · have HR : Eqn (ofB c) 0 := by rw [Eqn, ofB, if_neg h1, if_neg h2, if_neg h3]
        by_cases h4 : c < 2
        · have a1 : ¬ 2 ≤ c := by omega
          have a2 : ¬ 7 ≤ c := by omega
          have a3 : ¬ 14 ≤ c := by omega
          clear h1 h2 h3 h4
          go_enter Try.func9, Try.ntmps9
          go_wp2
          go_ret
          exact ⟨ret_int HR.out.symm, rfl⟩
        · have a1 : 2 ≤ c := by omega
          have a2 : 7 ≤ c := by omega
          have a3 : 14 ≤ c := by omega
          have a4 : ¬ c ≤ 51 := by omega
          have a5 : ¬ c ≤ 13 := by omega
          have a6 : ¬ c ≤ 6 := by omega
          clear h1 h2 h3 h4
          go_enter Try.func9, Try.ntmps9
          go_wp2
          go_ret
          exact ⟨ret_int HR.out.symm, rfl⟩

theorem ofB_spec (c : Int) (j : Nat) (h0 : 1 ≤ j) (h1 : j ≤ 3) (hno : ∀ i : Nat, 1 ≤ i → i < j → ¬ ((rngF i).1 ≤ c ∧ c ≤ (rngF i).2.1)) (hy : (rngF j).1 ≤ c ∧ c ≤ (rngF j).2.1) : ofP c = ((j : Int), 0) := by
  have hj : j = 1 ∨ j = 2 ∨ j = 3 := by omega
  rcases hj with rfl | rfl | rfl
  · simp [rngF] at hy
    have h : ofB c = 1 := by unfold ofB; rw [if_pos hy]
    unfold ofP; rw [h]; rfl
  · simp [rngF] at hy
    have h : ofB c = 2 := by unfold ofB; rw [if_neg (by omega), if_pos hy]
    unfold ofP; rw [h]; rfl
  · simp [rngF] at hy
    have h : ofB c = 3 := by unfold ofB; rw [if_neg (by omega), if_neg (by omega), if_pos hy]
    unfold ofP; rw [h]; rfl
theorem ofB_none (c : Int) (hno : ∀ i : Nat, 1 ≤ i → i < 4 → ¬ ((rngF i).1 ≤ c ∧ c ≤ (rngF i).2.1)) : ofP c = (0, 2) := by
  have h1 := hno 1 (by omega) (by omega)
  have h2 := hno 2 (by omega) (by omega)
  have h3 := hno 3 (by omega) (by omega)
  simp [rngF] at h1 h2 h3
  have h : ofB c = 0 := by unfold ofB; rw [if_neg (by omega), if_neg (by omega), if_neg (by omega)]
  unfold ofP; rw [h]; rfl

theorem of26_any (c : Int) (w : World) : Calls Try.prog 8 #[.int .i64 c] w fun e w' => e = .returned (v2 (ofP c)) ∧ w = w' := by
  go_enter Try.func8, Try.ntmps8
  go_wp2_with fail
  go_loop [4] (fun i => ∃ j : Nat, 1 ≤ j ∧ j ≤ 4 ∧ i = .int .i64 j ∧ Hid (∀ i : Nat, 1 ≤ i → i < j → ¬ ((rngF i).1 ≤ c ∧ c ≤ (rngF i).2.1))) (fun i => 4 - (intOf i).toNat)
  case atStart => exact ⟨1, by omega, by omega, rfl, fun i h1 h2 => by omega⟩
  case round =>
    obtain ⟨j, h1, h4, rfl, HN⟩ := hrel
    by_cases hlt : j < 4
    · have j0 : (j : Int) ≤ 3 := by omega
      go_wp2_with fail
      refine (range_any j _).mono ?_
      rintro e w1 ⟨rfl, rfl⟩
      have HS := Lib.hid (ofB_spec c j h1 (by omega) HN.out)
      have HN2 : Hid (¬ ((rngF j).1 ≤ c ∧ c ≤ (rngF j).2.1) → ∀ i : Nat, 1 ≤ i → i < j + 1 → ¬ ((rngF i).1 ≤ c ∧ c ≤ (rngF i).2.1)) := Lib.hid (fun hh i h1 h2 => by
        rcases Nat.lt_or_ge i j with h | h
        · exact HN.out i h1 h
        · obtain rfl : i = j := by omega
          exact hh)
      generalize rngF (j : Int) = t at *
      obtain ⟨lo, hi, er⟩ := t
      dsimp only [v3] at HS HN2 ⊢
      clear HN
      by_cases ha : lo ≤ c
      · by_cases hb : c ≤ hi
        · have HV := Eqn.mk (HS.out ⟨ha, hb⟩)
          clear HS HN2
          go_wp2_with fail
          go_ret2
          exact ⟨by rw [HV.out]; rfl, rfl⟩
        · have HN3 := Lib.hid (HN2.out (fun h => hb h.2))
          clear HS HN2
          go_wp2_with fail
          go_round
          case rel => exact ⟨j + 1, by omega, by omega, by go_num, HN3.out⟩
          case measure => simp [intOf]; omega
      · have HN3 := Lib.hid (HN2.out (fun h => ha h.1))
        clear HS HN2
        go_wp2_with fail
        go_round
        case rel => exact ⟨j + 1, by omega, by omega, by go_num, HN3.out⟩
        case measure => simp [intOf]; omega
    · obtain rfl : j = 4 := by omega
      have HV := Eqn.mk (ofB_none c HN.out)
      clear HN hlt
      go_wp2_with fail
      go_ret2
      exact ⟨by rw [HV.out]; rfl, rfl⟩

def topF (t : Int) : Int := wrap64 (51 - t)
theorem top_any (t : Int) (w : World) : Calls Try.prog 50 #[.agg #[.int .i64 t]] w (RetPost (.int .i64 (topF t)) w.heap.size w) := by
  go_enter Try.func50, Try.ntmps50
  go_wp2_with fail
  go_ret
  exact ⟨rfl, (Below.refl _ w).alloc (Nat.le_refl _) _⟩
theorem to_any (t : Int) (w : World) : Calls Try.prog 12 #[.int .i64 t] w (RetPost (.agg #[.int .i64 t]) w.heap.size w) := by
  go_enter Try.func12, Try.ntmps12
  go_wp2_with fail
  refine bodyPost_ret (v := .agg #[.int .i64 t]) (by simp [results, Try.results12, go_sem]) rfl ⟨rfl, (Below.refl _ w).alloc (Nat.le_refl _) _⟩
theorem rblk_any (x : Int) (w : World) (h : 0 ≤ x) (h2 : x ≤ 100) : Calls Try.prog 16 #[.int .i64 x] w fun e w' => e = .returned (.int .i64 (12 - x)) ∧ w = w' := by
  go_enter Try.func16, Try.ntmps16
  go_wp2_with fail
  go_ret
  exact ⟨ret_int (by go_num), rfl⟩
/-- whether a channel may be assigned: the reference's words -/
def leftR (t c : Int) : Bool := decide (c < 14) || (decide (c ≤ topF t) && !decide (c = 37))
theorem leftR_any (c t : Int) (w : World) : Calls Try.prog 33 #[.int .i64 c, .agg #[.int .i64 t]] w (RetPost (.bool (leftR t c)) w.heap.size w) := by
  have hv : leftR t c = (decide (c < 14) || (decide (c ≤ wrap64 (51 - t)) && (c != 37))) := by unfold leftR topF; congr 2
  rw [hv]
  go_enter Try.func33, Try.ntmps33
  go_wp2_with fail
  all_goals (go_ret; refine ⟨?_, (Below.refl _ w).alloc (Nat.le_refl _) _⟩)
  all_goals first | rfl | (refine ret_bool ?_; first | rfl | (simp; done) | (simp; omega) | (have hh : decide (c ≤ wrap64 (51 - t)) = true := decide_eq_true (by assumption); rw [hh]; rfl))

theorem cleared_any (w : World) : Calls Try.prog 17 #[] w fun e w' => e = .returned (.slice (some ⟨w.heap.size, 0, none⟩) 11 11) ∧ w' = w.alloc (.cells #[.int .i64 24, .int .i64 23, .int .i64 21, .int .i64 19, .int .i64 18, .int .i64 14, .int .i64 13, .int .i64 12, .int .i64 10, .int .i64 8, .int .i64 7] 3) := by
  go_enter Try.func17, Try.ntmps17
  go_wp2_with fail
  go_ret
  exact ⟨rfl, rfl⟩
/-- the index of a target, or -1 -/
def atGo (c : Int) (k : Nat) : Nat → Int
  | 0 => -1
  | f + 1 => if keyE k = c then (k : Int) else atGo c (k + 1) f
def atF (c : Int) : Int := atGo c 0 11
def keysL : List Int := [24, 23, 21, 19, 18, 14, 13, 12, 10, 8, 7]
theorem keysL_at : ∀ k : Fin 11, keysL[k.1]? = some (keyE k.1) := by decide
theorem cleared_row (w : World) : Row1 intV (w.alloc (.cells #[.int .i64 24, .int .i64 23, .int .i64 21, .int .i64 19, .int .i64 18, .int .i64 14, .int .i64 13, .int .i64 12, .int .i64 10, .int .i64 8, .int .i64 7] 3)) (w.heap.size + 1) (some ⟨w.heap.size, 0, none⟩) 11 keysL := row1_new w intV 3 keysL
set_option maxHeartbeats 1000000 in
theorem at_any (c : Int) (w : World) : Calls Try.prog 11 #[.agg #[.int .i64 c]] w (RetPost (.int .i64 (atF c)) w.heap.size w) := by
  go_enter Try.func11, Try.ntmps11
  go_wp2_with fail
  refine (cleared_any _).mono ?_
  rintro e W1 ⟨rfl, hW1⟩
  have hr := cleared_row (w.alloc (.cells #[.int .i64 c] 32))
  rw [← hW1] at hr
  have hc : W1.cell? ⟨w.heap.size, 0, none⟩ = some (.int .i64 c) := by
    rw [hW1]; exact (((Below.refl (w.alloc (.cells #[.int .i64 c] 32)).heap.size _).alloc (Nat.le_refl _) _).cell (p := ⟨w.heap.size, 0, none⟩) (by simp)).trans (by simp [go_sem])
  have hB : Below w.heap.size w W1 := by rw [hW1]; exact ((Below.refl _ w).alloc (Nat.le_refl _) _).alloc (by simp) _
  have HR := Lib.hid hr
  have HB := Lib.hid hB
  have hsz : W1.heap.size = w.heap.size + 2 := by rw [hW1]; simp
  simp only [World.size_alloc] at HR
  clear hr hB hW1
  go_wp2_with fail
  go_loopw [4] (fun i wr => ∃ k f : Nat, k + f = 11 ∧ i = .int .i64 k ∧ Eqn (atF c) (atGo c k f) ∧ Below W1.heap.size W1 wr) (fun i _ => 11 - (intOf i).toNat)
  case atStart => exact ⟨0, 11, rfl, rfl, rfl, Below.refl _ _⟩
  case round =>
    obtain ⟨k, f, hkf, rfl, HE, hbr⟩ := hrel
    have HBR := Lib.hid (HB.out.trans (hbr.mono HB.out.size))
    have HRR := Lib.hid hbr
    have hsr := hbr.size
    replace hc := (hbr.cell (p := ⟨w.heap.size, 0, none⟩) (by dsimp only; omega)).trans hc
    cases f with
    | zero =>
      clear hbr
      obtain rfl : k = 11 := by omega
      clear hkf
      have HV : Eqn (atF c) (-1) := HE.out
      clear HE
      go_wp2_with fail
      go_ret
      exact ⟨ret_int HV.out.symm, HBR.out⟩
    | succ f =>
      have hk : k < 11 := by omega
      have j0 : (k : Int) < 11 := by omega
      have j1 : (0 : Int) ≤ (k : Int) := by omega
      obtain ⟨b, off, he, hbl, hcc⟩ := (HR.out.up (show w.heap.size + 1 + 1 ≤ W1.heap.size by omega)).below hbr |>.2 (by omega)
      cases he
      have c1 := hcc k _ (keysL_at ⟨k, hk⟩)
      simp only [intV, Nat.zero_add] at c1
      have hbw : w.heap.size + 1 < wr.heap.size := by omega
      clear hbr
      have HE2 := HE.out
      rw [atGo] at HE2
      generalize keyE k = y at *
      clear hcc HE
      by_cases hy : y = c
      · have HV := Eqn.mk (HE2.trans (if_pos hy))
        have hyd : (y == c) = true := by simpa using hy
        clear HE2 hy
        go_wp2_with fail
        refine Lx.region (C := fun _ => True) (hs := []) (by kernel_rfl) (by kernel_rfl) trivial ?_
        repeat' (first
          | (refine Lx.lex_no (Lx.n1 rfl rfl rfl (by with_reducible rfl)) (fun K hK => ?_); go_simp; refine hK _ ?_; clear hK K)
          | (refine Lx.lex_no (Lx.n0 rfl rfl rfl (by with_reducible rfl)) (fun K hK => ?_); go_simp; refine hK _ ?_; clear hK K)
          | (refine Lx.lex_no (Lx.n2 rfl rfl rfl) (fun K hK => ?_); go_simp; refine hK _ ?_; clear hK K)
          | (refine Lx.lex_pure (v := ?_) rfl (by first | exact Lx.w0 rfl | exact Lx.w1 rfl rfl rfl (by with_reducible rfl)) ?_ (fun K hK => ?_); rotate_left 1; (intro w' hCw; (try dsimp only at hCw); go_simp; done); go_simp; refine hK _ ?_; clear hK K)
          | (refine Lx.lex_pure (v := ?_) rfl (by first | exact Lx.w0 rfl | exact Lx.w1 rfl rfl rfl (by with_reducible rfl)) ?_ (fun K hK => ?_); rotate_left 1; (intro w' hCw; (try dsimp only at hCw); go_simp; with_reducible rfl); go_simp; refine hK _ ?_; clear hK K)
          | (refine Lx.lex_read (v := ?_) rfl (by first | exact Lx.w0 rfl | exact Lx.w1 rfl rfl rfl (by with_reducible rfl)) ?_ (fun K hK => ?_); rotate_left 1; (go_simp; done); go_simp; refine hK _ ?_; clear hK K)
          | (refine Lx.lex_read (v := ?_) rfl (by first | exact Lx.w0 rfl | exact Lx.w1 rfl rfl rfl (by with_reducible rfl)) ?_ (fun K hK => ?_); rotate_left 1; (go_simp; with_reducible rfl); go_simp; refine hK _ ?_; clear hK K)
          | (refine Lx.lex_eff rfl (by first | exact Lx.w0 rfl | exact Lx.w1 rfl rfl rfl (by with_reducible rfl)) (fun K hK => ?_); go_simp; (first | fail | skip); refine hK _ _ (trivial) ?_; clear hK K)
          | (refine Lx.lex_cases rfl rfl rfl (fun hgd K hK => ?_) (fun hgd K hK => ?_) <;> (try simp only [decide_eq_true_eq, decide_eq_false_iff_not] at hgd) <;> (first | (exfalso; omega) | (go_simp; refine hK _ ?_; clear hK K))))
        all_goals (refine Lx.lex_nil ?_)
        go_wp2_with fail
        go_ret
        exact ⟨ret_int HV.out.symm, HBR.out.drew⟩
      · have HV := Eqn.mk (HE2.trans (if_neg hy))
        have hyd : (y == c) = false := by simpa using hy
        clear HE2 hy
        go_wp2_with fail
        refine Lx.region (C := fun _ => True) (hs := []) (by kernel_rfl) (by kernel_rfl) trivial ?_
        repeat' (first
          | (refine Lx.lex_no (Lx.n1 rfl rfl rfl (by with_reducible rfl)) (fun K hK => ?_); go_simp; refine hK _ ?_; clear hK K)
          | (refine Lx.lex_no (Lx.n0 rfl rfl rfl (by with_reducible rfl)) (fun K hK => ?_); go_simp; refine hK _ ?_; clear hK K)
          | (refine Lx.lex_no (Lx.n2 rfl rfl rfl) (fun K hK => ?_); go_simp; refine hK _ ?_; clear hK K)
          | (refine Lx.lex_pure (v := ?_) rfl (by first | exact Lx.w0 rfl | exact Lx.w1 rfl rfl rfl (by with_reducible rfl)) ?_ (fun K hK => ?_); rotate_left 1; (intro w' hCw; (try dsimp only at hCw); go_simp; done); go_simp; refine hK _ ?_; clear hK K)
          | (refine Lx.lex_pure (v := ?_) rfl (by first | exact Lx.w0 rfl | exact Lx.w1 rfl rfl rfl (by with_reducible rfl)) ?_ (fun K hK => ?_); rotate_left 1; (intro w' hCw; (try dsimp only at hCw); go_simp; with_reducible rfl); go_simp; refine hK _ ?_; clear hK K)
          | (refine Lx.lex_read (v := ?_) rfl (by first | exact Lx.w0 rfl | exact Lx.w1 rfl rfl rfl (by with_reducible rfl)) ?_ (fun K hK => ?_); rotate_left 1; (go_simp; done); go_simp; refine hK _ ?_; clear hK K)
          | (refine Lx.lex_read (v := ?_) rfl (by first | exact Lx.w0 rfl | exact Lx.w1 rfl rfl rfl (by with_reducible rfl)) ?_ (fun K hK => ?_); rotate_left 1; (go_simp; with_reducible rfl); go_simp; refine hK _ ?_; clear hK K)
          | (refine Lx.lex_eff rfl (by first | exact Lx.w0 rfl | exact Lx.w1 rfl rfl rfl (by with_reducible rfl)) (fun K hK => ?_); go_simp; (first | fail | skip); refine hK _ _ (trivial) ?_; clear hK K)
          | (refine Lx.lex_cases rfl rfl rfl (fun hgd K hK => ?_) (fun hgd K hK => ?_) <;> (try simp only [decide_eq_true_eq, decide_eq_false_iff_not] at hgd) <;> (first | (exfalso; omega) | (go_simp; refine hK _ ?_; clear hK K))))
        all_goals (refine Lx.lex_nil ?_)
        go_wp2_with fail
        go_roundw
        case rel => exact ⟨k + 1, f, by omega, by go_num, HV, HRR.out.drew⟩
        case measure => simp [intOf]; omega
end Go.Proofs.Ytpdhelhngdeoeaa
