/- Sets in memory; contracts of inRange, Add, Remove, Has. -/
import Derived.Test.YtpdhelhngdeoeaaWd
import Derived.Test.YtpdhelhngdeoeaaMem
import Derived.IntWalk
namespace Go.Proofs.Ytpdhelhngdeoeaa
open Go.RowKit

/-- the value of a set -/
def sV (S : Nat) : Value := .agg #[.int .u64 (wd S 0), .int .u64 (wd S 1), .int .u64 (wd S 2), .int .u64 (wd S 3), .int .u64 (wd S 4), .int .u64 (wd S 5), .int .u64 (wd S 6), .int .u64 (wd S 7)]
def sC (S k : Nat) : Value := .int .u64 (wd S k)
def sL (S : Nat) : List Value := [.int .u64 (wd S 0), .int .u64 (wd S 1), .int .u64 (wd S 2), .int .u64 (wd S 3), .int .u64 (wd S 4), .int .u64 (wd S 5), .int .u64 (wd S 6), .int .u64 (wd S 7)]
theorem wd_zero (k : Nat) : wd 0 k = 0 := by unfold wd; rw [Nat.zero_div]
theorem sL_zero : sL 0 = [.int .u64 0, .int .u64 0, .int .u64 0, .int .u64 0, .int .u64 0, .int .u64 0, .int .u64 0, .int .u64 0] := by simp [sL, wd_zero]
theorem sL_tab (S : Nat) : sL S = tabL 8 (sC S) := rfl

theorem inRange_any (i : Int) (w : World) : Calls Try.prog 64 #[.int .i64 i] w fun e w' => e = .returned (.bool (decide (0 ≤ i ∧ i < 512))) ∧ w = w' := by
  by_cases h0 : 0 ≤ i
  · go_enter Try.func64, Try.ntmps64
    go_wp2
    go_ret
    exact ⟨ret_bool (by simp [h0]), rfl⟩
  · go_enter Try.func64, Try.ntmps64
    go_wp2
    go_ret
    exact ⟨ret_bool (by simp; omega), rfl⟩

theorem pow_cast (j : Nat) : ((2 : Int) ^ j) = ((2 ^ j : Nat) : Int) := by simp
theorem pow64_lt {j : Nat} (hj : j < 64) : 2 ^ j < 18446744073709551616 := by
  have := Nat.pow_lt_pow_right (a := 2) (by decide) hj
  simpa using this
theorem wrap_pow {j : Nat} (hj : j < 64) : IntKind.u64.wrap (2 ^ j) = ((2 ^ j : Nat) : Int) := by
  have := pow64_lt hj
  rw [pow_cast]
  generalize 2 ^ j = x at *
  rw [IntWalk.u64_in _ (by omega)]
theorem or_pow (a : Nat) {j : Nat} (ha : a < 18446744073709551616) (hj : j < 64) : bits .or .u64 (a : Int) (2 ^ j) = ((a ||| 2 ^ j : Nat) : Int) := by rw [pow_cast]; exact bits_or_u64_nat _ _ ha (pow64_lt hj)
theorem not_pow (a : Nat) {j : Nat} (ha : a < 18446744073709551616) (hj : j < 64) : bits .andNot .u64 (a : Int) (2 ^ j) = ((mi a (2 ^ j) : Nat) : Int) := by rw [pow_cast, u64_andNot_nat _ _ ha (pow64_lt hj), andNot_mi _ _ ha (pow64_lt hj)]
/-- a bit more in a set that lies in a block -/
theorem Blk.orbit {W : World} {g t S k j : Nat} (hS : Blk W g t (tabL 8 (sC S))) (hj : j < 64) :
    Blk (W.setCell ⟨g, k, none⟩ (.int .u64 (bits .or .u64 (wd S k) (2 ^ j)))) g t (tabL 8 (sC (S ||| 2 ^ (64 * k + j)))) := by
  have := hS.set_ k (.int .u64 (bits .or .u64 (wd S k) (2 ^ j)))
  rw [tabL_set] at this
  refine this.tab fun m hm => ?_
  unfold sC
  rw [wd_orbit]
  split
  · rename_i h; subst h; rw [if_pos (by omega), show (64 * m + j) % 64 = j by omega, or_pow _ (wd_lt S m) hj]
  · rw [if_neg (by omega)]
theorem Blk.mibit {W : World} {g t S k j : Nat} (hS : Blk W g t (tabL 8 (sC S))) (hj : j < 64) :
    Blk (W.setCell ⟨g, k, none⟩ (.int .u64 (bits .andNot .u64 (wd S k) (2 ^ j)))) g t (tabL 8 (sC (mi S (2 ^ (64 * k + j))))) := by
  have := hS.set_ k (.int .u64 (bits .andNot .u64 (wd S k) (2 ^ j)))
  rw [tabL_set] at this
  refine this.tab fun m hm => ?_
  unfold sC
  rw [wd_mibit]
  split
  · rename_i h; subst h; rw [if_pos (by omega), show (64 * m + j) % 64 = j by omega, not_pow _ (wd_lt S m) hj]
  · rw [if_neg (by omega)]

/-- the cells of a set that lies whole in a block -/
theorem Blk.eight {w : World} {g t : Nat} {S : Nat} (h : Blk w g t (tabL 8 (sC S))) :
    w.cell? ⟨g, 0, none⟩ = some (.int .u64 (wd S 0)) ∧ w.cell? ⟨g, 1, none⟩ = some (.int .u64 (wd S 1)) ∧ w.cell? ⟨g, 2, none⟩ = some (.int .u64 (wd S 2)) ∧ w.cell? ⟨g, 3, none⟩ = some (.int .u64 (wd S 3)) ∧
    w.cell? ⟨g, 4, none⟩ = some (.int .u64 (wd S 4)) ∧ w.cell? ⟨g, 5, none⟩ = some (.int .u64 (wd S 5)) ∧ w.cell? ⟨g, 6, none⟩ = some (.int .u64 (wd S 6)) ∧ w.cell? ⟨g, 7, none⟩ = some (.int .u64 (wd S 7)) :=
  ⟨h.cell (tabL_at (by decide)), h.cell (tabL_at (by decide)), h.cell (tabL_at (by decide)), h.cell (tabL_at (by decide)), h.cell (tabL_at (by decide)), h.cell (tabL_at (by decide)), h.cell (tabL_at (by decide)), h.cell (tabL_at (by decide))⟩

/-- eight stores, one a word -/
def set8 (W : World) (g S : Nat) : World :=
  (((((((W.setCell ⟨g, 0, none⟩ (.int .u64 (wd S 0))).setCell ⟨g, 1, none⟩ (.int .u64 (wd S 1))).setCell ⟨g, 2, none⟩ (.int .u64 (wd S 2))).setCell ⟨g, 3, none⟩ (.int .u64 (wd S 3))).setCell ⟨g, 4, none⟩ (.int .u64 (wd S 4))).setCell ⟨g, 5, none⟩ (.int .u64 (wd S 5))).setCell ⟨g, 6, none⟩ (.int .u64 (wd S 6))).setCell ⟨g, 7, none⟩ (.int .u64 (wd S 7))
theorem Blk.set8 {W : World} {g t T : Nat} (S : Nat) (h : Blk W g t (tabL 8 (sC T))) : Blk (set8 W g S) g t (tabL 8 (sC S)) := by
  unfold Go.Proofs.Ytpdhelhngdeoeaa.set8
  exact (((((((h.set_ 0 (.int .u64 (wd S 0))).set_ 1 (.int .u64 (wd S 1))).set_ 2 (.int .u64 (wd S 2))).set_ 3 (.int .u64 (wd S 3))).set_ 4 (.int .u64 (wd S 4))).set_ 5 (.int .u64 (wd S 5))).set_ 6 (.int .u64 (wd S 6))).set_ 7 (.int .u64 (wd S 7))
theorem below_set8 {B : Nat} {W W' : World} {g : Nat} (S : Nat) (h : Below B W W') (hg : B ≤ g) : Below B W (set8 W' g S) := by
  unfold set8
  exact (((((((h.setCell (p := ⟨g, 0, none⟩) hg _).setCell (p := ⟨g, 1, none⟩) hg _).setCell (p := ⟨g, 2, none⟩) hg _).setCell (p := ⟨g, 3, none⟩) hg _).setCell (p := ⟨g, 4, none⟩) hg _).setCell (p := ⟨g, 5, none⟩) hg _).setCell (p := ⟨g, 6, none⟩) hg _).setCell (p := ⟨g, 7, none⟩) hg _

theorem add_in (S : Nat) (i : Int) (w : World) (hi : 0 ≤ i ∧ i < 512) : Calls Try.prog 37 #[sV S, .int .i64 i] w (RetPost (.tuple #[sV (S ||| 2 ^ i.toNat), .int .i64 0]) w.heap.size w) := by
  obtain ⟨k, j, hk, hj, hkj⟩ : ∃ k j : Nat, k < 8 ∧ j < 64 ∧ i = 64 * (k : Int) + (j : Int) := ⟨(i / 64).toNat, (i % 64).toNat, by omega, by omega, by omega⟩
  have HK := Lib.hid hkj
  have e1 : IntKind.i64.wrap (i.tdiv 64) = (k : Int) := by rw [IntWalk.i64_quo _ _ (by omega)]; omega
  have e2 : i.tmod 64 = (j : Int) := by rw [IntWalk.rem_in _ _ (by omega)]; omega
  have e3 := wrap_pow hj
  have h1 : decide (0 ≤ i ∧ i < 512) = true := by simpa using hi
  have j1 : (k : Int) < 8 := by omega
  clear hkj hi
  unfold sV
  go_enter Try.func37, Try.ntmps37
  go_wp2_with fail
  refine (inRange_any i _).mono ?_
  rintro e w1 ⟨rfl, rfl⟩
  go_wp2_with fail
  obtain ⟨W0, hW0⟩ : ∃ W0, W0 = (w.alloc (.cells (sL S).toArray 81)).alloc (.cells (sL 0).toArray 81) := ⟨_, rfl⟩
  have hS : Blk W0 w.heap.size 81 (tabL 8 (sC S)) := by rw [hW0, ← sL_tab]; exact (blk_new w _ _).alloc _
  have hR : Blk W0 (w.heap.size + 1) 81 (tabL 8 (sC 0)) := by rw [hW0, ← sL_tab]; have := blk_new (w.alloc (.cells (sL S).toArray 81)) (sL 0) 81; rwa [World.size_alloc] at this
  have HB : Hid (Below w.heap.size w W0) := Lib.hid (by rw [hW0]; exact ((Below.refl _ w).alloc (Nat.le_refl _) _).alloc (by simp) _)
  rw [sL_zero] at hW0
  unfold sL at hW0
  rw [← hW0]
  have c1 : W0.cell? ⟨w.heap.size, k, none⟩ = some (.int .u64 (wd S k)) := hS.cell (tabL_at hk)
  have f1 : W0.frozen? ⟨w.heap.size, k, none⟩ = false := hS.frozen k
  have hlt := hS.lt
  clear hW0
  refine Lx.region (C := fun _ => True) (hs := []) (by kernel_rfl) (by kernel_rfl) trivial ?_
  repeat' (first
    | (refine Lx.lex_no (Lx.n1 rfl rfl rfl (by with_reducible rfl)) (fun K hK => ?_); go_simp; refine hK _ ?_; clear hK K)
    | (refine Lx.lex_no (Lx.n0 rfl rfl rfl (by with_reducible rfl)) (fun K hK => ?_); go_simp; refine hK _ ?_; clear hK K)
    | (refine Lx.lex_no (Lx.n2 rfl rfl rfl) (fun K hK => ?_); go_simp; refine hK _ ?_; clear hK K)
    | (refine Lx.lex_pure (v := ?_) rfl (by first | exact Lx.w0 rfl | exact Lx.w1 rfl rfl rfl (by with_reducible rfl)) ?_ (fun K hK => ?_); rotate_left 1; (intro w' hCw; (try dsimp only at hCw); go_simp; done); go_simp; refine hK _ ?_; clear hK K)
    | (refine Lx.lex_pure (v := ?_) rfl (by first | exact Lx.w0 rfl | exact Lx.w1 rfl rfl rfl (by with_reducible rfl)) ?_ (fun K hK => ?_); rotate_left 1; (intro w' hCw; (try dsimp only at hCw); go_simp; with_reducible rfl); go_simp; refine hK _ ?_; clear hK K)
    | (refine Lx.lex_read (v := ?_) rfl (by first | exact Lx.w0 rfl | exact Lx.w1 rfl rfl rfl (by with_reducible rfl)) ?_ (fun K hK => ?_); rotate_left 1; (go_simp; done); go_simp; refine hK _ ?_; clear hK K)
    | (refine Lx.lex_read (v := ?_) rfl (by first | exact Lx.w0 rfl | exact Lx.w1 rfl rfl rfl (by with_reducible rfl)) ?_ (fun K hK => ?_); rotate_left 1; (go_simp; with_reducible rfl); go_simp; refine hK _ ?_; clear hK K)
    | (refine Lx.lex_eff rfl (by first | exact Lx.w0 rfl | exact Lx.w1 rfl rfl rfl (by with_reducible rfl)) (fun K hK => ?_); go_simp; (first | fail | skip); refine hK _ _ (trivial) ?_; clear hK K)
    | (refine Lx.lex_cases rfl rfl rfl (fun hgd K hK => ?_) (fun hgd K hK => ?_) <;> (try simp only [decide_eq_true_eq, decide_eq_false_iff_not] at hgd) <;> (first | (exfalso; omega) | (go_simp; refine hK _ ?_; clear hK K))))
  all_goals (refine Lx.lex_nil ?_)
  obtain ⟨W1, hW1⟩ : ∃ W1, W1 = (W0.setCell ⟨w.heap.size, k, none⟩ (.int .u64 (bits .or .u64 (wd S k) (2 ^ j)))).drew := ⟨_, rfl⟩
  have hS1 : Blk W1 w.heap.size 81 (tabL 8 (sC (S ||| 2 ^ i.toNat))) := by
    rw [hW1, show i.toNat = 64 * k + j by have := HK.out; omega]
    exact (hS.orbit hj).drew
  have hR1 : Blk W1 (w.heap.size + 1) 81 (tabL 8 (sC 0)) := by rw [hW1]; exact (hR.other _ _ (by simp)).drew
  have HB1 : Hid (Below w.heap.size w W1) := Lib.hid (by rw [hW1]; exact (HB.out.setCell (p := ⟨w.heap.size, k, none⟩) (Nat.le_refl _) _).drew)
  rw [← hW1]
  clear hW1 hS hR c1 f1 HB hlt HK e1 e2 e3
  generalize S ||| 2 ^ i.toNat = S' at *
  obtain ⟨c0, c1, c2, c3, c4, c5, c6, c7⟩ := hS1.eight
  obtain ⟨d0, d1, d2, d3, d4, d5, d6, d7⟩ := hR1.eight
  have hf : ∀ o, W1.frozen? ⟨w.heap.size + 1, o, none⟩ = false := hR1.frozen
  have hlt := hR1.lt
  have HR := Lib.hid hR1
  clear hS1 hR1
  go_wp2_with fail
  have b := HR.out.set8 S'
  have HB2 := below_set8 S' HB1.out (Nat.le_succ w.heap.size)
  change bodyPost _ _ _ _ _ (set8 W1 (w.heap.size + 1) S')
  generalize set8 W1 (w.heap.size + 1) S' = W2 at *
  obtain ⟨x0, x1, x2, x3, x4, x5, x6, x7⟩ := b.eight
  refine bodyPost_ret (v := .tuple #[sV S', .int .i64 0]) (by simp [results, Try.results37, go_sem, sV, x0, x1, x2, x3, x4, x5, x6, x7]) rfl ⟨rfl, HB2⟩

theorem add_out (S : Nat) (i : Int) (w : World) (hi : ¬ (0 ≤ i ∧ i < 512)) : Calls Try.prog 37 #[sV S, .int .i64 i] w (RetPost (.tuple #[sV 0, .int .i64 2]) w.heap.size w) := by
  have h1 : decide (0 ≤ i ∧ i < 512) = false := by simpa using hi
  clear hi
  unfold sV
  simp only [wd_zero]
  go_enter Try.func37, Try.ntmps37
  go_wp2_with fail
  refine (inRange_any i _).mono ?_
  rintro e w1 ⟨rfl, rfl⟩
  go_wp2_with fail
  refine bodyPost_ret (v := .tuple #[.agg #[.int .u64 0, .int .u64 0, .int .u64 0, .int .u64 0, .int .u64 0, .int .u64 0, .int .u64 0, .int .u64 0], .int .i64 2]) (by simp [results, Try.results37, go_sem]) rfl ⟨rfl, ?_⟩
  exact ((Below.refl _ w).alloc (Nat.le_refl _) _).alloc (by simp) _

end Go.Proofs.Ytpdhelhngdeoeaa
