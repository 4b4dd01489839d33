/- Contract of the reference's Blocks. -/
import Derived.Test.YtpgomblalmnonaaDoorBlk
import Derived.Test.YtpgomblalmnonaaDoorOwn
namespace Go.Proofs.YtpgomblalmnonaaDoor
open Go.RowKit

def clearedL : List Int := [24, 23, 21, 19, 18, 14, 13, 12, 10, 8, 7]
theorem cleared_at (k : Nat) (hk : k < 11) : clearedL[k]? = some (keyE k) := by
  match k, hk with
  | 0, _ | 1, _ | 2, _ | 3, _ | 4, _ | 5, _ | 6, _ | 7, _ | 8, _ | 9, _ | 10, _ => rfl

set_option maxHeartbeats 1000000 in
theorem rblocks_any (c : Int) (w : World) : Calls Tryd.prog 38 #[.agg #[.int .i64 c]] w (RetPost (.int .i64 (blkN c)) w.heap.size w) := by
  have hR : Hid (Row1 intV ((w.alloc (.cells #[.int .i64 c] 32)).alloc (.cells (clearedL.map intV).toArray 3)) (w.heap.size + 1 + 1) (some ⟨w.heap.size + 1, 0, none⟩) 11 clearedL) := by
    have := row1_new (w.alloc (.cells #[.int .i64 c] 32)) intV 3 clearedL
    rw [World.size_alloc] at this
    exact this
  have hB : Hid (Below w.heap.size w ((w.alloc (.cells #[.int .i64 c] 32)).alloc (.cells (clearedL.map intV).toArray 3))) := ((Below.refl _ _).alloc (Nat.le_refl _) _).alloc (by simp) _
  have hC : Hid (((w.alloc (.cells #[.int .i64 c] 32)).alloc (.cells (clearedL.map intV).toArray 3)).cell? ⟨w.heap.size, 0, none⟩ = some (.int .i64 c)) := by
    have : ((w.alloc (.cells #[.int .i64 c] 32)).alloc (.cells (clearedL.map intV).toArray 3)).cell? ⟨w.heap.size, 0, none⟩ = some (.int .i64 c) := by go_simp
    exact this
  obtain ⟨W, hW⟩ : ∃ W, W = ((w.alloc (.cells #[.int .i64 c] 32)).alloc (.cells (clearedL.map intV).toArray 3)) := ⟨_, rfl⟩
  rw [← hW] at hR hB hC
  have HW := Eqn.mk hW
  have hWs : W.heap.size = w.heap.size + 1 + 1 := by rw [hW]; simp
  have HWs := Eqn.mk hWs
  clear hW hWs
  go_enter Tryd.func38, Tryd.ntmps38
  go_wp2_with fail
  go_loopw [4] (fun i wr => ∃ k : Nat, k ≤ 11 ∧ i = .int .i64 k ∧ Hid (∀ e, e < k → c ≠ keyE e) ∧ Below W.heap.size W wr) (fun i _ => 11 - (intOf i).toNat)
  case atStart => exact ⟨0, Nat.zero_le _, rfl, (fun e he => by omega), by rw [HW.out]; exact Below.refl _ _⟩
  case round =>
    obtain ⟨k, hk, rfl, HN, HY⟩ := hrel
    have HYY := Lib.hid HY
    by_cases hlt : k < 11
    · have hB2 : Below (w.heap.size + 1 + 1) W wr := by rw [← HWs.out]; exact HY
      obtain ⟨b, off, hA, hbl, hc⟩ := (hR.out.below hB2).2 (by omega)
      injection hA with hA
      injection hA with h1 h2 h3
      subst h1 h2
      have c1 := hc k _ (cleared_at k hlt)
      have c0 := (HY.cell (p := ⟨w.heap.size, 0, none⟩) (by rw [HWs.out]; simp; omega)).trans hC.out
      simp only [intV, Nat.zero_add] at c1
      have k0 : (0 : Int) ≤ (k : Int) := by omega
      have k1 : (k : Int) < 11 := by omega
      clear hc HY hB2 h3
      by_cases he : keyE k = c
      · have t1 : (keyE k == c) = true := by simpa using he
        have HF : Eqn (blkN c) (12 - (k : Int)) := by rw [Eqn, ← he]; exact blkN_at k hlt
        clear he
        go_wp2_with fail
        refine Lx.region (C := fun _ => True) (hs := []) (by kernel_rfl) (by kernel_rfl) trivial ?_
        repeat' (first
          | (refine Lx.lex_no (Lx.n1 rfl rfl rfl (by with_reducible rfl)) (fun K hK => ?_); go_simp; refine hK _ ?_; clear hK K)
          | (refine Lx.lex_no (Lx.n0 rfl rfl rfl (by with_reducible rfl)) (fun K hK => ?_); go_simp; refine hK _ ?_; clear hK K)
          | (refine Lx.lex_no (Lx.n2 rfl rfl rfl) (fun K hK => ?_); go_simp; refine hK _ ?_; clear hK K)
          | (refine Lx.lex_pure (v := ?_) rfl (by first | exact Lx.w0 rfl | exact Lx.w1 rfl rfl rfl (by with_reducible rfl)) ?_ (fun K hK => ?_); rotate_left 1; (intro w' hCw; (try dsimp only at hCw); go_simp; done); go_simp; refine hK _ ?_; clear hK K)
          | (refine Lx.lex_pure (v := ?_) rfl (by first | exact Lx.w0 rfl | exact Lx.w1 rfl rfl rfl (by with_reducible rfl)) ?_ (fun K hK => ?_); rotate_left 1; (intro w' hCw; (try dsimp only at hCw); go_simp; with_reducible rfl); go_simp; refine hK _ ?_; clear hK K)
          | (refine Lx.lex_read (v := ?_) rfl (by first | exact Lx.w0 rfl | exact Lx.w1 rfl rfl rfl (by with_reducible rfl)) ?_ (fun K hK => ?_); rotate_left 1; (go_simp; done); go_simp; refine hK _ ?_; clear hK K)
          | (refine Lx.lex_read (v := ?_) rfl (by first | exact Lx.w0 rfl | exact Lx.w1 rfl rfl rfl (by with_reducible rfl)) ?_ (fun K hK => ?_); rotate_left 1; (go_simp; with_reducible rfl); go_simp; refine hK _ ?_; clear hK K)
          | (refine Lx.lex_eff rfl (by first | exact Lx.w0 rfl | exact Lx.w1 rfl rfl rfl (by with_reducible rfl)) (fun K hK => ?_); go_simp; (first | fail | skip); refine hK _ _ (trivial) ?_; clear hK K)
          | (refine Lx.lex_cases rfl rfl rfl (fun hgd K hK => ?_) (fun hgd K hK => ?_) <;> (try simp only [decide_eq_true_eq, decide_eq_false_iff_not] at hgd) <;> (first | (exfalso; omega) | (go_simp; refine hK _ ?_; clear hK K))))
        all_goals (refine Lx.lex_nil ?_)
        go_wp2_with fail
        go_ret
        exact ⟨by rw [HF.out]; rfl, hB.out.trans (HYY.out.drew.mono (by rw [HWs.out]; omega))⟩
      · have t1 : (keyE k == c) = false := by simpa using he
        have HN2 : Hid (∀ e, e < k + 1 → c ≠ keyE e) := by
          intro e hek
          by_cases h : e = k
          · subst h; exact fun hh => he hh.symm
          · exact HN.out e (by omega)
        clear he
        go_wp2_with fail
        refine Lx.region (C := fun _ => True) (hs := []) (by kernel_rfl) (by kernel_rfl) trivial ?_
        repeat' (first
          | (refine Lx.lex_no (Lx.n1 rfl rfl rfl (by with_reducible rfl)) (fun K hK => ?_); go_simp; refine hK _ ?_; clear hK K)
          | (refine Lx.lex_no (Lx.n0 rfl rfl rfl (by with_reducible rfl)) (fun K hK => ?_); go_simp; refine hK _ ?_; clear hK K)
          | (refine Lx.lex_no (Lx.n2 rfl rfl rfl) (fun K hK => ?_); go_simp; refine hK _ ?_; clear hK K)
          | (refine Lx.lex_pure (v := ?_) rfl (by first | exact Lx.w0 rfl | exact Lx.w1 rfl rfl rfl (by with_reducible rfl)) ?_ (fun K hK => ?_); rotate_left 1; (intro w' hCw; (try dsimp only at hCw); go_simp; done); go_simp; refine hK _ ?_; clear hK K)
          | (refine Lx.lex_pure (v := ?_) rfl (by first | exact Lx.w0 rfl | exact Lx.w1 rfl rfl rfl (by with_reducible rfl)) ?_ (fun K hK => ?_); rotate_left 1; (intro w' hCw; (try dsimp only at hCw); go_simp; with_reducible rfl); go_simp; refine hK _ ?_; clear hK K)
          | (refine Lx.lex_read (v := ?_) rfl (by first | exact Lx.w0 rfl | exact Lx.w1 rfl rfl rfl (by with_reducible rfl)) ?_ (fun K hK => ?_); rotate_left 1; (go_simp; done); go_simp; refine hK _ ?_; clear hK K)
          | (refine Lx.lex_read (v := ?_) rfl (by first | exact Lx.w0 rfl | exact Lx.w1 rfl rfl rfl (by with_reducible rfl)) ?_ (fun K hK => ?_); rotate_left 1; (go_simp; with_reducible rfl); go_simp; refine hK _ ?_; clear hK K)
          | (refine Lx.lex_eff rfl (by first | exact Lx.w0 rfl | exact Lx.w1 rfl rfl rfl (by with_reducible rfl)) (fun K hK => ?_); go_simp; (first | fail | skip); refine hK _ _ (trivial) ?_; clear hK K)
          | (refine Lx.lex_cases rfl rfl rfl (fun hgd K hK => ?_) (fun hgd K hK => ?_) <;> (try simp only [decide_eq_true_eq, decide_eq_false_iff_not] at hgd) <;> (first | (exfalso; omega) | (go_simp; refine hK _ ?_; clear hK K))))
        all_goals (refine Lx.lex_nil ?_)
        go_wp2_with fail
        go_roundw
        case rel => exact ⟨k + 1, by omega, by go_num, HN2, HYY.out.drew⟩
        case measure => simp [intOf]; omega
    · have hk11 : k = 11 := by omega
      have HF : Eqn (blkN c) 0 := blkN_no c (fun e he => HN.out e (by omega))
      clear HY hk11
      go_wp2_with fail
      go_ret
      exact ⟨by rw [HF.out]; rfl, hB.out.trans (HYY.out.mono (by rw [HWs.out]; omega))⟩
end Go.Proofs.YtpgomblalmnonaaDoor
