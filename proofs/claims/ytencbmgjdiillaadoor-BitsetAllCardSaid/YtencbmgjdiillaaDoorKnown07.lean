/- Contracts of the statements' set and is; known() of the statements on layer 07 returns true. -/
import Derived.Test.YtencbmgjdiillaaDoorRf1
namespace Go.Proofs.YtencbmgjdiillaaDoor
open Go.RowKit

set_option maxHeartbeats 1000000 in
theorem set_any (A : Option Addr) (n c : Nat) (w : World) (l : List Int) (hn : n ≤ 9223372036854775807) (hl : Row1 intV w w.heap.size A n l) :
    Calls Tryd.prog 13 #[.slice A n c] w (RetPost (.tuple #[sV (ofF l).1, .bool ((ofF l).2 == 0)]) w.heap.size w) := by
  have HC : Hid (∀ W, Below w.heap.size w W → Calls Tryd.prog 21 #[.slice A n c] W (RetPost (.tuple #[sV (ofF l).1, .int .i64 (ofF l).2]) W.heap.size W)) := Lib.hid (fun W hb => of_any A n c W l hn (hl.keep hb))
  clear hl
  generalize (ofF l).1 = S at *
  generalize (ofF l).2 = er at *
  unfold sV at HC ⊢
  go_enter Tryd.func13, Tryd.ntmps13
  go_wp2_with fail
  have hb0 : Below w.heap.size w (w.alloc (.cells (sL 0).toArray 28)) := (Below.refl _ w).alloc (Nat.le_refl _) _
  have hR0 : Blk (w.alloc (.cells (sL 0).toArray 28)) w.heap.size 28 (tabL 8 (sC 0)) := by rw [← sL_tab]; exact blk_new w _ _
  rw [sL_zero] at hb0 hR0
  refine (HC.out _ hb0).mono ?_
  rintro e W1 ⟨rfl, hb1⟩
  have hR1 := hR0.keep hb1
  have hB1 := hb0.trans (hb1.mono (by simp))
  clear hb0 hR0 hb1
  have hf : ∀ k, W1.frozen? ⟨w.heap.size, k, none⟩ = false := hR1.frozen
  have hlt := hR1.lt
  have H1 := Lib.hid (And.intro hR1 hB1)
  obtain ⟨d0, d1, d2, d3, d4, d5, d6, d7⟩ := hR1.eight
  clear hR1 hB1
  go_wp2_with fail
  have b2 := (H1.out.1.set8 S).alloc (.cells (sL S).toArray 28)
  have HB2 := (below_set8 S H1.out.2 (Nat.le_refl w.heap.size)).alloc (by have := (below_set8 S H1.out.2 (Nat.le_refl w.heap.size)).size; exact this) (.cells (sL S).toArray 28)
  change bodyPost _ _ _ _ _ ((set8 W1 w.heap.size S).alloc (.cells (sL S).toArray 28))
  generalize (set8 W1 w.heap.size S).alloc (.cells (sL S).toArray 28) = W2 at *
  obtain ⟨x0, x1, x2, x3, x4, x5, x6, x7⟩ := b2.eight
  refine bodyPost_ret (v := .tuple #[sV S, .bool (er == 0)]) (by simp [results, Tryd.results13, go_sem, sV, x0, x1, x2, x3, x4, x5, x6, x7]) rfl ⟨rfl, HB2⟩

/-- a set has exactly these members -/
theorem is_any (S : Nat) (A : Option Addr) (n c : Nat) (w : World) (hS : Fit S) (hT : Tab w) (hl : Row1 intV w w.heap.size A n (memI S)) :
    Calls Tryd.prog 17 #[sV S, .slice A n c] w (RetPost (.bool true) w.heap.size w) := by
  have hnl : n = (mem S).length := by have := hl.1; unfold memI at this; rw [List.length_map] at this; exact this.symm
  subst hnl
  have hml := mem_len S
  have Hl := Lib.hid hl
  have HL := Lib.hid (fun W => len_any S W)
  have HLi : Hid (∀ W, Tab W → Calls Tryd.prog 43 #[sV S] W (NewInts (memI S) W)) := Lib.hid (fun W h => list_any S W hS h)
  have Hlen : Eqn (memI S).length (mem S).length := hl.1
  have HT := Lib.hid hT
  clear hl hS hT
  generalize memI S = L at *
  generalize (mem S).length = n at *
  unfold sV at HL HLi ⊢
  go_enter Tryd.func17, Tryd.ntmps17
  go_wp2_with fail
  have hS0 : Blk (w.alloc (.cells (sL S).toArray 28)) w.heap.size 28 (tabL 8 (sC S)) := by rw [← sL_tab]; exact blk_new w _ _
  have hb0 : Below w.heap.size w (w.alloc (.cells (sL S).toArray 28)) := (Below.refl _ w).alloc (Nat.le_refl _) _
  unfold sL at hS0 hb0
  refine (HL.out _).mono ?_
  rintro e W1 ⟨rfl, hb1⟩
  have hS1 := hS0.keep hb1
  have hB1 := hb0.trans (hb1.mono (by simp))
  have hne : ((n : Int) != (n : Int)) = false := by simp
  obtain ⟨c0, c1, c2, c3, c4, c5, c6, c7⟩ := hS1.eight
  have HB1 := Lib.hid hB1
  clear hS0 hb0 hb1 hS1 hB1
  go_wp2_with fail
  refine (HLi.out _ (HT.out.keep HB1.out)).mono ?_
  rintro e W2 ⟨v, rfl, hown, hb2⟩
  obtain ⟨A2, c2', rfl, hr2⟩ := row1_of_own hown
  rw [Hlen.out] at hr2
  have HR := Lib.hid (And.intro hr2 (And.intro (Hl.out.below (HB1.out.trans (hb2.mono HB1.out.size))) (HB1.out.trans (hb2.mono HB1.out.size))))
  have hsz2 := HR.out.2.2.size
  rw [Hlen.out]
  clear hown hr2 hb2 c0 c1 c2 c3 c4 c5 c6 c7
  go_wp2_with fail
  go_loopw [6] (fun i wr => ∃ k : Nat, k ≤ n ∧ i = .int .i64 k ∧ Below W2.heap.size W2 wr) (fun i _ => n - (intOf i).toNat)
  case atStart => exact ⟨0, Nat.zero_le _, rfl, Below.refl _ _⟩
  case round =>
    obtain ⟨k, hk, rfl, HW⟩ := hrel
    have HWW := Lib.hid HW
    by_cases hlt : k < n
    · obtain ⟨p, hp, _⟩ := drop_at (xs := L) (k := k) (by rw [Hlen.out]; exact hlt)
      obtain ⟨b, off, rfl, hbl, hc⟩ := (HR.out.1.below HW).2 (by omega)
      obtain ⟨b', off', rfl, hbl', hc'⟩ := (HR.out.2.1.below (HW.mono hsz2)).2 (by omega)
      have c0 := hc k p hp
      have d0 := hc' k p hp
      simp only [intV] at c0 d0
      have j0 : (0 : Int) ≤ (k : Int) := by omega
      have j1 : (k : Int) < (n : Int) := by omega
      have hne : (p != p) = false := by simp
      clear hc hc' hp HW
      go_wp2_with fail
      refine Lx.region (C := fun _ => True) (hs := []) (by kernel_rfl) (by kernel_rfl) trivial ?_
      repeat' (first
        | (refine Lx.lex_no (Lx.n1 rfl rfl rfl (by with_reducible rfl)) (fun K hK => ?_); go_simp; refine hK _ ?_; clear hK K)
        | (refine Lx.lex_no (Lx.n0 rfl rfl rfl (by with_reducible rfl)) (fun K hK => ?_); go_simp; refine hK _ ?_; clear hK K)
        | (refine Lx.lex_no (Lx.n2 rfl rfl rfl) (fun K hK => ?_); go_simp; refine hK _ ?_; clear hK K)
        | (refine Lx.lex_pure (v := ?_) rfl (by first | exact Lx.w0 rfl | exact Lx.w1 rfl rfl rfl (by with_reducible rfl)) ?_ (fun K hK => ?_); rotate_left 1; (intro w' hCw; (try dsimp only at hCw); go_simp; done); go_simp; refine hK _ ?_; clear hK K)
        | (refine Lx.lex_pure (v := ?_) rfl (by first | exact Lx.w0 rfl | exact Lx.w1 rfl rfl rfl (by with_reducible rfl)) ?_ (fun K hK => ?_); rotate_left 1; (intro w' hCw; (try dsimp only at hCw); go_simp; with_reducible rfl); go_simp; refine hK _ ?_; clear hK K)
        | (refine Lx.lex_read (v := ?_) rfl (by first | exact Lx.w0 rfl | exact Lx.w1 rfl rfl rfl (by with_reducible rfl)) ?_ (fun K hK => ?_); rotate_left 1; (go_simp; done); go_simp; refine hK _ ?_; clear hK K)
        | (refine Lx.lex_read (v := ?_) rfl (by first | exact Lx.w0 rfl | exact Lx.w1 rfl rfl rfl (by with_reducible rfl)) ?_ (fun K hK => ?_); rotate_left 1; (go_simp; with_reducible rfl); go_simp; refine hK _ ?_; clear hK K)
        | (refine Lx.lex_eff rfl (by first | exact Lx.w0 rfl | exact Lx.w1 rfl rfl rfl (by with_reducible rfl)) (fun K hK => ?_); go_simp; (first | fail | skip); refine hK _ _ (trivial) ?_; clear hK K)
        | (refine Lx.lex_cases rfl rfl rfl (fun hgd K hK => ?_) (fun hgd K hK => ?_) <;> (try simp only [decide_eq_true_eq, decide_eq_false_iff_not] at hgd) <;> (first | (exfalso; omega) | (go_simp; refine hK _ ?_; clear hK K))))
      all_goals (refine Lx.lex_nil ?_)
      go_wp2_with fail
      go_roundw
      case rel => exact ⟨k + 1, by omega, by go_num, HWW.out.drew⟩
      case measure => simp only [intOf]; omega
    · clear HW
      go_wp2_with fail
      go_ret
      exact ⟨rfl, HR.out.2.2.trans (HWW.out.mono hsz2)⟩
end Go.Proofs.YtencbmgjdiillaaDoor
