/- The number of one bits, as math/bits counts it: plain arithmetic, nothing of the program. -/
import Derived.WalkKit
import Derived.Test.YtdpbbhbegehcjaaGreatDoorPla02
set_option maxRecDepth 100000
set_option maxHeartbeats 4000000
namespace Go.Proofs.YtdpbbhbegehcjaaGreatDoor
open Go.RowKit
theorem incF_cons {α : Type} (cmp : α → α → Int) (x y : α) (r : List α) : incF cmp (x :: y :: r) = if 0 ≤ cmp x y then false else incF cmp (y :: r) := by rw [incF]
theorem cmpPr_any (x y : R5) (w : World) : Calls Tryz.prog 126 #[x.val, y.val] w (RetPost (.int .i64 (cmp5 x y)) w.heap.size w) := by
 obtain ⟨a0, a1, a2, a3, a4⟩ := x
 obtain ⟨b0, b1, b2, b3, b4⟩ := y
 unfold R5.val cmp5
 dsimp only
 have HC := Lib.hid (fun x y W => compare_any x y W)
 have HO : Hid (∀ W : World, Calls Tryz.prog 143 #[.slice (some ⟨W.heap.size, 0, none⟩) 5 5] (W.alloc (.cells #[.int .i64 (cmpF a0 b0), .int .i64 (cmpF a1 b1), .int .i64 (cmpF a2 b2), .int .i64 (cmpF a3 b3), .int .i64 (cmpF a4 b4)] 3)).drew fun e w' => e = .returned (.int .i64 (orL5 [cmpF a0 b0, cmpF a1 b1, cmpF a2 b2, cmpF a3 b3, cmpF a4 b4])) ∧ (W.alloc (.cells #[.int .i64 (cmpF a0 b0), .int .i64 (cmpF a1 b1), .int .i64 (cmpF a2 b2), .int .i64 (cmpF a3 b3), .int .i64 (cmpF a4 b4)] 3)).drew = w') := Lib.hid (fun W => orS_any _ 5 5 _ (W.heap.size + 1) [cmpF a0 b0, cmpF a1 b1, cmpF a2 b2, cmpF a3 b3, cmpF a4 b4] (by omega) (row1_new W intV 3 [cmpF a0 b0, cmpF a1 b1, cmpF a2 b2, cmpF a3 b3, cmpF a4 b4]))
 generalize orL5 [cmpF a0 b0, cmpF a1 b1, cmpF a2 b2, cmpF a3 b3, cmpF a4 b4] = res at *
 obtain ⟨W0, hW0⟩ : ∃ W0, W0 = (w.alloc (.cells #[.int .i64 a0, .int .i64 a1, .int .i64 a2, .int .i64 a3, .int .i64 a4] 84)).alloc (.cells #[.int .i64 b0, .int .i64 b1, .int .i64 b2, .int .i64 b3, .int .i64 b4] 84) := ⟨_, rfl⟩
 have HB : Hid (Below w.heap.size w W0) := Lib.hid (by rw [hW0]; exact ((Below.refl _ w).alloc (Nat.le_refl _) _).alloc (by simp) _)
 have HW : Hid (W0.cell? ⟨w.heap.size, 0, none⟩ = some (.int .i64 a0) ∧ W0.cell? ⟨w.heap.size, 1, none⟩ = some (.int .i64 a1) ∧ W0.cell? ⟨w.heap.size, 2, none⟩ = some (.int .i64 a2) ∧ W0.cell? ⟨w.heap.size, 3, none⟩ = some (.int .i64 a3) ∧ W0.cell? ⟨w.heap.size, 4, none⟩ = some (.int .i64 a4) ∧ W0.cell? ⟨w.heap.size + 1, 0, none⟩ = some (.int .i64 b0) ∧ W0.cell? ⟨w.heap.size + 1, 1, none⟩ = some (.int .i64 b1) ∧ W0.cell? ⟨w.heap.size + 1, 2, none⟩ = some (.int .i64 b2) ∧ W0.cell? ⟨w.heap.size + 1, 3, none⟩ = some (.int .i64 b3) ∧ W0.cell? ⟨w.heap.size + 1, 4, none⟩ = some (.int .i64 b4)) := Lib.hid (by rw [hW0]; refine ⟨?_, ?_, ?_, ?_, ?_, ?_, ?_, ?_, ?_, ?_⟩ <;> simp [go_sem])
 have hs0 : W0.heap.size = w.heap.size + 2 := by rw [hW0]; simp
 have HA : Hid (∀ o, (W0.alloc o).cell? ⟨w.heap.size, 0, none⟩ = some (.int .i64 a0) ∧ (W0.alloc o).cell? ⟨w.heap.size, 1, none⟩ = some (.int .i64 a1) ∧ (W0.alloc o).cell? ⟨w.heap.size, 2, none⟩ = some (.int .i64 a2) ∧ (W0.alloc o).cell? ⟨w.heap.size, 3, none⟩ = some (.int .i64 a3) ∧ (W0.alloc o).cell? ⟨w.heap.size, 4, none⟩ = some (.int .i64 a4) ∧ (W0.alloc o).cell? ⟨w.heap.size + 1, 0, none⟩ = some (.int .i64 b0) ∧ (W0.alloc o).cell? ⟨w.heap.size + 1, 1, none⟩ = some (.int .i64 b1) ∧ (W0.alloc o).cell? ⟨w.heap.size + 1, 2, none⟩ = some (.int .i64 b2) ∧ (W0.alloc o).cell? ⟨w.heap.size + 1, 3, none⟩ = some (.int .i64 b3) ∧ (W0.alloc o).cell? ⟨w.heap.size + 1, 4, none⟩ = some (.int .i64 b4)) := Lib.hid (fun o => by
  have hb := (Below.refl W0.heap.size W0).alloc (Nat.le_refl _) o
  obtain ⟨c0, c1, c2, c3, c4, c5, c6, c7, c8, c9⟩ := HW.out
  exact ⟨(hb.cell (p := ⟨w.heap.size, 0, none⟩) (by dsimp only; omega)).trans c0, (hb.cell (p := ⟨w.heap.size, 1, none⟩) (by dsimp only; omega)).trans c1, (hb.cell (p := ⟨w.heap.size, 2, none⟩) (by dsimp only; omega)).trans c2, (hb.cell (p := ⟨w.heap.size, 3, none⟩) (by dsimp only; omega)).trans c3, (hb.cell (p := ⟨w.heap.size, 4, none⟩) (by dsimp only; omega)).trans c4, (hb.cell (p := ⟨w.heap.size + 1, 0, none⟩) (by dsimp only; omega)).trans c5, (hb.cell (p := ⟨w.heap.size + 1, 1, none⟩) (by dsimp only; omega)).trans c6, (hb.cell (p := ⟨w.heap.size + 1, 2, none⟩) (by dsimp only; omega)).trans c7, (hb.cell (p := ⟨w.heap.size + 1, 3, none⟩) (by dsimp only; omega)).trans c8, (hb.cell (p := ⟨w.heap.size + 1, 4, none⟩) (by dsimp only; omega)).trans c9⟩)
 have HS0 := Lib.hid hs0
 clear hs0
 go_enter Tryz.func126, Tryz.ntmps126
 go_wp2_with fail
 rw [← hW0]
 clear hW0
 refine Lx.region (C := fun w' => w'.cell? ⟨w.heap.size, 0, none⟩ = some (.int .i64 a0) ∧ w'.cell? ⟨w.heap.size, 1, none⟩ = some (.int .i64 a1) ∧ w'.cell? ⟨w.heap.size, 2, none⟩ = some (.int .i64 a2) ∧ w'.cell? ⟨w.heap.size, 3, none⟩ = some (.int .i64 a3) ∧ w'.cell? ⟨w.heap.size, 4, none⟩ = some (.int .i64 a4) ∧ w'.cell? ⟨w.heap.size + 1, 0, none⟩ = some (.int .i64 b0) ∧ w'.cell? ⟨w.heap.size + 1, 1, none⟩ = some (.int .i64 b1) ∧ w'.cell? ⟨w.heap.size + 1, 2, none⟩ = some (.int .i64 b2) ∧ w'.cell? ⟨w.heap.size + 1, 3, none⟩ = some (.int .i64 b3) ∧ w'.cell? ⟨w.heap.size + 1, 4, none⟩ = some (.int .i64 b4)) (hs := [1, 3, 6, 8, 11, 13, 16, 18, 21, 23]) (by kernel_rfl) (by kernel_rfl) (by exact HW.out) ?_
 repeat' (first | ((first | refine Lx.ln (fun K hK => ?_) | (first | (refine Lx.lp (v := ?_) ?_ (fun K hK => ?_); rotate_left 1; intro w' hCw; try dsimp only at hCw) | (refine Lx.lr (v := ?_) ?_ (fun K hK => ?_); rotate_left 1)); go_simp; first | done | with_reducible rfl); go_simp; refine hK _ ?_; clear hK K) | (refine Lx.le (fun K hK => ?_); go_simp; (first | (go_at_call 103; refine (HC.out _ _ _).mono ?_; rintro e w' ⟨rfl, rfl⟩) | (go_at_call 143; refine (HO.out _).mono ?_; rintro e w' ⟨rfl, rfl⟩) | skip); refine hK _ _ (by first | exact HW.out | exact HA.out _) ?_; clear hK K))
 all_goals (refine Lx.lex_nil ?_)
 go_wp2_with fail
 go_ret
 exact ⟨rfl, (HB.out.alloc (by have := HS0.out; omega) _).drew⟩
theorem cmpLd_any (x y : R5) (w : World) : Calls Tryz.prog 129 #[x.val, y.val] w (RetPost (.int .i64 (cmp5 x y)) w.heap.size w) := by
 obtain ⟨a0, a1, a2, a3, a4⟩ := x
 obtain ⟨b0, b1, b2, b3, b4⟩ := y
 unfold R5.val cmp5
 dsimp only
 have HC := Lib.hid (fun x y W => compare_any x y W)
 have HO : Hid (∀ W : World, Calls Tryz.prog 143 #[.slice (some ⟨W.heap.size, 0, none⟩) 5 5] (W.alloc (.cells #[.int .i64 (cmpF a0 b0), .int .i64 (cmpF a1 b1), .int .i64 (cmpF a2 b2), .int .i64 (cmpF a3 b3), .int .i64 (cmpF a4 b4)] 3)).drew fun e w' => e = .returned (.int .i64 (orL5 [cmpF a0 b0, cmpF a1 b1, cmpF a2 b2, cmpF a3 b3, cmpF a4 b4])) ∧ (W.alloc (.cells #[.int .i64 (cmpF a0 b0), .int .i64 (cmpF a1 b1), .int .i64 (cmpF a2 b2), .int .i64 (cmpF a3 b3), .int .i64 (cmpF a4 b4)] 3)).drew = w') := Lib.hid (fun W => orS_any _ 5 5 _ (W.heap.size + 1) [cmpF a0 b0, cmpF a1 b1, cmpF a2 b2, cmpF a3 b3, cmpF a4 b4] (by omega) (row1_new W intV 3 [cmpF a0 b0, cmpF a1 b1, cmpF a2 b2, cmpF a3 b3, cmpF a4 b4]))
 generalize orL5 [cmpF a0 b0, cmpF a1 b1, cmpF a2 b2, cmpF a3 b3, cmpF a4 b4] = res at *
 obtain ⟨W0, hW0⟩ : ∃ W0, W0 = (w.alloc (.cells #[.int .i64 a0, .int .i64 a1, .int .i64 a2, .int .i64 a3, .int .i64 a4] 86)).alloc (.cells #[.int .i64 b0, .int .i64 b1, .int .i64 b2, .int .i64 b3, .int .i64 b4] 86) := ⟨_, rfl⟩
 have HB : Hid (Below w.heap.size w W0) := Lib.hid (by rw [hW0]; exact ((Below.refl _ w).alloc (Nat.le_refl _) _).alloc (by simp) _)
 have HW : Hid (W0.cell? ⟨w.heap.size, 0, none⟩ = some (.int .i64 a0) ∧ W0.cell? ⟨w.heap.size, 1, none⟩ = some (.int .i64 a1) ∧ W0.cell? ⟨w.heap.size, 2, none⟩ = some (.int .i64 a2) ∧ W0.cell? ⟨w.heap.size, 3, none⟩ = some (.int .i64 a3) ∧ W0.cell? ⟨w.heap.size, 4, none⟩ = some (.int .i64 a4) ∧ W0.cell? ⟨w.heap.size + 1, 0, none⟩ = some (.int .i64 b0) ∧ W0.cell? ⟨w.heap.size + 1, 1, none⟩ = some (.int .i64 b1) ∧ W0.cell? ⟨w.heap.size + 1, 2, none⟩ = some (.int .i64 b2) ∧ W0.cell? ⟨w.heap.size + 1, 3, none⟩ = some (.int .i64 b3) ∧ W0.cell? ⟨w.heap.size + 1, 4, none⟩ = some (.int .i64 b4)) := Lib.hid (by rw [hW0]; refine ⟨?_, ?_, ?_, ?_, ?_, ?_, ?_, ?_, ?_, ?_⟩ <;> simp [go_sem])
 have hs0 : W0.heap.size = w.heap.size + 2 := by rw [hW0]; simp
 have HA : Hid (∀ o, (W0.alloc o).cell? ⟨w.heap.size, 0, none⟩ = some (.int .i64 a0) ∧ (W0.alloc o).cell? ⟨w.heap.size, 1, none⟩ = some (.int .i64 a1) ∧ (W0.alloc o).cell? ⟨w.heap.size, 2, none⟩ = some (.int .i64 a2) ∧ (W0.alloc o).cell? ⟨w.heap.size, 3, none⟩ = some (.int .i64 a3) ∧ (W0.alloc o).cell? ⟨w.heap.size, 4, none⟩ = some (.int .i64 a4) ∧ (W0.alloc o).cell? ⟨w.heap.size + 1, 0, none⟩ = some (.int .i64 b0) ∧ (W0.alloc o).cell? ⟨w.heap.size + 1, 1, none⟩ = some (.int .i64 b1) ∧ (W0.alloc o).cell? ⟨w.heap.size + 1, 2, none⟩ = some (.int .i64 b2) ∧ (W0.alloc o).cell? ⟨w.heap.size + 1, 3, none⟩ = some (.int .i64 b3) ∧ (W0.alloc o).cell? ⟨w.heap.size + 1, 4, none⟩ = some (.int .i64 b4)) := Lib.hid (fun o => by
  have hb := (Below.refl W0.heap.size W0).alloc (Nat.le_refl _) o
  obtain ⟨c0, c1, c2, c3, c4, c5, c6, c7, c8, c9⟩ := HW.out
  exact ⟨(hb.cell (p := ⟨w.heap.size, 0, none⟩) (by dsimp only; omega)).trans c0, (hb.cell (p := ⟨w.heap.size, 1, none⟩) (by dsimp only; omega)).trans c1, (hb.cell (p := ⟨w.heap.size, 2, none⟩) (by dsimp only; omega)).trans c2, (hb.cell (p := ⟨w.heap.size, 3, none⟩) (by dsimp only; omega)).trans c3, (hb.cell (p := ⟨w.heap.size, 4, none⟩) (by dsimp only; omega)).trans c4, (hb.cell (p := ⟨w.heap.size + 1, 0, none⟩) (by dsimp only; omega)).trans c5, (hb.cell (p := ⟨w.heap.size + 1, 1, none⟩) (by dsimp only; omega)).trans c6, (hb.cell (p := ⟨w.heap.size + 1, 2, none⟩) (by dsimp only; omega)).trans c7, (hb.cell (p := ⟨w.heap.size + 1, 3, none⟩) (by dsimp only; omega)).trans c8, (hb.cell (p := ⟨w.heap.size + 1, 4, none⟩) (by dsimp only; omega)).trans c9⟩)
 have HS0 := Lib.hid hs0
 clear hs0
 go_enter Tryz.func129, Tryz.ntmps129
 go_wp2_with fail
 rw [← hW0]
 clear hW0
 refine Lx.region (C := fun w' => w'.cell? ⟨w.heap.size, 0, none⟩ = some (.int .i64 a0) ∧ w'.cell? ⟨w.heap.size, 1, none⟩ = some (.int .i64 a1) ∧ w'.cell? ⟨w.heap.size, 2, none⟩ = some (.int .i64 a2) ∧ w'.cell? ⟨w.heap.size, 3, none⟩ = some (.int .i64 a3) ∧ w'.cell? ⟨w.heap.size, 4, none⟩ = some (.int .i64 a4) ∧ w'.cell? ⟨w.heap.size + 1, 0, none⟩ = some (.int .i64 b0) ∧ w'.cell? ⟨w.heap.size + 1, 1, none⟩ = some (.int .i64 b1) ∧ w'.cell? ⟨w.heap.size + 1, 2, none⟩ = some (.int .i64 b2) ∧ w'.cell? ⟨w.heap.size + 1, 3, none⟩ = some (.int .i64 b3) ∧ w'.cell? ⟨w.heap.size + 1, 4, none⟩ = some (.int .i64 b4)) (hs := [1, 3, 6, 8, 11, 13, 16, 18, 21, 23]) (by kernel_rfl) (by kernel_rfl) (by exact HW.out) ?_
 repeat' (first | ((first | refine Lx.ln (fun K hK => ?_) | (first | (refine Lx.lp (v := ?_) ?_ (fun K hK => ?_); rotate_left 1; intro w' hCw; try dsimp only at hCw) | (refine Lx.lr (v := ?_) ?_ (fun K hK => ?_); rotate_left 1)); go_simp; first | done | with_reducible rfl); go_simp; refine hK _ ?_; clear hK K) | (refine Lx.le (fun K hK => ?_); go_simp; (first | (go_at_call 103; refine (HC.out _ _ _).mono ?_; rintro e w' ⟨rfl, rfl⟩) | (go_at_call 143; refine (HO.out _).mono ?_; rintro e w' ⟨rfl, rfl⟩) | skip); refine hK _ _ (by first | exact HW.out | exact HA.out _) ?_; clear hK K))
 all_goals (refine Lx.lex_nil ?_)
 go_wp2_with fail
 go_ret
 exact ⟨rfl, (HB.out.alloc (by have := HS0.out; omega) _).drew⟩
theorem cmpCp_any (x y : R4) (w : World) : Calls Tryz.prog 132 #[x.val, y.val] w (RetPost (.int .i64 (cmp4 x y)) w.heap.size w) := by
 obtain ⟨a0, a1, a2, a3⟩ := x
 obtain ⟨b0, b1, b2, b3⟩ := y
 unfold R4.val cmp4
 dsimp only
 have HC := Lib.hid (fun x y W => compare_any x y W)
 have HO : Hid (∀ W : World, Calls Tryz.prog 143 #[.slice (some ⟨W.heap.size, 0, none⟩) 4 4] (W.alloc (.cells #[.int .i64 (cmpF a0 b0), .int .i64 (cmpF a1 b1), .int .i64 (cmpF a2 b2), .int .i64 (cmpF a3 b3)] 3)).drew fun e w' => e = .returned (.int .i64 (orL5 [cmpF a0 b0, cmpF a1 b1, cmpF a2 b2, cmpF a3 b3])) ∧ (W.alloc (.cells #[.int .i64 (cmpF a0 b0), .int .i64 (cmpF a1 b1), .int .i64 (cmpF a2 b2), .int .i64 (cmpF a3 b3)] 3)).drew = w') := Lib.hid (fun W => orS_any _ 4 4 _ (W.heap.size + 1) [cmpF a0 b0, cmpF a1 b1, cmpF a2 b2, cmpF a3 b3] (by omega) (row1_new W intV 3 [cmpF a0 b0, cmpF a1 b1, cmpF a2 b2, cmpF a3 b3]))
 generalize orL5 [cmpF a0 b0, cmpF a1 b1, cmpF a2 b2, cmpF a3 b3] = res at *
 obtain ⟨W0, hW0⟩ : ∃ W0, W0 = (w.alloc (.cells #[.int .i64 a0, .int .i64 a1, .int .i64 a2, .int .i64 a3] 88)).alloc (.cells #[.int .i64 b0, .int .i64 b1, .int .i64 b2, .int .i64 b3] 88) := ⟨_, rfl⟩
 have HB : Hid (Below w.heap.size w W0) := Lib.hid (by rw [hW0]; exact ((Below.refl _ w).alloc (Nat.le_refl _) _).alloc (by simp) _)
 have HW : Hid (W0.cell? ⟨w.heap.size, 0, none⟩ = some (.int .i64 a0) ∧ W0.cell? ⟨w.heap.size, 1, none⟩ = some (.int .i64 a1) ∧ W0.cell? ⟨w.heap.size, 2, none⟩ = some (.int .i64 a2) ∧ W0.cell? ⟨w.heap.size, 3, none⟩ = some (.int .i64 a3) ∧ W0.cell? ⟨w.heap.size + 1, 0, none⟩ = some (.int .i64 b0) ∧ W0.cell? ⟨w.heap.size + 1, 1, none⟩ = some (.int .i64 b1) ∧ W0.cell? ⟨w.heap.size + 1, 2, none⟩ = some (.int .i64 b2) ∧ W0.cell? ⟨w.heap.size + 1, 3, none⟩ = some (.int .i64 b3)) := Lib.hid (by rw [hW0]; refine ⟨?_, ?_, ?_, ?_, ?_, ?_, ?_, ?_⟩ <;> simp [go_sem])
 have hs0 : W0.heap.size = w.heap.size + 2 := by rw [hW0]; simp
 have HA : Hid (∀ o, (W0.alloc o).cell? ⟨w.heap.size, 0, none⟩ = some (.int .i64 a0) ∧ (W0.alloc o).cell? ⟨w.heap.size, 1, none⟩ = some (.int .i64 a1) ∧ (W0.alloc o).cell? ⟨w.heap.size, 2, none⟩ = some (.int .i64 a2) ∧ (W0.alloc o).cell? ⟨w.heap.size, 3, none⟩ = some (.int .i64 a3) ∧ (W0.alloc o).cell? ⟨w.heap.size + 1, 0, none⟩ = some (.int .i64 b0) ∧ (W0.alloc o).cell? ⟨w.heap.size + 1, 1, none⟩ = some (.int .i64 b1) ∧ (W0.alloc o).cell? ⟨w.heap.size + 1, 2, none⟩ = some (.int .i64 b2) ∧ (W0.alloc o).cell? ⟨w.heap.size + 1, 3, none⟩ = some (.int .i64 b3)) := Lib.hid (fun o => by
  have hb := (Below.refl W0.heap.size W0).alloc (Nat.le_refl _) o
  obtain ⟨c0, c1, c2, c3, c4, c5, c6, c7⟩ := HW.out
  exact ⟨(hb.cell (p := ⟨w.heap.size, 0, none⟩) (by dsimp only; omega)).trans c0, (hb.cell (p := ⟨w.heap.size, 1, none⟩) (by dsimp only; omega)).trans c1, (hb.cell (p := ⟨w.heap.size, 2, none⟩) (by dsimp only; omega)).trans c2, (hb.cell (p := ⟨w.heap.size, 3, none⟩) (by dsimp only; omega)).trans c3, (hb.cell (p := ⟨w.heap.size + 1, 0, none⟩) (by dsimp only; omega)).trans c4, (hb.cell (p := ⟨w.heap.size + 1, 1, none⟩) (by dsimp only; omega)).trans c5, (hb.cell (p := ⟨w.heap.size + 1, 2, none⟩) (by dsimp only; omega)).trans c6, (hb.cell (p := ⟨w.heap.size + 1, 3, none⟩) (by dsimp only; omega)).trans c7⟩)
 have HS0 := Lib.hid hs0
 clear hs0
 go_enter Tryz.func132, Tryz.ntmps132
 go_wp2_with fail
 rw [← hW0]
 clear hW0
 refine Lx.region (C := fun w' => w'.cell? ⟨w.heap.size, 0, none⟩ = some (.int .i64 a0) ∧ w'.cell? ⟨w.heap.size, 1, none⟩ = some (.int .i64 a1) ∧ w'.cell? ⟨w.heap.size, 2, none⟩ = some (.int .i64 a2) ∧ w'.cell? ⟨w.heap.size, 3, none⟩ = some (.int .i64 a3) ∧ w'.cell? ⟨w.heap.size + 1, 0, none⟩ = some (.int .i64 b0) ∧ w'.cell? ⟨w.heap.size + 1, 1, none⟩ = some (.int .i64 b1) ∧ w'.cell? ⟨w.heap.size + 1, 2, none⟩ = some (.int .i64 b2) ∧ w'.cell? ⟨w.heap.size + 1, 3, none⟩ = some (.int .i64 b3)) (hs := [1, 3, 6, 8, 11, 13, 16, 18]) (by kernel_rfl) (by kernel_rfl) (by exact HW.out) ?_
 repeat' (first | ((first | refine Lx.ln (fun K hK => ?_) | (first | (refine Lx.lp (v := ?_) ?_ (fun K hK => ?_); rotate_left 1; intro w' hCw; try dsimp only at hCw) | (refine Lx.lr (v := ?_) ?_ (fun K hK => ?_); rotate_left 1)); go_simp; first | done | with_reducible rfl); go_simp; refine hK _ ?_; clear hK K) | (refine Lx.le (fun K hK => ?_); go_simp; (first | (go_at_call 103; refine (HC.out _ _ _).mono ?_; rintro e w' ⟨rfl, rfl⟩) | (go_at_call 143; refine (HO.out _).mono ?_; rintro e w' ⟨rfl, rfl⟩) | skip); refine hK _ _ (by first | exact HW.out | exact HA.out _) ?_; clear hK K))
 all_goals (refine Lx.lex_nil ?_)
 go_wp2_with fail
 go_ret
 exact ⟨rfl, (HB.out.alloc (by have := HS0.out; omega) _).drew⟩
theorem everyP_any (A : Option Addr) (n c : Nat) (w : World) (l : List R5) (hn : n ≤ 9223372036854775807) (hl : RowS 5 R5.cell w w.heap.size A n l) :
  Calls Tryz.prog 105 #[.slice A n c, .func (.func 124) #[] #[]] w (RetPost (.bool (l.all goodP)) w.heap.size w) := by
 have Hl := Lib.hid hl
 have Hlen := Eqn.mk hl.1
 clear hl
 go_enter Tryz.func105, Tryz.ntmps105
 go_wp2_with fail
 go_loopw [9] (fun i wr => ∃ k : Nat, k ≤ n ∧ i = .int .i64 k ∧ Eqn (l.all goodP) ((l.drop k).all goodP) ∧ Below w.heap.size w wr) (fun i _ => n - (intOf i).toNat)
 case atStart => exact ⟨0, Nat.zero_le _, rfl, rfl, Below.refl _ _⟩
 case round =>
  obtain ⟨k, hk, rfl, HR, hB⟩ := hrel
  have HB := Lib.hid hB
  have hbs := hB.size
  by_cases hlt : k < n
  ·obtain ⟨p, hp, hpd⟩ := drop_at (xs := l) (k := k) (by rw [Hlen.out]; exact hlt)
   obtain ⟨b, off, hA, hbl, hc⟩ := (Hl.out.below hB).2 (by omega)
   subst hA
   obtain ⟨p0, p1, p2, p3, p4⟩ := p
   have c0 := hc k _ hp 0 (by omega)
   have c1 := hc k _ hp 1 (by omega)
   have c2 := hc k _ hp 2 (by omega)
   have c3 := hc k _ hp 3 (by omega)
   have c4 := hc k _ hp 4 (by omega)
   simp only [R5.cell, Nat.add_zero] at c0 c1 c2 c3 c4
   have HG := Lib.hid (fun W => goodP_any ⟨p0, p1, p2, p3, p4⟩ W)
   have HR2 := HR.out
   rw [hpd, List.all_cons] at HR2
   unfold R5.val at HG
   dsimp only at HG
   have hbw : b < wr.heap.size := by omega
   have j0 : (k : Int) < (n : Int) := by omega
   have HB2 := Lib.hid (hB.alloc hbs (.cells #[.int .i64 p0, .int .i64 p1, .int .i64 p2, .int .i64 p3, .int .i64 p4] 84))
   generalize goodP ⟨p0, p1, p2, p3, p4⟩ = r at *
   clear hc hp hpd HR hB
   go_wp2_with fail
   refine (HG.out _).mono ?_
   rintro e w1 ⟨rfl, hb1⟩
   have HB3 := Lib.hid (HB2.out.trans (hb1.mono HB2.out.size))
   clear hb1
   cases r with
   | true =>
    have HV : Eqn (l.all goodP) ((l.drop (k + 1)).all goodP) := by rw [Eqn, HR2]; rfl
    clear HR2
    go_wp2_with fail
    go_roundw
    case rel => exact ⟨k + 1, by omega, by go_num, HV, HB3.out⟩
    case measure => simp [intOf]; omega
   | false =>
    have HV : Eqn (l.all goodP) false := by rw [Eqn, HR2]; rfl
    clear HR2
    go_wp2_with fail
    go_ret
    exact ⟨ret_bool HV.out.symm, HB3.out⟩
  ·have HV : Eqn (l.all goodP) true := by rw [Eqn, HR.out, drop_end (by rw [Hlen.out]; omega)]; rfl
   clear HR hB
   go_wp2_with fail
   go_ret
   exact ⟨ret_bool HV.out.symm, HB.out⟩
theorem everyL_any (A : Option Addr) (n c : Nat) (w : World) (l : List R5) (hn : n ≤ 9223372036854775807) (hl : RowS 5 R5.cell w w.heap.size A n l) :
  Calls Tryz.prog 107 #[.slice A n c, .func (.func 127) #[] #[]] w (RetPost (.bool (l.all goodL)) w.heap.size w) := by
 have Hl := Lib.hid hl
 have Hlen := Eqn.mk hl.1
 clear hl
 go_enter Tryz.func107, Tryz.ntmps107
 go_wp2_with fail
 go_loopw [9] (fun i wr => ∃ k : Nat, k ≤ n ∧ i = .int .i64 k ∧ Eqn (l.all goodL) ((l.drop k).all goodL) ∧ Below w.heap.size w wr) (fun i _ => n - (intOf i).toNat)
 case atStart => exact ⟨0, Nat.zero_le _, rfl, rfl, Below.refl _ _⟩
 case round =>
  obtain ⟨k, hk, rfl, HR, hB⟩ := hrel
  have HB := Lib.hid hB
  have hbs := hB.size
  by_cases hlt : k < n
  ·obtain ⟨p, hp, hpd⟩ := drop_at (xs := l) (k := k) (by rw [Hlen.out]; exact hlt)
   obtain ⟨b, off, hA, hbl, hc⟩ := (Hl.out.below hB).2 (by omega)
   subst hA
   obtain ⟨p0, p1, p2, p3, p4⟩ := p
   have c0 := hc k _ hp 0 (by omega)
   have c1 := hc k _ hp 1 (by omega)
   have c2 := hc k _ hp 2 (by omega)
   have c3 := hc k _ hp 3 (by omega)
   have c4 := hc k _ hp 4 (by omega)
   simp only [R5.cell, Nat.add_zero] at c0 c1 c2 c3 c4
   have HG := Lib.hid (fun W => goodL_any ⟨p0, p1, p2, p3, p4⟩ W)
   have HR2 := HR.out
   rw [hpd, List.all_cons] at HR2
   unfold R5.val at HG
   dsimp only at HG
   have hbw : b < wr.heap.size := by omega
   have j0 : (k : Int) < (n : Int) := by omega
   have HB2 := Lib.hid (hB.alloc hbs (.cells #[.int .i64 p0, .int .i64 p1, .int .i64 p2, .int .i64 p3, .int .i64 p4] 86))
   generalize goodL ⟨p0, p1, p2, p3, p4⟩ = r at *
   clear hc hp hpd HR hB
   go_wp2_with fail
   refine (HG.out _).mono ?_
   rintro e w1 ⟨rfl, hb1⟩
   have HB3 := Lib.hid (HB2.out.trans (hb1.mono HB2.out.size))
   clear hb1
   cases r with
   | true =>
    have HV : Eqn (l.all goodL) ((l.drop (k + 1)).all goodL) := by rw [Eqn, HR2]; rfl
    clear HR2
    go_wp2_with fail
    go_roundw
    case rel => exact ⟨k + 1, by omega, by go_num, HV, HB3.out⟩
    case measure => simp [intOf]; omega
   | false =>
    have HV : Eqn (l.all goodL) false := by rw [Eqn, HR2]; rfl
    clear HR2
    go_wp2_with fail
    go_ret
    exact ⟨ret_bool HV.out.symm, HB3.out⟩
  ·have HV : Eqn (l.all goodL) true := by rw [Eqn, HR.out, drop_end (by rw [Hlen.out]; omega)]; rfl
   clear HR hB
   go_wp2_with fail
   go_ret
   exact ⟨ret_bool HV.out.symm, HB.out⟩
theorem everyC_any (A : Option Addr) (n c : Nat) (w : World) (l : List R4) (hn : n ≤ 9223372036854775807) (hl : RowS 4 R4.cell w w.heap.size A n l) :
  Calls Tryz.prog 109 #[.slice A n c, .func (.func 130) #[] #[]] w (RetPost (.bool (l.all goodC)) w.heap.size w) := by
 have Hl := Lib.hid hl
 have Hlen := Eqn.mk hl.1
 clear hl
 go_enter Tryz.func109, Tryz.ntmps109
 go_wp2_with fail
 go_loopw [9] (fun i wr => ∃ k : Nat, k ≤ n ∧ i = .int .i64 k ∧ Eqn (l.all goodC) ((l.drop k).all goodC) ∧ Below w.heap.size w wr) (fun i _ => n - (intOf i).toNat)
 case atStart => exact ⟨0, Nat.zero_le _, rfl, rfl, Below.refl _ _⟩
 case round =>
  obtain ⟨k, hk, rfl, HR, hB⟩ := hrel
  have HB := Lib.hid hB
  have hbs := hB.size
  by_cases hlt : k < n
  ·obtain ⟨p, hp, hpd⟩ := drop_at (xs := l) (k := k) (by rw [Hlen.out]; exact hlt)
   obtain ⟨b, off, hA, hbl, hc⟩ := (Hl.out.below hB).2 (by omega)
   subst hA
   obtain ⟨p0, p1, p2, p3⟩ := p
   have c0 := hc k _ hp 0 (by omega)
   have c1 := hc k _ hp 1 (by omega)
   have c2 := hc k _ hp 2 (by omega)
   have c3 := hc k _ hp 3 (by omega)
   simp only [R4.cell, Nat.add_zero] at c0 c1 c2 c3
   have HG := Lib.hid (fun W => goodC_any ⟨p0, p1, p2, p3⟩ W)
   have HR2 := HR.out
   rw [hpd, List.all_cons] at HR2
   unfold R4.val at HG
   dsimp only at HG
   have hbw : b < wr.heap.size := by omega
   have j0 : (k : Int) < (n : Int) := by omega
   have HB2 := Lib.hid (hB.alloc hbs (.cells #[.int .i64 p0, .int .i64 p1, .int .i64 p2, .int .i64 p3] 88))
   generalize goodC ⟨p0, p1, p2, p3⟩ = r at *
   clear hc hp hpd HR hB
   go_wp2_with fail
   refine (HG.out _).mono ?_
   rintro e w1 ⟨rfl, hb1⟩
   have HB3 := Lib.hid (HB2.out.trans (hb1.mono HB2.out.size))
   clear hb1
   cases r with
   | true =>
    have HV : Eqn (l.all goodC) ((l.drop (k + 1)).all goodC) := by rw [Eqn, HR2]; rfl
    clear HR2
    go_wp2_with fail
    go_roundw
    case rel => exact ⟨k + 1, by omega, by go_num, HV, HB3.out⟩
    case measure => simp [intOf]; omega
   | false =>
    have HV : Eqn (l.all goodC) false := by rw [Eqn, HR2]; rfl
    clear HR2
    go_wp2_with fail
    go_ret
    exact ⟨ret_bool HV.out.symm, HB3.out⟩
  ·have HV : Eqn (l.all goodC) true := by rw [Eqn, HR.out, drop_end (by rw [Hlen.out]; omega)]; rfl
   clear HR hB
   go_wp2_with fail
   go_ret
   exact ⟨ret_bool HV.out.symm, HB.out⟩
theorem incP_any (A : Option Addr) (n c : Nat) (w : World) (l : List R5) (hn : n ≤ 9223372036854775807) (hl : RowS 5 R5.cell w w.heap.size A n l) :
  Calls Tryz.prog 125 #[.slice A n c, .func (.func 126) #[] #[]] w (RetPost (.bool (incF cmp5 l)) w.heap.size w) := by
 have Hl := Lib.hid hl
 have Hlen := Eqn.mk hl.1
 clear hl
 go_enter Tryz.func125, Tryz.ntmps125
 go_wp2_with fail
 go_loopw [5] (fun i wr => ∃ k : Nat, (k + 1 ≤ n ∨ k = 0) ∧ i = .int .i64 ((k + 1 : Nat) : Int) ∧ Eqn (incF cmp5 l) (incF cmp5 (l.drop k)) ∧ Below w.heap.size w wr) (fun i _ => n + 1 - (intOf i).toNat)
 case atStart => exact ⟨0, .inr rfl, rfl, rfl, Below.refl _ _⟩
 case round =>
  obtain ⟨k, hk, rfl, HR, hB⟩ := hrel
  have HB := Lib.hid hB
  have hbs := hB.size
  by_cases hlt : k + 1 < n
  ·obtain ⟨p, hp, hpd⟩ := drop_at (xs := l) (k := k) (by rw [Hlen.out]; omega)
   obtain ⟨q, hq, hqd⟩ := drop_at (xs := l) (k := k + 1) (by rw [Hlen.out]; exact hlt)
   obtain ⟨b, off, hA, hbl, hc⟩ := (Hl.out.below hB).2 (by omega)
   subst hA
   obtain ⟨p0, p1, p2, p3, p4⟩ := p
   obtain ⟨q0, q1, q2, q3, q4⟩ := q
   have c0 := hc k _ hp 0 (by omega)
   have c1 := hc k _ hp 1 (by omega)
   have c2 := hc k _ hp 2 (by omega)
   have c3 := hc k _ hp 3 (by omega)
   have c4 := hc k _ hp 4 (by omega)
   have d0 := hc (k + 1) _ hq 0 (by omega)
   have d1 := hc (k + 1) _ hq 1 (by omega)
   have d2 := hc (k + 1) _ hq 2 (by omega)
   have d3 := hc (k + 1) _ hq 3 (by omega)
   have d4 := hc (k + 1) _ hq 4 (by omega)
   simp only [R5.cell, Nat.add_zero] at c0 c1 c2 c3 c4 d0 d1 d2 d3 d4
   have HG := Lib.hid (fun W => cmpPr_any ⟨p0, p1, p2, p3, p4⟩ ⟨q0, q1, q2, q3, q4⟩ W)
   have HR2 := HR.out
   rw [hpd, hqd, incF_cons, ← hqd] at HR2
   unfold R5.val at HG
   dsimp only at HG
   have hbw : b < wr.heap.size := by omega
   obtain ⟨ki, hki⟩ : ∃ ki : Int, ((k + 1 : Nat) : Int) = ki := ⟨_, rfl⟩
   rw [hki]
   have j0 : ki < (n : Int) := by omega
   have j1 : 1 ≤ ki := by omega
   have e1 : IntKind.i64.wrap (ki - 1) = (k : Int) := by rw [IntWalk.i64_in _ (by omega)]; omega
   have e2 : ki.toNat = k + 1 := by omega
   have e3 : (ki - 1).toNat = k := by omega
   have e4 : 0 ≤ ki - 1 := by omega
   have e5 : ki - 1 < (n : Int) := by omega
   have e6 : (k : Int) < (n : Int) := by omega
   have e7 : (0 : Int) ≤ (k : Int) := by omega
   have e8 : 0 ≤ ki := by omega
   have HKI := Lib.hid hki
   generalize cmp5 ⟨p0, p1, p2, p3, p4⟩ ⟨q0, q1, q2, q3, q4⟩ = r at *
   clear hc hp hpd hq hqd HR hB hki
   by_cases hr : 0 ≤ r
   ·have HV := Eqn.mk (HR2.trans (if_pos hr))
    clear HR2
    go_wp2_with fail
    refine Lx.region (C := fun _ => True) (hs := []) (by kernel_rfl) (by kernel_rfl) trivial ?_
    repeat' (first | ((first | refine Lx.ln (fun K hK => ?_) | (first | (refine Lx.lp (v := ?_) ?_ (fun K hK => ?_); rotate_left 1; intro w' hCw; try dsimp only at hCw) | (refine Lx.lr (v := ?_) ?_ (fun K hK => ?_); rotate_left 1)); go_simp; first | done | with_reducible rfl); go_simp; refine hK _ ?_; clear hK K) | (refine Lx.le (fun K hK => ?_); go_simp; (first | (go_at_call 126; refine (HG.out _).mono ?_; rintro e w1 ⟨rfl, hb1⟩; have HB3 := Lib.hid (HB.out.drew.trans (hb1.mono (by exact hbs))); clear hb1)); refine hK _ _ (trivial) ?_; clear hK K))
    all_goals (refine Lx.lex_nil ?_)
    go_wp2_with fail
    go_ret
    exact ⟨ret_bool HV.out.symm, HB3.out⟩
   ·have HV := Eqn.mk (HR2.trans (if_neg hr))
    clear HR2
    go_wp2_with fail
    refine Lx.region (C := fun _ => True) (hs := []) (by kernel_rfl) (by kernel_rfl) trivial ?_
    repeat' (first | ((first | refine Lx.ln (fun K hK => ?_) | (first | (refine Lx.lp (v := ?_) ?_ (fun K hK => ?_); rotate_left 1; intro w' hCw; try dsimp only at hCw) | (refine Lx.lr (v := ?_) ?_ (fun K hK => ?_); rotate_left 1)); go_simp; first | done | with_reducible rfl); go_simp; refine hK _ ?_; clear hK K) | (refine Lx.le (fun K hK => ?_); go_simp; (first | (go_at_call 126; refine (HG.out _).mono ?_; rintro e w1 ⟨rfl, hb1⟩; have HB3 := Lib.hid (HB.out.drew.trans (hb1.mono (by exact hbs))); clear hb1)); refine hK _ _ (trivial) ?_; clear hK K))
    all_goals (refine Lx.lex_nil ?_)
    go_wp2_with fail
    clear e1 e2 e3 e4 e5
    go_roundw
    case rel => exact ⟨k + 1, .inl (by omega), by rw [← HKI.out]; go_num, HV, HB3.out⟩
    case measure => rw [← HKI.out]; simp [intOf]; omega
  ·have HV : Eqn (incF cmp5 l) true := by
    rw [Eqn, HR.out]
    by_cases h0 : k < l.length
    ·obtain ⟨p, hp, hpd⟩ := drop_at (xs := l) (k := k) h0
     have hl2 := Hlen.out
     rw [hpd, drop_end (by omega)]; rfl
    ·rw [drop_end (by omega)]; rfl
   have j0 : ¬ ((k + 1 : Nat) : Int) < (n : Int) := by omega
   clear HR hB
   go_wp2_with fail
   go_ret
   exact ⟨ret_bool HV.out.symm, HB.out⟩
theorem incL_any (A : Option Addr) (n c : Nat) (w : World) (l : List R5) (hn : n ≤ 9223372036854775807) (hl : RowS 5 R5.cell w w.heap.size A n l) :
  Calls Tryz.prog 128 #[.slice A n c, .func (.func 129) #[] #[]] w (RetPost (.bool (incF cmp5 l)) w.heap.size w) := by
 have Hl := Lib.hid hl
 have Hlen := Eqn.mk hl.1
 clear hl
 go_enter Tryz.func128, Tryz.ntmps128
 go_wp2_with fail
 go_loopw [5] (fun i wr => ∃ k : Nat, (k + 1 ≤ n ∨ k = 0) ∧ i = .int .i64 ((k + 1 : Nat) : Int) ∧ Eqn (incF cmp5 l) (incF cmp5 (l.drop k)) ∧ Below w.heap.size w wr) (fun i _ => n + 1 - (intOf i).toNat)
 case atStart => exact ⟨0, .inr rfl, rfl, rfl, Below.refl _ _⟩
 case round =>
  obtain ⟨k, hk, rfl, HR, hB⟩ := hrel
  have HB := Lib.hid hB
  have hbs := hB.size
  by_cases hlt : k + 1 < n
  ·obtain ⟨p, hp, hpd⟩ := drop_at (xs := l) (k := k) (by rw [Hlen.out]; omega)
   obtain ⟨q, hq, hqd⟩ := drop_at (xs := l) (k := k + 1) (by rw [Hlen.out]; exact hlt)
   obtain ⟨b, off, hA, hbl, hc⟩ := (Hl.out.below hB).2 (by omega)
   subst hA
   obtain ⟨p0, p1, p2, p3, p4⟩ := p
   obtain ⟨q0, q1, q2, q3, q4⟩ := q
   have c0 := hc k _ hp 0 (by omega)
   have c1 := hc k _ hp 1 (by omega)
   have c2 := hc k _ hp 2 (by omega)
   have c3 := hc k _ hp 3 (by omega)
   have c4 := hc k _ hp 4 (by omega)
   have d0 := hc (k + 1) _ hq 0 (by omega)
   have d1 := hc (k + 1) _ hq 1 (by omega)
   have d2 := hc (k + 1) _ hq 2 (by omega)
   have d3 := hc (k + 1) _ hq 3 (by omega)
   have d4 := hc (k + 1) _ hq 4 (by omega)
   simp only [R5.cell, Nat.add_zero] at c0 c1 c2 c3 c4 d0 d1 d2 d3 d4
   have HG := Lib.hid (fun W => cmpLd_any ⟨p0, p1, p2, p3, p4⟩ ⟨q0, q1, q2, q3, q4⟩ W)
   have HR2 := HR.out
   rw [hpd, hqd, incF_cons, ← hqd] at HR2
   unfold R5.val at HG
   dsimp only at HG
   have hbw : b < wr.heap.size := by omega
   obtain ⟨ki, hki⟩ : ∃ ki : Int, ((k + 1 : Nat) : Int) = ki := ⟨_, rfl⟩
   rw [hki]
   have j0 : ki < (n : Int) := by omega
   have j1 : 1 ≤ ki := by omega
   have e1 : IntKind.i64.wrap (ki - 1) = (k : Int) := by rw [IntWalk.i64_in _ (by omega)]; omega
   have e2 : ki.toNat = k + 1 := by omega
   have e3 : (ki - 1).toNat = k := by omega
   have e4 : 0 ≤ ki - 1 := by omega
   have e5 : ki - 1 < (n : Int) := by omega
   have e6 : (k : Int) < (n : Int) := by omega
   have e7 : (0 : Int) ≤ (k : Int) := by omega
   have e8 : 0 ≤ ki := by omega
   have HKI := Lib.hid hki
   generalize cmp5 ⟨p0, p1, p2, p3, p4⟩ ⟨q0, q1, q2, q3, q4⟩ = r at *
   clear hc hp hpd hq hqd HR hB hki
   by_cases hr : 0 ≤ r
   ·have HV := Eqn.mk (HR2.trans (if_pos hr))
    clear HR2
    go_wp2_with fail
    refine Lx.region (C := fun _ => True) (hs := []) (by kernel_rfl) (by kernel_rfl) trivial ?_
    repeat' (first | ((first | refine Lx.ln (fun K hK => ?_) | (first | (refine Lx.lp (v := ?_) ?_ (fun K hK => ?_); rotate_left 1; intro w' hCw; try dsimp only at hCw) | (refine Lx.lr (v := ?_) ?_ (fun K hK => ?_); rotate_left 1)); go_simp; first | done | with_reducible rfl); go_simp; refine hK _ ?_; clear hK K) | (refine Lx.le (fun K hK => ?_); go_simp; (first | (go_at_call 129; refine (HG.out _).mono ?_; rintro e w1 ⟨rfl, hb1⟩; have HB3 := Lib.hid (HB.out.drew.trans (hb1.mono (by exact hbs))); clear hb1)); refine hK _ _ (trivial) ?_; clear hK K))
    all_goals (refine Lx.lex_nil ?_)
    go_wp2_with fail
    go_ret
    exact ⟨ret_bool HV.out.symm, HB3.out⟩
   ·have HV := Eqn.mk (HR2.trans (if_neg hr))
    clear HR2
    go_wp2_with fail
    refine Lx.region (C := fun _ => True) (hs := []) (by kernel_rfl) (by kernel_rfl) trivial ?_
    repeat' (first | ((first | refine Lx.ln (fun K hK => ?_) | (first | (refine Lx.lp (v := ?_) ?_ (fun K hK => ?_); rotate_left 1; intro w' hCw; try dsimp only at hCw) | (refine Lx.lr (v := ?_) ?_ (fun K hK => ?_); rotate_left 1)); go_simp; first | done | with_reducible rfl); go_simp; refine hK _ ?_; clear hK K) | (refine Lx.le (fun K hK => ?_); go_simp; (first | (go_at_call 129; refine (HG.out _).mono ?_; rintro e w1 ⟨rfl, hb1⟩; have HB3 := Lib.hid (HB.out.drew.trans (hb1.mono (by exact hbs))); clear hb1)); refine hK _ _ (trivial) ?_; clear hK K))
    all_goals (refine Lx.lex_nil ?_)
    go_wp2_with fail
    clear e1 e2 e3 e4 e5
    go_roundw
    case rel => exact ⟨k + 1, .inl (by omega), by rw [← HKI.out]; go_num, HV, HB3.out⟩
    case measure => rw [← HKI.out]; simp [intOf]; omega
  ·have HV : Eqn (incF cmp5 l) true := by
    rw [Eqn, HR.out]
    by_cases h0 : k < l.length
    ·obtain ⟨p, hp, hpd⟩ := drop_at (xs := l) (k := k) h0
     have hl2 := Hlen.out
     rw [hpd, drop_end (by omega)]; rfl
    ·rw [drop_end (by omega)]; rfl
   have j0 : ¬ ((k + 1 : Nat) : Int) < (n : Int) := by omega
   clear HR hB
   go_wp2_with fail
   go_ret
   exact ⟨ret_bool HV.out.symm, HB.out⟩
theorem incC_any (A : Option Addr) (n c : Nat) (w : World) (l : List R4) (hn : n ≤ 9223372036854775807) (hl : RowS 4 R4.cell w w.heap.size A n l) :
  Calls Tryz.prog 131 #[.slice A n c, .func (.func 132) #[] #[]] w (RetPost (.bool (incF cmp4 l)) w.heap.size w) := by
 have Hl := Lib.hid hl
 have Hlen := Eqn.mk hl.1
 clear hl
 go_enter Tryz.func131, Tryz.ntmps131
 go_wp2_with fail
 go_loopw [5] (fun i wr => ∃ k : Nat, (k + 1 ≤ n ∨ k = 0) ∧ i = .int .i64 ((k + 1 : Nat) : Int) ∧ Eqn (incF cmp4 l) (incF cmp4 (l.drop k)) ∧ Below w.heap.size w wr) (fun i _ => n + 1 - (intOf i).toNat)
 case atStart => exact ⟨0, .inr rfl, rfl, rfl, Below.refl _ _⟩
 case round =>
  obtain ⟨k, hk, rfl, HR, hB⟩ := hrel
  have HB := Lib.hid hB
  have hbs := hB.size
  by_cases hlt : k + 1 < n
  ·obtain ⟨p, hp, hpd⟩ := drop_at (xs := l) (k := k) (by rw [Hlen.out]; omega)
   obtain ⟨q, hq, hqd⟩ := drop_at (xs := l) (k := k + 1) (by rw [Hlen.out]; exact hlt)
   obtain ⟨b, off, hA, hbl, hc⟩ := (Hl.out.below hB).2 (by omega)
   subst hA
   obtain ⟨p0, p1, p2, p3⟩ := p
   obtain ⟨q0, q1, q2, q3⟩ := q
   have c0 := hc k _ hp 0 (by omega)
   have c1 := hc k _ hp 1 (by omega)
   have c2 := hc k _ hp 2 (by omega)
   have c3 := hc k _ hp 3 (by omega)
   have d0 := hc (k + 1) _ hq 0 (by omega)
   have d1 := hc (k + 1) _ hq 1 (by omega)
   have d2 := hc (k + 1) _ hq 2 (by omega)
   have d3 := hc (k + 1) _ hq 3 (by omega)
   simp only [R4.cell, Nat.add_zero] at c0 c1 c2 c3 d0 d1 d2 d3
   have HG := Lib.hid (fun W => cmpCp_any ⟨p0, p1, p2, p3⟩ ⟨q0, q1, q2, q3⟩ W)
   have HR2 := HR.out
   rw [hpd, hqd, incF_cons, ← hqd] at HR2
   unfold R4.val at HG
   dsimp only at HG
   have hbw : b < wr.heap.size := by omega
   obtain ⟨ki, hki⟩ : ∃ ki : Int, ((k + 1 : Nat) : Int) = ki := ⟨_, rfl⟩
   rw [hki]
   have j0 : ki < (n : Int) := by omega
   have j1 : 1 ≤ ki := by omega
   have e1 : IntKind.i64.wrap (ki - 1) = (k : Int) := by rw [IntWalk.i64_in _ (by omega)]; omega
   have e2 : ki.toNat = k + 1 := by omega
   have e3 : (ki - 1).toNat = k := by omega
   have e4 : 0 ≤ ki - 1 := by omega
   have e5 : ki - 1 < (n : Int) := by omega
   have e6 : (k : Int) < (n : Int) := by omega
   have e7 : (0 : Int) ≤ (k : Int) := by omega
   have e8 : 0 ≤ ki := by omega
   have HKI := Lib.hid hki
   generalize cmp4 ⟨p0, p1, p2, p3⟩ ⟨q0, q1, q2, q3⟩ = r at *
   clear hc hp hpd hq hqd HR hB hki
   by_cases hr : 0 ≤ r
   ·have HV := Eqn.mk (HR2.trans (if_pos hr))
    clear HR2
    go_wp2_with fail
    refine Lx.region (C := fun _ => True) (hs := []) (by kernel_rfl) (by kernel_rfl) trivial ?_
    repeat' (first | ((first | refine Lx.ln (fun K hK => ?_) | (first | (refine Lx.lp (v := ?_) ?_ (fun K hK => ?_); rotate_left 1; intro w' hCw; try dsimp only at hCw) | (refine Lx.lr (v := ?_) ?_ (fun K hK => ?_); rotate_left 1)); go_simp; first | done | with_reducible rfl); go_simp; refine hK _ ?_; clear hK K) | (refine Lx.le (fun K hK => ?_); go_simp; (first | (go_at_call 132; refine (HG.out _).mono ?_; rintro e w1 ⟨rfl, hb1⟩; have HB3 := Lib.hid (HB.out.drew.trans (hb1.mono (by exact hbs))); clear hb1)); refine hK _ _ (trivial) ?_; clear hK K))
    all_goals (refine Lx.lex_nil ?_)
    go_wp2_with fail
    go_ret
    exact ⟨ret_bool HV.out.symm, HB3.out⟩
   ·have HV := Eqn.mk (HR2.trans (if_neg hr))
    clear HR2
    go_wp2_with fail
    refine Lx.region (C := fun _ => True) (hs := []) (by kernel_rfl) (by kernel_rfl) trivial ?_
    repeat' (first | ((first | refine Lx.ln (fun K hK => ?_) | (first | (refine Lx.lp (v := ?_) ?_ (fun K hK => ?_); rotate_left 1; intro w' hCw; try dsimp only at hCw) | (refine Lx.lr (v := ?_) ?_ (fun K hK => ?_); rotate_left 1)); go_simp; first | done | with_reducible rfl); go_simp; refine hK _ ?_; clear hK K) | (refine Lx.le (fun K hK => ?_); go_simp; (first | (go_at_call 132; refine (HG.out _).mono ?_; rintro e w1 ⟨rfl, hb1⟩; have HB3 := Lib.hid (HB.out.drew.trans (hb1.mono (by exact hbs))); clear hb1)); refine hK _ _ (trivial) ?_; clear hK K))
    all_goals (refine Lx.lex_nil ?_)
    go_wp2_with fail
    clear e1 e2 e3 e4 e5
    go_roundw
    case rel => exact ⟨k + 1, .inl (by omega), by rw [← HKI.out]; go_num, HV, HB3.out⟩
    case measure => rw [← HKI.out]; simp [intOf]; omega
  ·have HV : Eqn (incF cmp4 l) true := by
    rw [Eqn, HR.out]
    by_cases h0 : k < l.length
    ·obtain ⟨p, hp, hpd⟩ := drop_at (xs := l) (k := k) h0
     have hl2 := Hlen.out
     rw [hpd, drop_end (by omega)]; rfl
    ·rw [drop_end (by omega)]; rfl
   have j0 : ¬ ((k + 1 : Nat) : Int) < (n : Int) := by omega
   clear HR hB
   go_wp2_with fail
   go_ret
   exact ⟨ret_bool HV.out.symm, HB.out⟩
structure RulS where
 a0 : Option Addr
 n0 : Nat
 c0 : Nat
 a1 : Option Addr
 n1 : Nat
 c1 : Nat
 a2 : Option Addr
 n2 : Nat
 c2 : Nat
def RulS.val (s : RulS) : Value := .agg #[.slice s.a0 s.n0 s.c0, .slice s.a1 s.n1 s.c1, .slice s.a2 s.n2 s.c2]
def RulAt (w : World) (D : Nat) (s : RulS) (r : Rul) : Prop := RowS 5 R5.cell w D s.a0 s.n0 r.pairs ∧ RowS 5 R5.cell w D s.a1 s.n1 r.loads ∧ RowS 4 R4.cell w D s.a2 s.n2 r.caps ∧ s.n0 ≤ 9223372036854775807 ∧ s.n1 ≤ 9223372036854775807 ∧ s.n2 ≤ 9223372036854775807
theorem RulAt.below {w w' : World} {D : Nat} {s : RulS} {r : Rul} (h : RulAt w D s r) (hb : Below D w w') : RulAt w' D s r := ⟨h.1.below hb, h.2.1.below hb, h.2.2.1.below hb, h.2.2.2⟩
theorem RulAt.up {w : World} {D D' : Nat} {s : RulS} {r : Rul} (h : RulAt w D s r) (hD : D ≤ D') : RulAt w D' s r := ⟨h.1.up hD, h.2.1.up hD, h.2.2.1.up hD, h.2.2.2⟩
theorem RulAt.keep {w w' : World} {s : RulS} {r : Rul} (h : RulAt w w.heap.size s r) (hb : Below w.heap.size w w') : RulAt w' w'.heap.size s r := (h.below hb).up hb.size
theorem vrules_any (s : RulS) (w : World) (r : Rul) (h : RulAt w w.heap.size s r) : Calls Tryz.prog 101 #[s.val] w (RetPost (.bool (rulesF r)) w.heap.size w) := by
 obtain ⟨A0, n0, c0, A1, n1, c1, A2, n2, c2⟩ := s
 obtain ⟨W0, hW0⟩ : ∃ W0, W0 = w.alloc (.cells #[.slice A0 n0 c0, .slice A1 n1 c1, .slice A2 n2 c2] 27) := ⟨_, rfl⟩
 have HB0 : Hid (Below w.heap.size w W0) := Lib.hid (by rw [hW0]; exact (Below.refl _ w).alloc (Nat.le_refl _) _)
 have h0 := h.keep HB0.out
 have hs0 : W0.heap.size = w.heap.size + 1 := by rw [hW0]; simp
 have HC0 : Hid (W0.cell? ⟨w.heap.size, 0, none⟩ = some (.slice A0 n0 c0) ∧ W0.cell? ⟨w.heap.size, 1, none⟩ = some (.slice A1 n1 c1) ∧ W0.cell? ⟨w.heap.size, 2, none⟩ = some (.slice A2 n2 c2)) := Lib.hid (by rw [hW0]; refine ⟨?_, ?_, ?_⟩ <;> simp [go_sem])
 have HC : Hid (∀ W, Below W0.heap.size W0 W → W.cell? ⟨w.heap.size, 0, none⟩ = some (.slice A0 n0 c0) ∧ W.cell? ⟨w.heap.size, 1, none⟩ = some (.slice A1 n1 c1) ∧ W.cell? ⟨w.heap.size, 2, none⟩ = some (.slice A2 n2 c2)) := Lib.hid (fun W hb => ⟨(hb.cell (p := ⟨w.heap.size, 0, none⟩) (by dsimp only; omega)).trans HC0.out.1, (hb.cell (p := ⟨w.heap.size, 1, none⟩) (by dsimp only; omega)).trans HC0.out.2.1, (hb.cell (p := ⟨w.heap.size, 2, none⟩) (by dsimp only; omega)).trans HC0.out.2.2⟩)
 have HBW : Hid (∀ W, Below W0.heap.size W0 W → Below w.heap.size w W) := Lib.hid (fun W hb => HB0.out.trans (hb.mono HB0.out.size))
 have HE1 : Hid (∀ W, Below W0.heap.size W0 W → Calls Tryz.prog 105 #[.slice A0 n0 c0, .func (.func 124) #[] #[]] W (RetPost (.bool (r.pairs.all goodP)) W.heap.size W)) := Lib.hid (fun W hb => everyP_any A0 n0 c0 W _ h0.2.2.2.1 (h0.1.keep hb))
 have HE2 : Hid (∀ W, Below W0.heap.size W0 W → Calls Tryz.prog 125 #[.slice A0 n0 c0, .func (.func 126) #[] #[]] W (RetPost (.bool (incF cmp5 r.pairs)) W.heap.size W)) := Lib.hid (fun W hb => incP_any A0 n0 c0 W _ h0.2.2.2.1 (h0.1.keep hb))
 have HE4 : Hid (∀ W, Below W0.heap.size W0 W → Calls Tryz.prog 107 #[.slice A1 n1 c1, .func (.func 127) #[] #[]] W (RetPost (.bool (r.loads.all goodL)) W.heap.size W)) := Lib.hid (fun W hb => everyL_any A1 n1 c1 W _ h0.2.2.2.2.1 (h0.2.1.keep hb))
 have HE5 : Hid (∀ W, Below W0.heap.size W0 W → Calls Tryz.prog 128 #[.slice A1 n1 c1, .func (.func 129) #[] #[]] W (RetPost (.bool (incF cmp5 r.loads)) W.heap.size W)) := Lib.hid (fun W hb => incL_any A1 n1 c1 W _ h0.2.2.2.2.1 (h0.2.1.keep hb))
 have HE7 : Hid (∀ W, Below W0.heap.size W0 W → Calls Tryz.prog 109 #[.slice A2 n2 c2, .func (.func 130) #[] #[]] W (RetPost (.bool (r.caps.all goodC)) W.heap.size W)) := Lib.hid (fun W hb => everyC_any A2 n2 c2 W _ h0.2.2.2.2.2 (h0.2.2.1.keep hb))
 have HE8 : Hid (∀ W, Below W0.heap.size W0 W → Calls Tryz.prog 131 #[.slice A2 n2 c2, .func (.func 132) #[] #[]] W (RetPost (.bool (incF cmp4 r.caps)) W.heap.size W)) := Lib.hid (fun W hb => incC_any A2 n2 c2 W _ h0.2.2.2.2.2 (h0.2.2.1.keep hb))
 have HL : Hid (r.pairs.length = n0 ∧ r.loads.length = n1 ∧ r.caps.length = n2) := Lib.hid ⟨h0.1.1, h0.2.1.1, h0.2.2.1.1⟩
 have HF : Eqn (rulesF r) (decide (n0 ≤ 4096) && r.pairs.all goodP && incF cmp5 r.pairs && decide (n1 ≤ 1024) && r.loads.all goodL && incF cmp5 r.loads && decide (n2 ≤ 1024) && r.caps.all goodC && incF cmp4 r.caps) := by rw [Eqn, rulesF, HL.out.1, HL.out.2.1, HL.out.2.2]
 rw [HF.out]
 generalize r.pairs.all goodP = t1 at *
 generalize incF cmp5 r.pairs = t2 at *
 generalize r.loads.all goodL = t4 at *
 generalize incF cmp5 r.loads = t5 at *
 generalize r.caps.all goodC = t7 at *
 generalize incF cmp4 r.caps = t8 at *
 clear HF HL h h0 HC0 HB0 hs0
 unfold RulS.val
 dsimp only
 by_cases g0 : n0 ≤ 4096
 ·have k0 : (n0 : Int) ≤ 4096 := by omega
  go_enter Tryz.func101, Tryz.ntmps101
  go_wp2_with fail
  rw [← hW0]
  clear hW0
  have B0 := Lib.hid (Below.refl W0.heap.size W0)
  refine (HE1.out _ B0.out).mono ?_
  rintro e W1 ⟨rfl, hb⟩
  have B1 := Lib.hid (B0.out.trans (hb.mono B0.out.size))
  clear hb HE1
  cases t1 with
  | false =>
   obtain ⟨x0, x1, x2⟩ := HC.out _ B1.out
   go_wp2_with fail
   go_ret
   exact ⟨ret_bool (by first | rfl | (simp; done) | (simp; intros; omega) | (simp; omega)), HBW.out _ B1.out⟩
  | true =>
   obtain ⟨x0, x1, x2⟩ := HC.out _ B1.out
   go_wp2_with fail
   clear x0 x1 x2
   refine (HE2.out _ B1.out).mono ?_
   rintro e W2 ⟨rfl, hb⟩
   have B2 := Lib.hid (B1.out.trans (hb.mono B1.out.size))
   clear hb HE2
   cases t2 with
   | false =>
    obtain ⟨x0, x1, x2⟩ := HC.out _ B2.out
    go_wp2_with fail
    go_ret
    exact ⟨ret_bool (by first | rfl | (simp; done) | (simp; intros; omega) | (simp; omega)), HBW.out _ B2.out⟩
   | true =>
    by_cases g3 : n1 ≤ 1024
    ·have k3 : (n1 : Int) ≤ 1024 := by omega
     obtain ⟨x0, x1, x2⟩ := HC.out _ B2.out
     go_wp2_with fail
     clear x0 x1 x2
     refine (HE4.out _ B2.out).mono ?_
     rintro e W3 ⟨rfl, hb⟩
     have B3 := Lib.hid (B2.out.trans (hb.mono B2.out.size))
     clear hb HE4
     cases t4 with
     | false =>
      obtain ⟨x0, x1, x2⟩ := HC.out _ B3.out
      go_wp2_with fail
      go_ret
      exact ⟨ret_bool (by first | rfl | (simp; done) | (simp; intros; omega) | (simp; omega)), HBW.out _ B3.out⟩
     | true =>
      obtain ⟨x0, x1, x2⟩ := HC.out _ B3.out
      go_wp2_with fail
      clear x0 x1 x2
      refine (HE5.out _ B3.out).mono ?_
      rintro e W4 ⟨rfl, hb⟩
      have B4 := Lib.hid (B3.out.trans (hb.mono B3.out.size))
      clear hb HE5
      cases t5 with
      | false =>
       obtain ⟨x0, x1, x2⟩ := HC.out _ B4.out
       go_wp2_with fail
       go_ret
       exact ⟨ret_bool (by first | rfl | (simp; done) | (simp; intros; omega) | (simp; omega)), HBW.out _ B4.out⟩
      | true =>
       by_cases g6 : n2 ≤ 1024
       ·have k6 : (n2 : Int) ≤ 1024 := by omega
        obtain ⟨x0, x1, x2⟩ := HC.out _ B4.out
        go_wp2_with fail
        clear x0 x1 x2
        refine (HE7.out _ B4.out).mono ?_
        rintro e W5 ⟨rfl, hb⟩
        have B5 := Lib.hid (B4.out.trans (hb.mono B4.out.size))
        clear hb HE7
        cases t7 with
        | false =>
         obtain ⟨x0, x1, x2⟩ := HC.out _ B5.out
         go_wp2_with fail
         go_ret
         exact ⟨ret_bool (by first | rfl | (simp; done) | (simp; intros; omega) | (simp; omega)), HBW.out _ B5.out⟩
        | true =>
         obtain ⟨x0, x1, x2⟩ := HC.out _ B5.out
         go_wp2_with fail
         clear x0 x1 x2
         refine (HE8.out _ B5.out).mono ?_
         rintro e W6 ⟨rfl, hb⟩
         have B6 := Lib.hid (B5.out.trans (hb.mono B5.out.size))
         clear hb HE8
         go_wp2_with fail
         go_ret
         exact ⟨ret_bool (by first | rfl | (simp; done) | (simp; intros; omega) | (simp; omega)), HBW.out _ B6.out⟩
       ·have k6 : ¬ (n2 : Int) ≤ 1024 := by omega
        obtain ⟨x0, x1, x2⟩ := HC.out _ B4.out
        go_wp2_with fail
        go_ret
        exact ⟨ret_bool (by first | rfl | (simp; done) | (simp; intros; omega) | (simp; omega)), HBW.out _ B4.out⟩
    ·have k3 : ¬ (n1 : Int) ≤ 1024 := by omega
     obtain ⟨x0, x1, x2⟩ := HC.out _ B2.out
     go_wp2_with fail
     go_ret
     exact ⟨ret_bool (by first | rfl | (simp; done) | (simp; intros; omega) | (simp; omega)), HBW.out _ B2.out⟩
 ·have k0 : ¬ (n0 : Int) ≤ 4096 := by omega
  go_enter Tryz.func101, Tryz.ntmps101
  go_wp2_with fail
  rw [← hW0]
  go_ret
  have B0 := Lib.hid (Below.refl W0.heap.size W0)
  exact ⟨ret_bool (by first | rfl | (simp; done) | (simp; intros; omega) | (simp; omega)), HBW.out _ B0.out⟩
def notUp (prev : Option Int) (x : Int) : Bool := match prev with | none => false | some y => decide (x ≤ y)
def prevOf {α : Type} (f : α → Int) (l : List α) (k : Nat) : Option Int := if k = 0 then none else (l[k - 1]?).map f
theorem prevOf_succ {α : Type} (f : α → Int) (l : List α) (k : Nat) : prevOf f l (k + 1) = (l[k]?).map f := by unfold prevOf; rw [if_neg (by omega), Nat.add_sub_cancel]
end Go.Proofs.YtdpbbhbegehcjaaGreatDoor

namespace Go.Proofs.YtdpbbhbegehcjaaGreatDoor
namespace Pop
theorem and_split (a b c d : Nat) (hb : b < 256) (hd : d < 256) : (256 * a + b) &&& (256 * c + d) = 256 * (a &&& c) + (b &&& d) := by
 have h1 : ((256 * a + b) &&& (256 * c + d)) / 2 ^ 8 = (256 * a + b) / 2 ^ 8 &&& (256 * c + d) / 2 ^ 8 := Nat.and_div_two_pow
 have h2 : ((256 * a + b) &&& (256 * c + d)) % 2 ^ 8 = (256 * a + b) % 2 ^ 8 &&& (256 * c + d) % 2 ^ 8 := Nat.and_mod_two_pow
 rw [show (2 : Nat) ^ 8 = 256 from rfl] at h1 h2
 rw [show (256 * a + b) / 256 = a by omega, show (256 * c + d) / 256 = c by omega] at h1
 rw [show (256 * a + b) % 256 = b by omega, show (256 * c + d) % 256 = d by omega] at h2
 omega
def M (m : Nat) : Nat → Nat
 | 0 => 0
 | n + 1 => 256 * M m n + m
def p1 (r : Nat) : Nat := (r / 2 &&& 0x55) + (r &&& 0x55)
def p2 (r : Nat) : Nat := (r / 4 &&& 0x33) + (r &&& 0x33)
def y1 (n x : Nat) : Nat := (x / 2 &&& M 0x55 n) + (x &&& M 0x55 n)
def y2 (n x : Nat) : Nat := (x / 4 &&& M 0x33 n) + (x &&& M 0x33 n)
def y3 (n x : Nat) : Nat := (x / 16 + x) &&& M 0x0f n
theorem low1 : ∀ (e : Fin 2) (r : Fin 256), (128 * e.1 + r.1 / 2) &&& 0x55 = r.1 / 2 &&& 0x55 := by decide +kernel
theorem low2 : ∀ (e : Fin 4) (r : Fin 256), (64 * e.1 + r.1 / 4) &&& 0x33 = r.1 / 4 &&& 0x33 := by decide +kernel
theorem p1_lt : ∀ r : Fin 256, p1 r.1 < 256 := by decide +kernel
theorem y1_step (n q r : Nat) (hr : r < 256) : y1 (n + 1) (256 * q + r) = 256 * y1 n q + p1 r := by
 unfold y1 p1
 rw [show (256 * q + r) / 2 = 256 * (q / 2) + (128 * (q % 2) + r / 2) by omega]
 rw [M, and_split _ _ _ _ (by omega) (by omega), and_split _ _ _ _ hr (by omega)]
 have := low1 ⟨q % 2, by omega⟩ ⟨r, hr⟩
 simp only at this
 rw [this]
 omega
theorem y2_step (n q r : Nat) (hr : r < 256) : y2 (n + 1) (256 * q + r) = 256 * y2 n q + p2 r := by
 unfold y2 p2
 rw [show (256 * q + r) / 4 = 256 * (q / 4) + (64 * (q % 4) + r / 4) by omega]
 rw [M, and_split _ _ _ _ (by omega) (by omega), and_split _ _ _ _ hr (by omega)]
 have := low2 ⟨q % 4, by omega⟩ ⟨r, hr⟩
 simp only at this
 rw [this]
 omega
def pop8 (r : Nat) : Nat := (List.range 8).countP fun i => r.testBit i
theorem good : ∀ r : Fin 256, p2 (p1 r.1) % 16 ≤ 4 ∧ p2 (p1 r.1) / 16 ≤ 4 ∧ (p2 (p1 r.1) / 16 + p2 (p1 r.1)) % 16 = pop8 r.1 := by decide +kernel
theorem pop8_le (r : Nat) : pop8 r ≤ 8 := by
 have := List.countP_le_length (p := fun i => r.testBit i) (l := List.range 8)
 simpa [pop8] using this
theorem y12 (n q r : Nat) (hr : r < 256) : y2 (n + 1) (y1 (n + 1) (256 * q + r)) = 256 * y2 n (y1 n q) + p2 (p1 r) := by
 rw [y1_step n q r hr, y2_step _ _ _ (p1_lt ⟨r, hr⟩)]
theorem y12_low (n q : Nat) : y2 n (y1 n q) % 16 ≤ 4 := by
 cases n with
 | zero => simp [y2, y1, M]
 | succ n =>
  have h := y12 n (q / 256) (q % 256) (by omega)
  rw [show 256 * (q / 256) + q % 256 = q by omega] at h
  rw [h]
  have := (good ⟨q % 256, by omega⟩).1
  simp only at this
  omega
theorem y123 (n q r : Nat) (hr : r < 256) : y3 (n + 1) (y2 (n + 1) (y1 (n + 1) (256 * q + r))) = 256 * y3 n (y2 n (y1 n q)) + pop8 r := by
 rw [y12 n q r hr]
 have h0 := y12_low n q
 obtain ⟨h1, h2, h3⟩ := good ⟨r, hr⟩
 simp only at h1 h2 h3
 generalize y2 n (y1 n q) = A at *
 generalize p2 (p1 r) = b at *
 unfold y3
 rw [show (256 * A + b) / 16 + (256 * A + b) = 256 * (A / 16 + A) + (16 * (A % 16) + b / 16 + b) by omega]
 rw [M, and_split _ _ _ _ (by omega) (by omega)]
 have h4 := Nat.and_two_pow_sub_one_eq_mod (16 * (A % 16) + b / 16 + b) 4
 rw [show (2 : Nat) ^ 4 - 1 = 0x0f from rfl, show (2 : Nat) ^ 4 = 16 from rfl] at h4
 rw [h4]
 omega
def pop (x : Nat) : Nat := (List.range 64).countP fun i => x.testBit i
theorem tb_low (q r i : Nat) (hr : r < 256) (hi : i < 8) : (256 * q + r).testBit i = r.testBit i := by
 have h := Nat.testBit_two_pow_mul_add q (i := 8) (b := r) (by simpa using hr) i
 rw [show (2 : Nat) ^ 8 = 256 from rfl] at h
 rw [h, if_pos hi]
theorem tb_high (q r i : Nat) (hr : r < 256) : (256 * q + r).testBit (8 + i) = q.testBit i := by
 have h := Nat.testBit_two_pow_mul_add q (i := 8) (b := r) (by simpa using hr) (8 + i)
 rw [show (2 : Nat) ^ 8 = 256 from rfl] at h
 rw [h, if_neg (by omega)]
 congr 1
 omega
theorem count_step (n q r : Nat) (hr : r < 256) : ((List.range (8 + n)).countP fun i => (256 * q + r).testBit i) = pop8 r + (List.range n).countP fun i => q.testBit i := by
 rw [List.range_add, List.countP_append, List.countP_map]
 congr 1
 ·apply List.countP_congr
  intro i hi
  rw [tb_low q r i hr (List.mem_range.1 hi)]
 ·apply List.countP_congr
  intro i _
  simp only [Function.comp]
  rw [tb_high q r i hr]
theorem pop_bytes (x : Nat) : pop x = pop8 (x % 256) + (pop8 (x / 256 % 256) + (pop8 (x / 256 / 256 % 256) + (pop8 (x / 256 / 256 / 256 % 256) + (pop8 (x / 256 / 256 / 256 / 256 % 256) + (pop8 (x / 256 / 256 / 256 / 256 / 256 % 256) + (pop8 (x / 256 / 256 / 256 / 256 / 256 / 256 % 256) + pop8 (x / 256 / 256 / 256 / 256 / 256 / 256 / 256 % 256))))))) := by
 have step : ∀ n y, ((List.range (8 + n)).countP fun i => y.testBit i) = pop8 (y % 256) + (List.range n).countP fun i => (y / 256).testBit i := by
  intro n y
  have := count_step n (y / 256) (y % 256) (by omega)
  rwa [show 256 * (y / 256) + y % 256 = y by omega] at this
 unfold pop
 rw [show (64 : Nat) = 8 + 56 from rfl, step, show (56 : Nat) = 8 + 48 from rfl, step, show (48 : Nat) = 8 + 40 from rfl, step, show (40 : Nat) = 8 + 32 from rfl, step, show (32 : Nat) = 8 + 24 from rfl, step, show (24 : Nat) = 8 + 16 from rfl, step, show (16 : Nat) = 8 + 8 from rfl, step, show (List.range 8) = List.range (8 + 0) from rfl, step]
 simp
theorem y3_bytes (x : Nat) : y3 8 (y2 8 (y1 8 x)) = pop8 (x % 256) + 256 * (pop8 (x / 256 % 256) + 256 * (pop8 (x / 256 / 256 % 256) + 256 * (pop8 (x / 256 / 256 / 256 % 256) + 256 * (pop8 (x / 256 / 256 / 256 / 256 % 256) + 256 * (pop8 (x / 256 / 256 / 256 / 256 / 256 % 256) + 256 * (pop8 (x / 256 / 256 / 256 / 256 / 256 / 256 % 256) + 256 * pop8 (x / 256 / 256 / 256 / 256 / 256 / 256 / 256 % 256))))))) := by
 have step : ∀ n y, y3 (n + 1) (y2 (n + 1) (y1 (n + 1) y)) = pop8 (y % 256) + 256 * y3 n (y2 n (y1 n (y / 256))) := by
  intro n y
  have := y123 n (y / 256) (y % 256) (by omega)
  rw [show 256 * (y / 256) + y % 256 = y by omega] at this
  omega
 rw [step 7, step 6, step 5, step 4, step 3, step 2, step 1, step 0]
 have : ∀ y, y3 0 y = 0 := fun y => by simp [y3, M]
 rw [this, Nat.mul_zero, Nat.add_zero]
theorem fold_ (a b c d e f g h : Nat) (ha : a ≤ 8) (hb : b ≤ 8) (hc : c ≤ 8) (hd : d ≤ 8) (he : e ≤ 8) (hf : f ≤ 8) (hg : g ≤ 8) (hh : h ≤ 8) (s s1 s2 s3 : Nat)
  (e0 : s = a + 256 * (b + 256 * (c + 256 * (d + 256 * (e + 256 * (f + 256 * (g + 256 * h))))))) (e1 : s1 = s + s / 256) (e2 : s2 = s1 + s1 / 65536) (e3 : s3 = s2 + s2 / 4294967296) :
  s3 % 128 = a + b + c + d + e + f + g + h ∧ s3 < 1302123111085380114 := by
 have f1 : s / 256 = b + 256 * (c + 256 * (d + 256 * (e + 256 * (f + 256 * (g + 256 * h))))) := by omega
 have f2 : s1 = (a + b) + 256 * (b + c) + 65536 * ((c + d) + 256 * (d + e) + 65536 * ((e + f) + 256 * (f + g) + 65536 * ((g + h) + 256 * h))) := by omega
 clear e0 e1 f1
 have f3 : s1 / 65536 = (c + d) + 256 * (d + e) + 65536 * ((e + f) + 256 * (f + g) + 65536 * ((g + h) + 256 * h)) := by omega
 have f4 : s2 = (a + b + c + d) + 256 * (b + c + d + e) + 65536 * (c + d + e + f + 256 * (d + e + f + g)) + 4294967296 * ((e + f + g + h) + 256 * (f + g + h) + 65536 * ((g + h) + 256 * h)) := by omega
 clear e2 f2 f3
 have f5 : s2 / 4294967296 = (e + f + g + h) + 256 * (f + g + h) + 65536 * ((g + h) + 256 * h) := by omega
 have f6 : s3 = (a + b + c + d + e + f + g + h) + 128 * (2 * (b + c + d + e + (f + g + h)) + 512 * (c + d + e + f + (g + h) + 256 * (d + e + f + g + h)) + 33554432 * ((e + f + g + h) + 256 * (f + g + h) + 65536 * ((g + h) + 256 * h))) := by omega
 clear e3 f4 f5
 omega
theorem pop_fold (x s1 s2 s3 : Nat) (e1 : s1 = y3 8 (y2 8 (y1 8 x)) + y3 8 (y2 8 (y1 8 x)) / 256) (e2 : s2 = s1 + s1 / 65536) (e3 : s3 = s2 + s2 / 4294967296) : s3 % 128 = pop x ∧ s3 < 1302123111085380114 := by
 have h := fold_ _ _ _ _ _ _ _ _ (pop8_le _) (pop8_le _) (pop8_le _) (pop8_le _) (pop8_le _) (pop8_le _) (pop8_le _) (pop8_le _) _ s1 s2 s3 (y3_bytes x) e1 e2 e3
 refine ⟨?_, h.2⟩
 rw [h.1, pop_bytes]
 omega
end Pop
end Go.Proofs.YtdpbbhbegehcjaaGreatDoor
