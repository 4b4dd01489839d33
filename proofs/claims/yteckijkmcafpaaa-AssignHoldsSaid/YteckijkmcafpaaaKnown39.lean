/- Same and SameSlots at equal lists; known() of the statements on layer 39 returns true. -/
import Derived.Test.YteckijkmcafpaaaSolve39
import Derived.Test.YteckijkmcafpaaaStart39
import Derived.Laws.StructEq
namespace Go.Proofs.Yteckijkmcafpaaa
open Go.RowKit

theorem slot_neq (w : World) (a b c : Int) : (binOp .neq 56 (.agg #[.int .i64 a, .int .i64 b, .int .i64 c]) (.agg #[.int .i64 a, .int .i64 b, .int .i64 c])).run Try.prog w = .ok (.bool false) w := by
  have h1 : Try.prog.stoodInHeld 56 = false := by kernel_rfl
  have h2 : Try.prog.underlying 56 = some (.struct (Try.prog.fieldsOf 56)) := by simp only [Program.fieldsOf, Try.underlying56]
  have p0 : ∀ w', (part 3 #[.int .i64 a, .int .i64 b, .int .i64 c] 0).run Try.prog w' = .ok (.int .i64 a) w' := fun _ => by kernel_rfl
  have p1 : ∀ w', (part 3 #[.int .i64 a, .int .i64 b, .int .i64 c] 1).run Try.prog w' = .ok (.int .i64 b) w' := fun _ => by kernel_rfl
  have p2 : ∀ w', (part 3 #[.int .i64 a, .int .i64 b, .int .i64 c] 2).run Try.prog w' = .ok (.int .i64 c) w' := fun _ => by kernel_rfl
  rw [run_neq_struct, run_equalIn_agg w 9999 _ _ _ h2 h1]
  simp only [Program.fieldsOf, Try.underlying56, Op.eqFields]
  simp [Sem.run_bind, p0, p1, p2, run_equalIn_int (P := Try.prog) _ 9998 3 .i64 .i64 _ _ Try.underlying3]

set_option maxHeartbeats 1000000 in
theorem sameS_any (A B : Option Addr) (n c d : Nat) (w : World) (D : Nat) (l : List Slot) (hn : n ≤ 1000) (ha : RowS 3 Slot.cell w D A n l) (hb : RowS 3 Slot.cell w D B n l) :
    Calls Try.prog 22 #[.slice A n c, .slice B n d] w (RetPost (.bool true) D w) := by
  have HA := Lib.hid ha
  have HB := Lib.hid hb
  have Hlen := Eqn.mk ha.1
  have h0 : ((n : Int) != (n : Int)) = false := by simp
  clear ha hb
  go_enter Try.func22, Try.ntmps22
  go_wp2_with fail
  go_loopw [5] (fun i wr => ∃ k : Nat, k ≤ n ∧ i = .int .i64 k ∧ Below D w wr) (fun i _ => n - (intOf i).toNat)
  case atStart => exact ⟨0, Nat.zero_le _, rfl, Below.refl _ _⟩
  case round =>
    obtain ⟨k, hk, rfl, HW⟩ := hrel
    have HWW := Lib.hid HW
    by_cases hlt : k < n
    · obtain ⟨p, hp, _⟩ := drop_at (xs := l) (k := k) (by rw [Hlen.out]; exact hlt)
      obtain ⟨b, off, rfl, hbl, hc⟩ := (HA.out.below HW).2 (by omega)
      obtain ⟨b', off', rfl, hbl', hc'⟩ := (HB.out.below HW).2 (by omega)
      have c0 := hc k p hp 0 (by omega)
      have c1 := hc k p hp 1 (by omega)
      have c2 := hc k p hp 2 (by omega)
      have d0 := hc' k p hp 0 (by omega)
      have d1 := hc' k p hp 1 (by omega)
      have d2 := hc' k p hp 2 (by omega)
      simp only [Slot.cell, Nat.add_zero] at c0 c1 c2 d0 d1 d2
      have j0 : (0 : Int) ≤ (k : Int) := by omega
      have j1 : (k : Int) < (n : Int) := by omega
      have hne := fun w => slot_neq w p.win p.start p.cnt
      clear hc hc' hp HW
      go_wp2_with fail
      refine Lx.region (C := fun _ => True) (hs := []) (by kernel_rfl) (by kernel_rfl) trivial ?_
      repeat' (first
        | (refine Lx.lex_no (Lx.n1 rfl rfl rfl (by with_reducible rfl)) (fun K hK => ?_); go_simp; refine hK _ ?_; clear hK K)
        | (refine Lx.lex_no (Lx.n0 rfl rfl rfl (by with_reducible rfl)) (fun K hK => ?_); go_simp; refine hK _ ?_; clear hK K)
        | (refine Lx.lex_no (Lx.n2 rfl rfl rfl) (fun K hK => ?_); go_simp; refine hK _ ?_; clear hK K)
        | (refine Lx.lex_pure (v := ?_) rfl (by first | exact Lx.w0 rfl | exact Lx.w1 rfl rfl rfl (by with_reducible rfl)) ?_ (fun K hK => ?_); rotate_left 1; (intro w' hCw; (try dsimp only at hCw); go_simp; done); go_simp; refine hK _ ?_; clear hK K)
        | (refine Lx.lex_pure (v := ?_) rfl (by first | exact Lx.w0 rfl | exact Lx.w1 rfl rfl rfl (by with_reducible rfl)) ?_ (fun K hK => ?_); rotate_left 1; (intro w' hCw; (try dsimp only at hCw); go_simp; with_reducible rfl); go_simp; refine hK _ ?_; clear hK K)
        | (refine Lx.lex_read (v := ?_) rfl (by first | exact Lx.w0 rfl | exact Lx.w1 rfl rfl rfl (by with_reducible rfl)) ?_ (fun K hK => ?_); rotate_left 1; (go_simp; done); go_simp; refine hK _ ?_; clear hK K)
        | (refine Lx.lex_read (v := ?_) rfl (by first | exact Lx.w0 rfl | exact Lx.w1 rfl rfl rfl (by with_reducible rfl)) ?_ (fun K hK => ?_); rotate_left 1; (go_simp; with_reducible rfl); go_simp; refine hK _ ?_; clear hK K)
        | (refine Lx.lex_eff rfl (by first | exact Lx.w0 rfl | exact Lx.w1 rfl rfl rfl (by with_reducible rfl)) (fun K hK => ?_); go_simp; (first | fail | skip); refine hK _ _ (trivial) ?_; clear hK K)
        | (refine Lx.lex_cases rfl rfl rfl (fun hgd K hK => ?_) (fun hgd K hK => ?_) <;> (try simp only [decide_eq_true_eq, decide_eq_false_iff_not] at hgd) <;> (first | (exfalso; omega) | (go_simp; refine hK _ ?_; clear hK K))))
      all_goals (refine Lx.lex_nil ?_)
      go_wp2_with fail
      go_roundw
      case rel => exact ⟨k + 1, by omega, by go_num, HWW.out.drew⟩
      case measure => simp only [intOf]; omega
    · clear HW
      go_wp2_with fail
      go_ret
      exact ⟨rfl, HWW.out⟩

set_option maxHeartbeats 1000000 in
theorem sameI_any (A B : Option Addr) (n c d : Nat) (w : World) (D : Nat) (l : List Int) (hn : n ≤ 1000) (ha : Row1 intV w D A n l) (hb : Row1 intV w D B n l) :
    Calls Try.prog 19 #[.slice A n c, .slice B n d] w (RetPost (.bool true) D w) := by
  have HA := Lib.hid ha
  have HB := Lib.hid hb
  have Hlen := Eqn.mk ha.1
  have h0 : ((n : Int) != (n : Int)) = false := by simp
  clear ha hb
  go_enter Try.func19, Try.ntmps19
  go_wp2_with fail
  go_loopw [5] (fun i wr => ∃ k : Nat, k ≤ n ∧ i = .int .i64 k ∧ Below D w wr) (fun i _ => n - (intOf i).toNat)
  case atStart => exact ⟨0, Nat.zero_le _, rfl, Below.refl _ _⟩
  case round =>
    obtain ⟨k, hk, rfl, HW⟩ := hrel
    have HWW := Lib.hid HW
    by_cases hlt : k < n
    · obtain ⟨p, hp, _⟩ := drop_at (xs := l) (k := k) (by rw [Hlen.out]; exact hlt)
      obtain ⟨b, off, rfl, hbl, hc⟩ := (HA.out.below HW).2 (by omega)
      obtain ⟨b', off', rfl, hbl', hc'⟩ := (HB.out.below HW).2 (by omega)
      have c0 := hc k p hp
      have d0 := hc' k p hp
      simp only [intV] at c0 d0
      have j0 : (0 : Int) ≤ (k : Int) := by omega
      have j1 : (k : Int) < (n : Int) := by omega
      have hne : (p != p) = false := by simp
      clear hc hc' hp HW
      go_wp2_with fail
      refine Lx.region (C := fun _ => True) (hs := []) (by kernel_rfl) (by kernel_rfl) trivial ?_
      repeat' (first
        | (refine Lx.lex_no (Lx.n1 rfl rfl rfl (by with_reducible rfl)) (fun K hK => ?_); go_simp; refine hK _ ?_; clear hK K)
        | (refine Lx.lex_no (Lx.n0 rfl rfl rfl (by with_reducible rfl)) (fun K hK => ?_); go_simp; refine hK _ ?_; clear hK K)
        | (refine Lx.lex_no (Lx.n2 rfl rfl rfl) (fun K hK => ?_); go_simp; refine hK _ ?_; clear hK K)
        | (refine Lx.lex_pure (v := ?_) rfl (by first | exact Lx.w0 rfl | exact Lx.w1 rfl rfl rfl (by with_reducible rfl)) ?_ (fun K hK => ?_); rotate_left 1; (intro w' hCw; (try dsimp only at hCw); go_simp; done); go_simp; refine hK _ ?_; clear hK K)
        | (refine Lx.lex_pure (v := ?_) rfl (by first | exact Lx.w0 rfl | exact Lx.w1 rfl rfl rfl (by with_reducible rfl)) ?_ (fun K hK => ?_); rotate_left 1; (intro w' hCw; (try dsimp only at hCw); go_simp; with_reducible rfl); go_simp; refine hK _ ?_; clear hK K)
        | (refine Lx.lex_read (v := ?_) rfl (by first | exact Lx.w0 rfl | exact Lx.w1 rfl rfl rfl (by with_reducible rfl)) ?_ (fun K hK => ?_); rotate_left 1; (go_simp; done); go_simp; refine hK _ ?_; clear hK K)
        | (refine Lx.lex_read (v := ?_) rfl (by first | exact Lx.w0 rfl | exact Lx.w1 rfl rfl rfl (by with_reducible rfl)) ?_ (fun K hK => ?_); rotate_left 1; (go_simp; with_reducible rfl); go_simp; refine hK _ ?_; clear hK K)
        | (refine Lx.lex_eff rfl (by first | exact Lx.w0 rfl | exact Lx.w1 rfl rfl rfl (by with_reducible rfl)) (fun K hK => ?_); go_simp; (first | fail | skip); refine hK _ _ (trivial) ?_; clear hK K)
        | (refine Lx.lex_cases rfl rfl rfl (fun hgd K hK => ?_) (fun hgd K hK => ?_) <;> (try simp only [decide_eq_true_eq, decide_eq_false_iff_not] at hgd) <;> (first | (exfalso; omega) | (go_simp; refine hK _ ?_; clear hK K))))
      all_goals (refine Lx.lex_nil ?_)
      go_wp2_with fail
      go_roundw
      case rel => exact ⟨k + 1, by omega, by go_num, HWW.out.drew⟩
      case measure => simp only [intOf]; omega
    · clear HW
      go_wp2_with fail
      go_ret
      exact ⟨rfl, HWW.out⟩

def kl : List Claim := [⟨1, 2⟩, ⟨5, 1⟩]
def kw : List Wish := [⟨1, 0, 7⟩, ⟨1, 2, 9⟩, ⟨5, 3, 4⟩]
theorem k1 : startsF 4 kl 1 = ([0, 1, 2], 0) := by kernel_rfl
theorem k2 : startsF 4 kl 5 = ([0, 1, 2, 3], 0) := by kernel_rfl
theorem k3 : solveF 4 kl kw = ([⟨1, 0, 2⟩, ⟨5, 3, 1⟩], 11, 0) := by kernel_rfl
theorem k4 : bestF 4 kl kw [1] = (9, 0) := by kernel_rfl
theorem k5 : bestF 4 kl kw [5] = (4, 0) := by kernel_rfl
theorem k6 : bestF 4 kl kw [] = (0, 0) := by kernel_rfl
theorem k7 : countF 4 kl = (6, 0) := by kernel_rfl

set_option maxRecDepth 100000 in
set_option maxHeartbeats 4000000 in
theorem known_any (w : World) : Calls Try.prog 11 #[] w (RetPost (.bool true) w.heap.size w) := by
  have K1 := Eqn.mk k1
  have K2 := Eqn.mk k2
  have K3 := Eqn.mk k3
  have K4 := Eqn.mk k4
  have K5 := Eqn.mk k5
  have K6 := Eqn.mk k6
  have K7 := Eqn.mk k7
  obtain ⟨W0, hW0⟩ : ∃ W0, W0 = (w.alloc (.cells #[.int .i64 1, .int .i64 2, .int .i64 5, .int .i64 1] 59)).alloc (.cells #[.int .i64 1, .int .i64 0, .int .i64 7, .int .i64 1, .int .i64 2, .int .i64 9, .int .i64 5, .int .i64 3, .int .i64 4] 61) := ⟨_, rfl⟩
  have L0 : Hid (RowS 2 Claim.cell W0 W0.heap.size (some ⟨w.heap.size, 0, none⟩) 2 kl) := by
    subst hW0
    have r1 := rowS_new w 2 Claim.cell 59 kl
    exact Lib.hid ((r1.below ((Below.refl _ _).alloc (by simp) _)).up (by simp))
  have M0 : Hid (RowS 3 Wish.cell W0 W0.heap.size (some ⟨w.heap.size + 1, 0, none⟩) 3 kw) := by
    subst hW0
    have r1 := rowS_new (w.alloc (.cells #[.int .i64 1, .int .i64 2, .int .i64 5, .int .i64 1] 59)) 3 Wish.cell 61 kw
    rw [World.size_alloc] at r1
    exact Lib.hid (r1.up (by simp))
  have B0 : Hid (Below w.heap.size w W0) := by subst hW0; exact Lib.hid (((Below.refl _ _).alloc (Nat.le_refl _) _).alloc (by simp) _)
  have HW0 := Eqn.mk hW0
  clear hW0
  go_enter Try.func11, Try.ntmps11
  go_wp2_with fail
  rw [← HW0.out]
  refine (starts_any 4 1 _ 2 2 W0 kl (by omega) L0.out).mono ?_
  rw [K1.out]
  rintro e w1 ⟨v1, rfl, ho1, hb1⟩
  obtain ⟨X1, c1, rfl, hr1⟩ := row1_of_own ho1
  have R1 := Lib.hid hr1
  have L1 := Lib.hid (L0.out.keep hb1)
  have M1 := Lib.hid (M0.out.keep hb1)
  have B1 := Lib.hid (B0.out.trans (hb1.mono B0.out.size))
  clear ho1 hr1 hb1 L0 M0 B0
  go_wp2_with fail
  refine (starts_any 4 5 _ 2 2 w1 kl (by omega) L1.out).mono ?_
  rw [K2.out]
  rintro e w2 ⟨v2', rfl, ho2, hb2⟩
  obtain ⟨X2, c2, rfl, hr2⟩ := row1_of_own ho2
  have R2 := Lib.hid hr2
  have R12 := Lib.hid (R1.out.keep hb2)
  have L2 := Lib.hid (L1.out.keep hb2)
  have M2 := Lib.hid (M1.out.keep hb2)
  have B2 := Lib.hid (B1.out.trans (hb2.mono B1.out.size))
  clear ho2 hr2 hb2 L1 M1 B1 R1
  go_wp2_with fail
  refine (psolve_any 4 _ _ 2 2 3 3 w2 kl kw (by omega) (by omega) L2.out M2.out).mono ?_
  rw [K3.out]
  rintro e w3 ⟨X3, c3, rfl, hr3, hb3⟩
  have R3 := Lib.hid hr3
  have R13 := Lib.hid (R12.out.keep hb3)
  have R23 := Lib.hid (R2.out.keep hb3)
  have L3 := Lib.hid (L2.out.keep hb3)
  have M3 := Lib.hid (M2.out.keep hb3)
  have B3 := Lib.hid (B2.out.trans (hb3.mono B2.out.size))
  clear hr3 hb3 L2 M2 B2 R2 R12
  go_wp2_with fail
  have R33 := Lib.hid R3.out
  clear R3
  have BA4 : Hid (Below w3.heap.size w3 (w3.alloc (.cells #[.int .i64 1] 3))) := Lib.hid ((Below.refl _ _).alloc (Nat.le_refl _) _)
  refine (best_any 4 _ _ (some ⟨w3.heap.size, 0, none⟩) 2 2 3 3 1 1 _ kl kw [1] (by omega) (by omega) (by omega) (L3.out.keep BA4.out) (M3.out.keep BA4.out) (by exact (row1_new w3 intV 3 [1]).up (by simp))).mono ?_
  rw [K4.out]
  simp only [v2]
  rintro e w4 ⟨rfl, hb4⟩
  have L4 := Lib.hid ((L3.out.keep BA4.out).keep hb4)
  have M4 := Lib.hid ((M3.out.keep BA4.out).keep hb4)
  have R14 := Lib.hid ((R13.out.keep BA4.out).keep hb4)
  have R24 := Lib.hid ((R23.out.keep BA4.out).keep hb4)
  have R34 := Lib.hid ((R33.out.keep BA4.out).keep hb4)
  have B4 := Lib.hid (B3.out.trans ((BA4.out.trans (hb4.mono BA4.out.size)).mono B3.out.size))
  clear hb4 L3 M3 R13 R23 R33 B3 BA4
  go_wp2_with fail
  have BA5 : Hid (Below w4.heap.size w4 (w4.alloc (.cells #[.int .i64 5] 3))) := Lib.hid ((Below.refl _ _).alloc (Nat.le_refl _) _)
  refine (best_any 4 _ _ (some ⟨w4.heap.size, 0, none⟩) 2 2 3 3 1 1 _ kl kw [5] (by omega) (by omega) (by omega) (L4.out.keep BA5.out) (M4.out.keep BA5.out) (by exact (row1_new w4 intV 3 [5]).up (by simp))).mono ?_
  rw [K5.out]
  simp only [v2]
  rintro e w5 ⟨rfl, hb5⟩
  have L5 := Lib.hid ((L4.out.keep BA5.out).keep hb5)
  have M5 := Lib.hid ((M4.out.keep BA5.out).keep hb5)
  have R15 := Lib.hid ((R14.out.keep BA5.out).keep hb5)
  have R25 := Lib.hid ((R24.out.keep BA5.out).keep hb5)
  have R35 := Lib.hid ((R34.out.keep BA5.out).keep hb5)
  have B5 := Lib.hid (B4.out.trans ((BA5.out.trans (hb5.mono BA5.out.size)).mono B4.out.size))
  clear hb5 L4 M4 R14 R24 R34 B4 BA5
  go_wp2_with fail
  refine (best_any 4 _ _ none 2 2 3 3 0 0 _ kl kw [] (by omega) (by omega) (by omega) L5.out M5.out (Row1.nil _ _ _ _)).mono ?_
  rw [K6.out]
  simp only [v2]
  rintro e w6 ⟨rfl, hb6⟩
  have L6 := Lib.hid (L5.out.keep hb6)
  have M6 := Lib.hid (M5.out.keep hb6)
  have R16 := Lib.hid (R15.out.keep hb6)
  have R26 := Lib.hid (R25.out.keep hb6)
  have R36 := Lib.hid (R35.out.keep hb6)
  have B6 := Lib.hid (B5.out.trans (hb6.mono B5.out.size))
  clear hb6 L5 M5 R15 R25 R35 B5
  go_wp2_with fail
  refine (count_any 4 _ 2 2 w6 kl (by omega) L6.out).mono ?_
  rw [K7.out]
  simp only [v2]
  rintro e w7 ⟨rfl, hb7⟩
  have R17 := Lib.hid (R16.out.keep hb7)
  have R27 := Lib.hid (R26.out.keep hb7)
  have R37 := Lib.hid (R36.out.keep hb7)
  have B7 := Lib.hid (B6.out.trans (hb7.mono B6.out.size))
  clear hb7 L6 M6 R16 R26 R36 B6
  have BA8 : Hid (Below w7.heap.size w7 (w7.alloc (.cells #[.int .i64 0, .int .i64 1, .int .i64 2] 3))) := Lib.hid ((Below.refl _ _).alloc (Nat.le_refl _) _)
  go_wp2_with fail
  refine (sameI_any _ (some ⟨w7.heap.size, 0, none⟩) 3 c1 3 _ (w7.heap.size + 1) [0, 1, 2] (by omega) (by exact (R17.out.keep BA8.out).up (by simp)) (by exact row1_new w7 intV 3 [0, 1, 2])).mono ?_
  rintro e w8 ⟨rfl, hb8'⟩
  have hb8 : Below (w7.alloc (.cells #[.int .i64 0, .int .i64 1, .int .i64 2] 3)).heap.size (w7.alloc (.cells #[.int .i64 0, .int .i64 1, .int .i64 2] 3)) w8 := by rw [World.size_alloc]; exact hb8'
  have R28 := Lib.hid ((R27.out.keep BA8.out).keep hb8)
  have R38 := Lib.hid ((R37.out.keep BA8.out).keep hb8)
  have B8 := Lib.hid (B7.out.trans ((BA8.out.trans (hb8.mono BA8.out.size)).mono B7.out.size))
  clear hb8 hb8' R17 R27 R37 B7 BA8
  have BA9 : Hid (Below w8.heap.size w8 (w8.alloc (.cells #[.int .i64 0, .int .i64 1, .int .i64 2, .int .i64 3] 3))) := Lib.hid ((Below.refl _ _).alloc (Nat.le_refl _) _)
  go_wp2_with fail
  refine (sameI_any _ (some ⟨w8.heap.size, 0, none⟩) 4 c2 4 _ (w8.heap.size + 1) [0, 1, 2, 3] (by omega) (by exact (R28.out.keep BA9.out).up (by simp)) (by exact row1_new w8 intV 3 [0, 1, 2, 3])).mono ?_
  rintro e w9 ⟨rfl, hb9'⟩
  have hb9 : Below (w8.alloc (.cells #[.int .i64 0, .int .i64 1, .int .i64 2, .int .i64 3] 3)).heap.size (w8.alloc (.cells #[.int .i64 0, .int .i64 1, .int .i64 2, .int .i64 3] 3)) w9 := by rw [World.size_alloc]; exact hb9'
  have R39 := Lib.hid ((R38.out.keep BA9.out).keep hb9)
  have B9 := Lib.hid (B8.out.trans ((BA9.out.trans (hb9.mono BA9.out.size)).mono B8.out.size))
  clear hb9 hb9' R28 R38 B8 BA9
  have BA10 : Hid (Below w9.heap.size w9 (w9.alloc (.cells #[.int .i64 1, .int .i64 0, .int .i64 2, .int .i64 5, .int .i64 3, .int .i64 1] 56))) := Lib.hid ((Below.refl _ _).alloc (Nat.le_refl _) _)
  go_wp2_with fail
  refine (sameS_any _ (some ⟨w9.heap.size, 0, none⟩) 2 c3 2 _ (w9.heap.size + 1) [⟨1, 0, 2⟩, ⟨5, 3, 1⟩] (by omega) (by exact (R39.out.keep BA10.out).up (by simp)) (by exact rowS_new w9 3 Slot.cell 56 [⟨1, 0, 2⟩, ⟨5, 3, 1⟩])).mono ?_
  rintro e wz ⟨rfl, hbz⟩
  have BZ := B9.out.trans ((BA10.out.trans (hbz.mono (by simp))).mono B9.out.size)
  clear hbz
  go_wp2_with fail
  go_ret
  exact ⟨rfl, BZ⟩
end Go.Proofs.Yteckijkmcafpaaa
