/- The reference's Same for products, at equal lists. -/
import Derived.Test.YtpgomblalmnonaaDoorOwn
import Derived.Test.YtpgomblalmnonaaDoorLex
import Derived.Laws.StructEq
namespace Go.Proofs.YtpgomblalmnonaaDoor
open Go.RowKit

theorem prod_neq (w : World) (a b c d e : Int) : (binOp .neq 48 (.agg #[.int .i64 a, .int .i64 b, .int .i64 c, .int .i64 d, .int .i64 e]) (.agg #[.int .i64 a, .int .i64 b, .int .i64 c, .int .i64 d, .int .i64 e])).run Tryd.prog w = .ok (.bool false) w := by
  have h1 : Tryd.prog.stoodInHeld 48 = false := by kernel_rfl
  have h2 : Tryd.prog.underlying 48 = some (.struct (Tryd.prog.fieldsOf 48)) := by simp only [Program.fieldsOf, Tryd.underlying48]
  have p0 : ∀ w', (part 3 #[.int .i64 a, .int .i64 b, .int .i64 c, .int .i64 d, .int .i64 e] 0).run Tryd.prog w' = .ok (.int .i64 a) w' := fun _ => by kernel_rfl
  have p1 : ∀ w', (part 3 #[.int .i64 a, .int .i64 b, .int .i64 c, .int .i64 d, .int .i64 e] 1).run Tryd.prog w' = .ok (.int .i64 b) w' := fun _ => by kernel_rfl
  have p2 : ∀ w', (part 3 #[.int .i64 a, .int .i64 b, .int .i64 c, .int .i64 d, .int .i64 e] 2).run Tryd.prog w' = .ok (.int .i64 c) w' := fun _ => by kernel_rfl
  have p3 : ∀ w', (part 3 #[.int .i64 a, .int .i64 b, .int .i64 c, .int .i64 d, .int .i64 e] 3).run Tryd.prog w' = .ok (.int .i64 d) w' := fun _ => by kernel_rfl
  have p4 : ∀ w', (part 3 #[.int .i64 a, .int .i64 b, .int .i64 c, .int .i64 d, .int .i64 e] 4).run Tryd.prog w' = .ok (.int .i64 e) w' := fun _ => by kernel_rfl
  rw [run_neq_struct, run_equalIn_agg w 9999 _ _ _ h2 h1]
  simp only [Program.fieldsOf, Tryd.underlying48, Op.eqFields]
  simp [Sem.run_bind, p0, p1, p2, p3, p4, run_equalIn_int (P := Tryd.prog) _ 9998 3 .i64 .i64 _ _ Tryd.underlying3]

set_option maxHeartbeats 1000000 in
theorem sameP_any (A B : Option Addr) (n c d : Nat) (w : World) (D : Nat) (l : List Prod) (hn : n ≤ 1000) (ha : RowS 5 Prod.cell w D A n l) (hb : RowS 5 Prod.cell w D B n l) :
    Calls Tryd.prog 17 #[.slice A n c, .slice B n d] w (OrdPost true D w) := by
  have HA := Lib.hid ha
  have HB := Lib.hid hb
  have Hlen := Eqn.mk ha.1
  have h0 : ((n : Int) != (n : Int)) = false := by simp
  clear ha hb
  go_enter Tryd.func17, Tryd.ntmps17
  go_wp2_with fail
  go_loopw [5] (fun i wr => ∃ k : Nat, k ≤ n ∧ i = .int .i64 k ∧ Below D w wr) (fun i _ => n - (intOf i).toNat)
  case atStart => exact ⟨0, Nat.zero_le _, rfl, Below.refl _ _⟩
  case round =>
    obtain ⟨k, hk, rfl, HW⟩ := hrel
    have HWW := Lib.hid HW
    by_cases hlt : k < n
    · obtain ⟨p, hp, _⟩ := drop_at (xs := l) (k := k) (by rw [Hlen.out]; exact hlt)
      obtain ⟨b, off, rfl, hbl, hc⟩ := (HA.out.below HW).2 (by omega)
      obtain ⟨b', off', rfl, hbl', hc'⟩ := (HB.out.below HW).2 (by omega)
      have c0 := hc k p hp 0 (by omega)
      have c1 := hc k p hp 1 (by omega)
      have c2 := hc k p hp 2 (by omega)
      have c3 := hc k p hp 3 (by omega)
      have c4 := hc k p hp 4 (by omega)
      have d0 := hc' k p hp 0 (by omega)
      have d1 := hc' k p hp 1 (by omega)
      have d2 := hc' k p hp 2 (by omega)
      have d3 := hc' k p hp 3 (by omega)
      have d4 := hc' k p hp 4 (by omega)
      simp only [Prod.cell, Nat.add_zero] at c0 c1 c2 c3 c4 d0 d1 d2 d3 d4
      have j0 : (0 : Int) ≤ (k : Int) := by omega
      have j1 : (k : Int) < (n : Int) := by omega
      have hne := fun w => prod_neq w p.area p.cat p.sup p.units p.res
      clear hc hc' hp HW
      go_wp2_with fail
      refine Lx.region (C := fun _ => True) (hs := []) (by kernel_rfl) (by kernel_rfl) trivial ?_
      repeat' (first
        | (refine Lx.lex_no (Lx.n1 rfl rfl rfl (by with_reducible rfl)) (fun K hK => ?_); go_simp; refine hK _ ?_; clear hK K)
        | (refine Lx.lex_no (Lx.n0 rfl rfl rfl (by with_reducible rfl)) (fun K hK => ?_); go_simp; refine hK _ ?_; clear hK K)
        | (refine Lx.lex_no (Lx.n2 rfl rfl rfl) (fun K hK => ?_); go_simp; refine hK _ ?_; clear hK K)
        | (refine Lx.lex_pure (v := ?_) rfl (by first | exact Lx.w0 rfl | exact Lx.w1 rfl rfl rfl (by with_reducible rfl)) ?_ (fun K hK => ?_); rotate_left 1; (intro w' hCw; (try dsimp only at hCw); go_simp; done); go_simp; refine hK _ ?_; clear hK K)
        | (refine Lx.lex_pure (v := ?_) rfl (by first | exact Lx.w0 rfl | exact Lx.w1 rfl rfl rfl (by with_reducible rfl)) ?_ (fun K hK => ?_); rotate_left 1; (intro w' hCw; (try dsimp only at hCw); go_simp; with_reducible rfl); go_simp; refine hK _ ?_; clear hK K)
        | (refine Lx.lex_read (v := ?_) rfl (by first | exact Lx.w0 rfl | exact Lx.w1 rfl rfl rfl (by with_reducible rfl)) ?_ (fun K hK => ?_); rotate_left 1; (go_simp; done); go_simp; refine hK _ ?_; clear hK K)
        | (refine Lx.lex_read (v := ?_) rfl (by first | exact Lx.w0 rfl | exact Lx.w1 rfl rfl rfl (by with_reducible rfl)) ?_ (fun K hK => ?_); rotate_left 1; (go_simp; with_reducible rfl); go_simp; refine hK _ ?_; clear hK K)
        | (refine Lx.lex_eff rfl (by first | exact Lx.w0 rfl | exact Lx.w1 rfl rfl rfl (by with_reducible rfl)) (fun K hK => ?_); go_simp; (first | fail | skip); refine hK _ _ (trivial) ?_; clear hK K)
        | (refine Lx.lex_cases rfl rfl rfl (fun hgd K hK => ?_) (fun hgd K hK => ?_) <;> (try simp only [decide_eq_true_eq, decide_eq_false_iff_not] at hgd) <;> (first | (exfalso; omega) | (go_simp; refine hK _ ?_; clear hK K))))
      all_goals (refine Lx.lex_nil ?_)
      go_wp2_with fail
      go_roundw
      case rel => exact ⟨k + 1, by omega, by go_num, HWW.out.drew⟩
      case measure => simp only [intOf]; omega
    · clear HW
      go_wp2_with fail
      go_ret
      exact ⟨rfl, HWW.out⟩
end Go.Proofs.YtpgomblalmnonaaDoor
