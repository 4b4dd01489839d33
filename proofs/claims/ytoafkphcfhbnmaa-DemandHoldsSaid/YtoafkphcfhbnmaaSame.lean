/- Contracts of the reference's Same, SameBidders, CopyBidders. -/
import Derived.Test.YtoafkphcfhbnmaaSlices
namespace Go.Proofs.Ytoafkphcfhbnmaa
open Go.RowKit

/-- two lists of numbers are equal -/
def sameF : List Int → List Int → Bool
  | [], [] => true
  | x :: l, y :: r => if x = y then sameF l r else false
  | _, _ => false

theorem sameF_iff (l : List Int) : ∀ r, sameF l r = true ↔ l = r := by
  induction l with
  | nil => intro r; cases r <;> simp [sameF]
  | cons x l ih =>
    intro r
    cases r with
    | nil => simp [sameF]
    | cons y r =>
      rw [sameF]
      by_cases h : x = y
      · rw [if_pos h, ih]; simp [h]
      · rw [if_neg h]; simp [h]

theorem sameF_eq (l r : List Int) : sameF l r = decide (l = r) := by
  by_cases h : l = r
  · rw [(sameF_iff l r).2 h]; simp [h]
  · have : ¬ sameF l r = true := fun hs => h ((sameF_iff l r).1 hs)
    simp [h, this]

theorem sameF_len (l r : List Int) (h : l.length ≠ r.length) : sameF l r = false := by
  rw [sameF_eq]; simp; intro hh; exact h (by rw [hh])

set_option maxHeartbeats 1000000 in
theorem same_any (A B : Option Addr) (n c m d : Nat) (w : World) (D : Nat) (l r : List Int) (hn : n ≤ 1000) (hl : Row1 intV w D A n l) (hr : Row1 intV w D B m r) :
    Calls Try.prog 23 #[.slice A n c, .slice B m d] w (OrdPost (sameF l r) D w) := by
  have Hlen := Eqn.mk hl.1
  have Hblen := Eqn.mk hr.1
  have Hl := Lib.hid hl
  have Hb := Lib.hid hr
  by_cases hmn : m = n
  · subst hmn
    have h0 : ((m : Int) != (m : Int)) = false := by simp
    clear hl hr
    go_enter Try.func23, Try.ntmps23
    go_wp2_with fail
    go_loopw [5] (fun i wr => ∃ k : Nat, k ≤ m ∧ i = .int .i64 k ∧ Eqn (sameF l r) (sameF (l.drop k) (r.drop k)) ∧ Below D w wr) (fun i _ => m - (intOf i).toNat)
    case atStart => exact ⟨0, Nat.zero_le _, rfl, rfl, Below.refl _ _⟩
    case round =>
      obtain ⟨k, hk, rfl, HR, HW⟩ := hrel
      have HWW := Lib.hid HW
      by_cases hlt : k < m
      · obtain ⟨x, hx, hxd⟩ := drop_at (xs := l) (k := k) (by rw [Hlen.out]; exact hlt)
        obtain ⟨y, hy, hyd⟩ := drop_at (xs := r) (k := k) (by rw [Hblen.out]; exact hlt)
        obtain ⟨b, off, rfl, hbl, hc⟩ := (Hl.out.below HW).2 (by omega)
        obtain ⟨b', off', rfl, hbl', hc'⟩ := (Hb.out.below HW).2 (by omega)
        have c1 := hc k x hx
        have c2 := hc' k y hy
        simp only [intV] at c1 c2
        have HR' : Eqn (sameF l r) (if x = y then sameF (l.drop (k + 1)) (r.drop (k + 1)) else false) := by
          have := HR.out; rw [hxd, hyd, sameF] at this; exact this
        have hws := HW.size
        by_cases hxy : x = y
        · subst hxy
          have t0 : (x != x) = false := by simp
          have HR2 : Eqn (sameF l r) (sameF (l.drop (k + 1)) (r.drop (k + 1))) := by rw [Eqn, HR'.out, if_pos rfl]
          clear hc hc' hx hxd hy hyd HR HR' HW
          go_wp2
          refine Lx.region (C := fun _ => True) (hs := []) (by kernel_rfl) (by kernel_rfl) trivial ?_
          repeat' (first
            | (refine Lx.lex_no (Lx.n1 rfl rfl rfl (by with_reducible rfl)) (fun K hK => ?_); go_simp; refine hK _ ?_; clear hK K)
            | (refine Lx.lex_no (Lx.n0 rfl rfl rfl (by with_reducible rfl)) (fun K hK => ?_); go_simp; refine hK _ ?_; clear hK K)
            | (refine Lx.lex_no (Lx.n2 rfl rfl rfl) (fun K hK => ?_); go_simp; refine hK _ ?_; clear hK K)
            | (refine Lx.lex_pure (v := ?_) rfl (by first | exact Lx.w0 rfl | exact Lx.w1 rfl rfl rfl (by with_reducible rfl)) ?_ (fun K hK => ?_); rotate_left 1; (intro w' hCw; (try dsimp only at hCw); go_simp; done); go_simp; refine hK _ ?_; clear hK K)
            | (refine Lx.lex_pure (v := ?_) rfl (by first | exact Lx.w0 rfl | exact Lx.w1 rfl rfl rfl (by with_reducible rfl)) ?_ (fun K hK => ?_); rotate_left 1; (intro w' hCw; (try dsimp only at hCw); go_simp; with_reducible rfl); go_simp; refine hK _ ?_; clear hK K)
            | (refine Lx.lex_read (v := ?_) rfl (by first | exact Lx.w0 rfl | exact Lx.w1 rfl rfl rfl (by with_reducible rfl)) ?_ (fun K hK => ?_); rotate_left 1; (go_simp; done); go_simp; refine hK _ ?_; clear hK K)
            | (refine Lx.lex_read (v := ?_) rfl (by first | exact Lx.w0 rfl | exact Lx.w1 rfl rfl rfl (by with_reducible rfl)) ?_ (fun K hK => ?_); rotate_left 1; (go_simp; with_reducible rfl); go_simp; refine hK _ ?_; clear hK K)
            | (refine Lx.lex_eff rfl (by first | exact Lx.w0 rfl | exact Lx.w1 rfl rfl rfl (by with_reducible rfl)) (fun K hK => ?_); go_simp; (first | fail | skip); refine hK _ _ (trivial) ?_; clear hK K)
            | (refine Lx.lex_cases rfl rfl rfl (fun hgd K hK => ?_) (fun hgd K hK => ?_) <;> (try simp only [decide_eq_true_eq, decide_eq_false_iff_not] at hgd) <;> (first | (exfalso; omega) | (go_simp; refine hK _ ?_; clear hK K))))
          all_goals (refine Lx.lex_nil ?_)
          go_wp2
          go_roundw
          case rel => exact ⟨k + 1, by omega, by go_num, HR2, HWW.out.drew⟩
          case measure => simp [intOf]; omega
        · have t0 : (x != y) = true := by simpa using hxy
          have HR2 : Eqn (sameF l r) false := by rw [Eqn, HR'.out, if_neg hxy]
          clear hc hc' hx hxd hy hyd HR HR' HW hxy
          go_wp2
          refine Lx.region (C := fun _ => True) (hs := []) (by kernel_rfl) (by kernel_rfl) trivial ?_
          repeat' (first
            | (refine Lx.lex_no (Lx.n1 rfl rfl rfl (by with_reducible rfl)) (fun K hK => ?_); go_simp; refine hK _ ?_; clear hK K)
            | (refine Lx.lex_no (Lx.n0 rfl rfl rfl (by with_reducible rfl)) (fun K hK => ?_); go_simp; refine hK _ ?_; clear hK K)
            | (refine Lx.lex_no (Lx.n2 rfl rfl rfl) (fun K hK => ?_); go_simp; refine hK _ ?_; clear hK K)
            | (refine Lx.lex_pure (v := ?_) rfl (by first | exact Lx.w0 rfl | exact Lx.w1 rfl rfl rfl (by with_reducible rfl)) ?_ (fun K hK => ?_); rotate_left 1; (intro w' hCw; (try dsimp only at hCw); go_simp; done); go_simp; refine hK _ ?_; clear hK K)
            | (refine Lx.lex_pure (v := ?_) rfl (by first | exact Lx.w0 rfl | exact Lx.w1 rfl rfl rfl (by with_reducible rfl)) ?_ (fun K hK => ?_); rotate_left 1; (intro w' hCw; (try dsimp only at hCw); go_simp; with_reducible rfl); go_simp; refine hK _ ?_; clear hK K)
            | (refine Lx.lex_read (v := ?_) rfl (by first | exact Lx.w0 rfl | exact Lx.w1 rfl rfl rfl (by with_reducible rfl)) ?_ (fun K hK => ?_); rotate_left 1; (go_simp; done); go_simp; refine hK _ ?_; clear hK K)
            | (refine Lx.lex_read (v := ?_) rfl (by first | exact Lx.w0 rfl | exact Lx.w1 rfl rfl rfl (by with_reducible rfl)) ?_ (fun K hK => ?_); rotate_left 1; (go_simp; with_reducible rfl); go_simp; refine hK _ ?_; clear hK K)
            | (refine Lx.lex_eff rfl (by first | exact Lx.w0 rfl | exact Lx.w1 rfl rfl rfl (by with_reducible rfl)) (fun K hK => ?_); go_simp; (first | fail | skip); refine hK _ _ (trivial) ?_; clear hK K)
            | (refine Lx.lex_cases rfl rfl rfl (fun hgd K hK => ?_) (fun hgd K hK => ?_) <;> (try simp only [decide_eq_true_eq, decide_eq_false_iff_not] at hgd) <;> (first | (exfalso; omega) | (go_simp; refine hK _ ?_; clear hK K))))
          all_goals (refine Lx.lex_nil ?_)
          go_wp2
          go_ret
          exact ⟨ret_bool (by rw [HR2.out]), HWW.out.drew⟩
      · have : k = m := by omega
        subst this
        clear HW
        go_wp2
        go_ret
        exact ⟨ret_bool (by rw [HR.out, drop_end (by rw [Hlen.out]; omega), drop_end (by rw [Hblen.out]; omega)]; rfl), HWW.out⟩
  · have h0 : ((n : Int) != (m : Int)) = true := by simp; omega
    have HF : Eqn (sameF l r) false := sameF_len _ _ (by rw [hl.1, hr.1]; omega)
    clear hl hr
    go_enter Try.func23, Try.ntmps23
    go_wp2_with fail
    go_ret
    exact ⟨ret_bool (by rw [HF.out]), Below.refl _ _⟩
end Go.Proofs.Ytoafkphcfhbnmaa
