/- Contracts of the reference's Areas, Impairments and Percent. -/
import Derived.Test.YtpgomblalmnonaaDoorArea33
import Derived.Test.YtpgomblalmnonaaDoorImp33
namespace Go.Proofs.YtpgomblalmnonaaDoor
open Go.RowKit

set_option maxRecDepth 100000 in
set_option maxHeartbeats 2000000 in
theorem rareas_any (A : Option Addr) (n c : Nat) (l : List Area) (w : World) (hn : n ≤ 140) (hl : RowS 2 Area.cell w w.heap.size A n l) :
    Calls Tryd.prog 36 #[.slice A n c] w (OrdPost (areasF l) w.heap.size w) := by
  have Hl := Lib.hid hl
  have Hlen := Eqn.mk hl.1
  clear hl
  go_enter Tryd.func36, Tryd.ntmps36
  go_wp2_with fail
  go_loopw [3] (fun i wr => ∃ (k : Nat) (prev : Option Int), k ≤ n ∧ i = .int .i64 k ∧ Eqn prev (if k = 0 then none else (l[k - 1]?).map Area.id) ∧ Eqn (areasF l) (areasGo (l.drop k) prev) ∧ Below w.heap.size w wr) (fun i _ => n - (intOf i).toNat)
  case atStart => exact ⟨0, none, Nat.zero_le _, rfl, rfl, rfl, Below.refl _ _⟩
  case round =>
    obtain ⟨k, prev, hk, rfl, HP, HR, HW⟩ := hrel
    have HWW := Lib.hid HW
    by_cases hlt : k < n
    · obtain ⟨p, hp, hpd⟩ := drop_at (xs := l) (k := k) (by rw [Hlen.out]; exact hlt)
      obtain ⟨b, off, rfl, hbl, hc⟩ := (Hl.out.below HW).2 (by omega)
      have c0 := hc k p hp 0 (by omega)
      have c1 := hc k p hp 1 (by omega)
      simp only [Area.cell, Nat.add_zero] at c0 c1
      have Hc := Lib.hid hc
      have HPl : Eqn (some p.id) (if k + 1 = 0 then none else (l[k + 1 - 1]?).map Area.id) := by rw [Eqn, if_neg (by omega), Nat.add_sub_cancel, hp]; rfl
      have HR' : Eqn (areasF l) (if badA p then false else if prevA prev p.id = true then false else areasGo (l.drop (k + 1)) (some p.id)) := by
        have := HR.out; rw [hpd, areasGo] at this; exact this
      have j0 : (0 : Int) ≤ (k : Int) := by omega
      have j1 : (k : Int) < (n : Int) := by omega
      clear hc hpd hp HW HR
      by_cases hbad : badA p
      · have HRf : Eqn (areasF l) false := by rw [Eqn, HR'.out, if_pos hbad]
        unfold badA at hbad
        clear HR'
        go_wp2_with fail
        refine Lx.region (C := fun _ => True) (hs := []) (by kernel_rfl) (by kernel_rfl) trivial ?_
        repeat' (first
          | (refine Lx.lex_no (Lx.n1 rfl rfl rfl (by with_reducible rfl)) (fun K hK => ?_); go_simp; refine hK _ ?_; clear hK K)
          | (refine Lx.lex_no (Lx.n0 rfl rfl rfl (by with_reducible rfl)) (fun K hK => ?_); go_simp; refine hK _ ?_; clear hK K)
          | (refine Lx.lex_no (Lx.n2 rfl rfl rfl) (fun K hK => ?_); go_simp; refine hK _ ?_; clear hK K)
          | (refine Lx.lex_pure (v := ?_) rfl (by first | exact Lx.w0 rfl | exact Lx.w1 rfl rfl rfl (by with_reducible rfl)) ?_ (fun K hK => ?_); rotate_left 1; (intro w' hCw; (try dsimp only at hCw); go_simp; done); go_simp; refine hK _ ?_; clear hK K)
          | (refine Lx.lex_pure (v := ?_) rfl (by first | exact Lx.w0 rfl | exact Lx.w1 rfl rfl rfl (by with_reducible rfl)) ?_ (fun K hK => ?_); rotate_left 1; (intro w' hCw; (try dsimp only at hCw); go_simp; with_reducible rfl); go_simp; refine hK _ ?_; clear hK K)
          | (refine Lx.lex_read (v := ?_) rfl (by first | exact Lx.w0 rfl | exact Lx.w1 rfl rfl rfl (by with_reducible rfl)) ?_ (fun K hK => ?_); rotate_left 1; (go_simp; done); go_simp; refine hK _ ?_; clear hK K)
          | (refine Lx.lex_read (v := ?_) rfl (by first | exact Lx.w0 rfl | exact Lx.w1 rfl rfl rfl (by with_reducible rfl)) ?_ (fun K hK => ?_); rotate_left 1; (go_simp; with_reducible rfl); go_simp; refine hK _ ?_; clear hK K)
          | (refine Lx.lex_eff rfl (by first | exact Lx.w0 rfl | exact Lx.w1 rfl rfl rfl (by with_reducible rfl)) (fun K hK => ?_); go_simp; (first | fail | skip); refine hK _ _ (trivial) ?_; clear hK K)
          | (refine Lx.lex_cases rfl rfl rfl (fun hgd K hK => ?_) (fun hgd K hK => ?_) <;> (try simp only [decide_eq_true_eq, decide_eq_false_iff_not] at hgd) <;> (first | (exfalso; omega) | (go_simp; refine hK _ ?_; clear hK K))))
        all_goals (refine Lx.lex_nil ?_)
        all_goals go_wp2_with fail
        all_goals
          go_ret
          exact ⟨ret_bool (by rw [HRf.out]), HWW.out.drew⟩
      · have hb2 := hbad
        unfold badA at hb2
        obtain ⟨n1, n2, n3, n4⟩ : ¬ p.id < 0 ∧ ¬ 63 < p.id ∧ ¬ p.people < 0 ∧ ¬ 4096000000 < p.people := by omega
        by_cases hk0 : k = 0
        · have g0 : decide (0 < k) = false := by simp [hk0]
          have g1 : ¬ (0 : Int) < (k : Int) := by omega
          have HRt : Eqn (areasF l) (areasGo (l.drop (k + 1)) (some p.id)) := by
            have hp0 : prev = none := by have := HP.out; rw [if_pos hk0] at this; exact this
            rw [Eqn, HR'.out, if_neg hbad, hp0, if_neg (by simp [prevA])]
          clear hbad hb2 HR' hk0 HP
          go_wp2_with fail
          refine Lx.region (C := fun _ => True) (hs := []) (by kernel_rfl) (by kernel_rfl) trivial ?_
          repeat' (first
            | (refine Lx.lex_no (Lx.n1 rfl rfl rfl (by with_reducible rfl)) (fun K hK => ?_); go_simp; refine hK _ ?_; clear hK K)
            | (refine Lx.lex_no (Lx.n0 rfl rfl rfl (by with_reducible rfl)) (fun K hK => ?_); go_simp; refine hK _ ?_; clear hK K)
            | (refine Lx.lex_no (Lx.n2 rfl rfl rfl) (fun K hK => ?_); go_simp; refine hK _ ?_; clear hK K)
            | (refine Lx.lex_pure (v := ?_) rfl (by first | exact Lx.w0 rfl | exact Lx.w1 rfl rfl rfl (by with_reducible rfl)) ?_ (fun K hK => ?_); rotate_left 1; (intro w' hCw; (try dsimp only at hCw); go_simp; done); go_simp; refine hK _ ?_; clear hK K)
            | (refine Lx.lex_pure (v := ?_) rfl (by first | exact Lx.w0 rfl | exact Lx.w1 rfl rfl rfl (by with_reducible rfl)) ?_ (fun K hK => ?_); rotate_left 1; (intro w' hCw; (try dsimp only at hCw); go_simp; with_reducible rfl); go_simp; refine hK _ ?_; clear hK K)
            | (refine Lx.lex_read (v := ?_) rfl (by first | exact Lx.w0 rfl | exact Lx.w1 rfl rfl rfl (by with_reducible rfl)) ?_ (fun K hK => ?_); rotate_left 1; (go_simp; done); go_simp; refine hK _ ?_; clear hK K)
            | (refine Lx.lex_read (v := ?_) rfl (by first | exact Lx.w0 rfl | exact Lx.w1 rfl rfl rfl (by with_reducible rfl)) ?_ (fun K hK => ?_); rotate_left 1; (go_simp; with_reducible rfl); go_simp; refine hK _ ?_; clear hK K)
            | (refine Lx.lex_eff rfl (by first | exact Lx.w0 rfl | exact Lx.w1 rfl rfl rfl (by with_reducible rfl)) (fun K hK => ?_); go_simp; (first | fail | skip); refine hK _ _ (trivial) ?_; clear hK K)
            | (refine Lx.lex_cases rfl rfl rfl (fun hgd K hK => ?_) (fun hgd K hK => ?_) <;> (try simp only [decide_eq_true_eq, decide_eq_false_iff_not] at hgd) <;> (first | (exfalso; omega) | (go_simp; refine hK _ ?_; clear hK K))))
          all_goals (refine Lx.lex_nil ?_)
          go_wp2_with fail
          go_roundw
          case rel => exact ⟨k + 1, _, by omega, by go_num, HPl, HRt, HWW.out.drew⟩
          case measure => simp [intOf]; omega
        · have hk1 : 0 < k := by omega
          have hk1' : decide (0 < k) = true := by simpa using hk1
          have hk2 : (0 : Int) < (k : Int) := by omega
          obtain ⟨q, hq⟩ : ∃ q, l[k - 1]? = some q := ⟨_, List.getElem?_eq_getElem (by rw [Hlen.out]; omega)⟩
          have hpq : prev = some q.id := by have := HP.out; rw [if_neg hk0, hq] at this; exact this
          have d0 := Hc.out (k - 1) q hq 0 (by omega)
          simp only [Area.cell, Nat.add_zero] at d0
          have hwr : IntKind.i64.wrap ((k : Int) - 1) = (k : Int) - 1 := by rw [IntKind.wrap_i64]; omega
          have htn : ((k : Int) - 1).toNat = k - 1 := by omega
          have hge : (0 : Int) ≤ (k : Int) - 1 := by omega
          have hlt2 : (k : Int) - 1 < (n : Int) := by omega
          have hge' : (1 : Int) ≤ (k : Int) := by omega
          have HRt : Eqn (areasF l) (if p.id ≤ q.id then false else areasGo (l.drop (k + 1)) (some p.id)) := by
            rw [Eqn, HR'.out, if_neg hbad, hpq]; simp only [prevA, decide_eq_true_eq]
          clear hbad hb2 HR' hk0 hq hpq HP
          by_cases hle : p.id ≤ q.id
          · have HRf : Eqn (areasF l) false := by rw [Eqn, HRt.out, if_pos hle]
            clear HRt
            go_wp2_with fail
            refine Lx.region (C := fun _ => True) (hs := []) (by kernel_rfl) (by kernel_rfl) trivial ?_
            repeat' (first
              | (refine Lx.lex_no (Lx.n1 rfl rfl rfl (by with_reducible rfl)) (fun K hK => ?_); go_simp; refine hK _ ?_; clear hK K)
              | (refine Lx.lex_no (Lx.n0 rfl rfl rfl (by with_reducible rfl)) (fun K hK => ?_); go_simp; refine hK _ ?_; clear hK K)
              | (refine Lx.lex_no (Lx.n2 rfl rfl rfl) (fun K hK => ?_); go_simp; refine hK _ ?_; clear hK K)
              | (refine Lx.lex_pure (v := ?_) rfl (by first | exact Lx.w0 rfl | exact Lx.w1 rfl rfl rfl (by with_reducible rfl)) ?_ (fun K hK => ?_); rotate_left 1; (intro w' hCw; (try dsimp only at hCw); go_simp; done); go_simp; refine hK _ ?_; clear hK K)
              | (refine Lx.lex_pure (v := ?_) rfl (by first | exact Lx.w0 rfl | exact Lx.w1 rfl rfl rfl (by with_reducible rfl)) ?_ (fun K hK => ?_); rotate_left 1; (intro w' hCw; (try dsimp only at hCw); go_simp; with_reducible rfl); go_simp; refine hK _ ?_; clear hK K)
              | (refine Lx.lex_read (v := ?_) rfl (by first | exact Lx.w0 rfl | exact Lx.w1 rfl rfl rfl (by with_reducible rfl)) ?_ (fun K hK => ?_); rotate_left 1; (go_simp; done); go_simp; refine hK _ ?_; clear hK K)
              | (refine Lx.lex_read (v := ?_) rfl (by first | exact Lx.w0 rfl | exact Lx.w1 rfl rfl rfl (by with_reducible rfl)) ?_ (fun K hK => ?_); rotate_left 1; (go_simp; with_reducible rfl); go_simp; refine hK _ ?_; clear hK K)
              | (refine Lx.lex_eff rfl (by first | exact Lx.w0 rfl | exact Lx.w1 rfl rfl rfl (by with_reducible rfl)) (fun K hK => ?_); go_simp; (first | fail | skip); refine hK _ _ (trivial) ?_; clear hK K)
              | (refine Lx.lex_cases rfl rfl rfl (fun hgd K hK => ?_) (fun hgd K hK => ?_) <;> (try simp only [decide_eq_true_eq, decide_eq_false_iff_not] at hgd) <;> (first | (exfalso; omega) | (go_simp; refine hK _ ?_; clear hK K))))
            all_goals (refine Lx.lex_nil ?_)
            clear hwr htn
            go_wp2_with fail
            go_ret
            exact ⟨ret_bool (by rw [HRf.out]), HWW.out.drew⟩
          · have HRf : Eqn (areasF l) (areasGo (l.drop (k + 1)) (some p.id)) := by rw [Eqn, HRt.out, if_neg hle]
            clear HRt
            go_wp2_with fail
            refine Lx.region (C := fun _ => True) (hs := []) (by kernel_rfl) (by kernel_rfl) trivial ?_
            repeat' (first
              | (refine Lx.lex_no (Lx.n1 rfl rfl rfl (by with_reducible rfl)) (fun K hK => ?_); go_simp; refine hK _ ?_; clear hK K)
              | (refine Lx.lex_no (Lx.n0 rfl rfl rfl (by with_reducible rfl)) (fun K hK => ?_); go_simp; refine hK _ ?_; clear hK K)
              | (refine Lx.lex_no (Lx.n2 rfl rfl rfl) (fun K hK => ?_); go_simp; refine hK _ ?_; clear hK K)
              | (refine Lx.lex_pure (v := ?_) rfl (by first | exact Lx.w0 rfl | exact Lx.w1 rfl rfl rfl (by with_reducible rfl)) ?_ (fun K hK => ?_); rotate_left 1; (intro w' hCw; (try dsimp only at hCw); go_simp; done); go_simp; refine hK _ ?_; clear hK K)
              | (refine Lx.lex_pure (v := ?_) rfl (by first | exact Lx.w0 rfl | exact Lx.w1 rfl rfl rfl (by with_reducible rfl)) ?_ (fun K hK => ?_); rotate_left 1; (intro w' hCw; (try dsimp only at hCw); go_simp; with_reducible rfl); go_simp; refine hK _ ?_; clear hK K)
              | (refine Lx.lex_read (v := ?_) rfl (by first | exact Lx.w0 rfl | exact Lx.w1 rfl rfl rfl (by with_reducible rfl)) ?_ (fun K hK => ?_); rotate_left 1; (go_simp; done); go_simp; refine hK _ ?_; clear hK K)
              | (refine Lx.lex_read (v := ?_) rfl (by first | exact Lx.w0 rfl | exact Lx.w1 rfl rfl rfl (by with_reducible rfl)) ?_ (fun K hK => ?_); rotate_left 1; (go_simp; with_reducible rfl); go_simp; refine hK _ ?_; clear hK K)
              | (refine Lx.lex_eff rfl (by first | exact Lx.w0 rfl | exact Lx.w1 rfl rfl rfl (by with_reducible rfl)) (fun K hK => ?_); go_simp; (first | fail | skip); refine hK _ _ (trivial) ?_; clear hK K)
              | (refine Lx.lex_cases rfl rfl rfl (fun hgd K hK => ?_) (fun hgd K hK => ?_) <;> (try simp only [decide_eq_true_eq, decide_eq_false_iff_not] at hgd) <;> (first | (exfalso; omega) | (go_simp; refine hK _ ?_; clear hK K))))
            all_goals (refine Lx.lex_nil ?_)
            clear hwr htn
            go_wp2_with fail
            go_roundw
            case rel => exact ⟨k + 1, _, by omega, by go_num, HPl, HRf, HWW.out.drew⟩
            case measure => simp [intOf]; omega
    · have HR2 : Eqn (areasF l) true := by rw [Eqn, HR.out, drop_end (by rw [Hlen.out]; omega)]; rfl
      clear HR HW
      go_wp2_with fail
      go_ret
      exact ⟨ret_bool (by rw [HR2.out]), HWW.out⟩

set_option maxRecDepth 100000 in
set_option maxHeartbeats 2000000 in
theorem rimps_any (A : Option Addr) (n c : Nat) (l : List Imp) (w : World) (hn : n ≤ 140) (hl : RowS 3 Imp.cell w w.heap.size A n l) :
    Calls Tryd.prog 37 #[.slice A n c] w (OrdPost (impsF l) w.heap.size w) := by
  have Hl := Lib.hid hl
  have Hlen := Eqn.mk hl.1
  clear hl
  go_enter Tryd.func37, Tryd.ntmps37
  go_wp2_with fail
  go_loopw [3] (fun i wr => ∃ (k : Nat) (prev : Option Imp), k ≤ n ∧ i = .int .i64 k ∧ Eqn prev (if k = 0 then none else l[k - 1]?) ∧ Eqn (impsF l) (impsGo (l.drop k) prev) ∧ Below w.heap.size w wr) (fun i _ => n - (intOf i).toNat)
  case atStart => exact ⟨0, none, Nat.zero_le _, rfl, rfl, rfl, Below.refl _ _⟩
  case round =>
    obtain ⟨k, prev, hk, rfl, HP, HR, HW⟩ := hrel
    have HWW := Lib.hid HW
    have hws := HW.size
    by_cases hlt : k < n
    · obtain ⟨p, hp, hpd⟩ := drop_at (xs := l) (k := k) (by rw [Hlen.out]; exact hlt)
      obtain ⟨b, off, rfl, hbl, hc⟩ := (Hl.out.below HW).2 (by omega)
      have c0 := hc k p hp 0 (by omega)
      have c1 := hc k p hp 1 (by omega)
      have c2 := hc k p hp 2 (by omega)
      simp only [Imp.cell, Nat.add_zero] at c0 c1 c2
      have Hc := Lib.hid hc
      have HPl : Eqn (some p) (if k + 1 = 0 then none else l[k + 1 - 1]?) := by rw [Eqn, if_neg (by omega), Nat.add_sub_cancel, hp]
      have HR' : Eqn (impsF l) (if badI p then false else if prevI prev p = true then false else impsGo (l.drop (k + 1)) (some p)) := by
        have := HR.out; rw [hpd, impsGo] at this; exact this
      have j0 : (0 : Int) ≤ (k : Int) := by omega
      have j1 : (k : Int) < (n : Int) := by omega
      have hbs : b < wr.heap.size := by omega
      clear hc hpd hp HW HR
      by_cases hbad : badI p
      · have HRf : Eqn (impsF l) false := by rw [Eqn, HR'.out, if_pos hbad]
        unfold badI at hbad
        clear HR'
        rcases hbad with h | h | h | h | h | h
        all_goals
          go_wp2_with fail
          all_goals
            go_ret
            exact ⟨ret_bool (by rw [HRf.out]), HWW.out.alloc hws _⟩
      · have hb2 := hbad
        unfold badI at hb2
        obtain ⟨n1, n2, n3, n4, n5, n6⟩ : ¬ p.area < 0 ∧ ¬ 63 < p.area ∧ ¬ p.block < 0 ∧ ¬ 11 < p.block ∧ ¬ p.pct < 0 ∧ ¬ 100 < p.pct := by omega
        by_cases hk0 : k = 0
        · have g0 : decide (0 < k) = false := by simp [hk0]
          have g1 : ¬ (0 : Int) < (k : Int) := by omega
          have HRt : Eqn (impsF l) (impsGo (l.drop (k + 1)) (some p)) := by
            have hp0 : prev = none := by have := HP.out; rw [if_pos hk0] at this; exact this
            rw [Eqn, HR'.out, if_neg hbad, hp0, if_neg (by simp [prevI])]
          clear hbad hb2 HR' hk0 HP
          go_wp2_with fail
          refine Lx.region (C := fun _ => True) (hs := []) (by kernel_rfl) (by kernel_rfl) trivial ?_
          repeat' (first
            | (refine Lx.lex_no (Lx.n1 rfl rfl rfl (by with_reducible rfl)) (fun K hK => ?_); go_simp; refine hK _ ?_; clear hK K)
            | (refine Lx.lex_no (Lx.n0 rfl rfl rfl (by with_reducible rfl)) (fun K hK => ?_); go_simp; refine hK _ ?_; clear hK K)
            | (refine Lx.lex_no (Lx.n2 rfl rfl rfl) (fun K hK => ?_); go_simp; refine hK _ ?_; clear hK K)
            | (refine Lx.lex_pure (v := ?_) rfl (by first | exact Lx.w0 rfl | exact Lx.w1 rfl rfl rfl (by with_reducible rfl)) ?_ (fun K hK => ?_); rotate_left 1; (intro w' hCw; (try dsimp only at hCw); go_simp; done); go_simp; refine hK _ ?_; clear hK K)
            | (refine Lx.lex_pure (v := ?_) rfl (by first | exact Lx.w0 rfl | exact Lx.w1 rfl rfl rfl (by with_reducible rfl)) ?_ (fun K hK => ?_); rotate_left 1; (intro w' hCw; (try dsimp only at hCw); go_simp; with_reducible rfl); go_simp; refine hK _ ?_; clear hK K)
            | (refine Lx.lex_read (v := ?_) rfl (by first | exact Lx.w0 rfl | exact Lx.w1 rfl rfl rfl (by with_reducible rfl)) ?_ (fun K hK => ?_); rotate_left 1; (go_simp; done); go_simp; refine hK _ ?_; clear hK K)
            | (refine Lx.lex_read (v := ?_) rfl (by first | exact Lx.w0 rfl | exact Lx.w1 rfl rfl rfl (by with_reducible rfl)) ?_ (fun K hK => ?_); rotate_left 1; (go_simp; with_reducible rfl); go_simp; refine hK _ ?_; clear hK K)
            | (refine Lx.lex_eff rfl (by first | exact Lx.w0 rfl | exact Lx.w1 rfl rfl rfl (by with_reducible rfl)) (fun K hK => ?_); go_simp; (first | fail | skip); refine hK _ _ (trivial) ?_; clear hK K)
            | (refine Lx.lex_cases rfl rfl rfl (fun hgd K hK => ?_) (fun hgd K hK => ?_) <;> (try simp only [decide_eq_true_eq, decide_eq_false_iff_not] at hgd) <;> (first | (exfalso; omega) | (go_simp; refine hK _ ?_; clear hK K))))
          all_goals (refine Lx.lex_nil ?_)
          go_wp2_with fail
          go_roundw
          case rel => exact ⟨k + 1, _, by omega, by go_num, HPl, HRt, (HWW.out.alloc hws _).drew⟩
          case measure => simp [intOf]; omega
        · have hk1 : 0 < k := by omega
          have hk1' : decide (0 < k) = true := by simpa using hk1
          have hk2 : (0 : Int) < (k : Int) := by omega
          obtain ⟨q, hq⟩ : ∃ q, l[k - 1]? = some q := ⟨_, List.getElem?_eq_getElem (by rw [Hlen.out]; omega)⟩
          have hpq : prev = some q := by have := HP.out; rw [if_neg hk0, hq] at this; exact this
          have d0 := Hc.out (k - 1) q hq 0 (by omega)
          have d1 := Hc.out (k - 1) q hq 1 (by omega)
          simp only [Imp.cell, Nat.add_zero] at d0 d1
          have hwr : IntKind.i64.wrap ((k : Int) - 1) = (k : Int) - 1 := by rw [IntKind.wrap_i64]; omega
          have htn : ((k : Int) - 1).toNat = k - 1 := by omega
          have hge : (0 : Int) ≤ (k : Int) - 1 := by omega
          have hlt2 : (k : Int) - 1 < (n : Int) := by omega
          have hge' : (1 : Int) ≤ (k : Int) := by omega
          have HRt : Eqn (impsF l) (if notAft q p then false else impsGo (l.drop (k + 1)) (some p)) := by
            rw [Eqn, HR'.out, if_neg hbad, hpq]; simp only [prevI, decide_eq_true_eq]
          have heq : (p.area == q.area) = true ∨ (p.area == q.area) = false := by cases (p.area == q.area) <;> simp
          have heq2 : Hid ((p.area == q.area) = true ↔ p.area = q.area) := beq_iff_eq
          clear hbad hb2 HR' hk0 hq hpq HP
          rcases heq with heq | heq
          all_goals
            by_cases hle : notAft q p
            · have HRf : Eqn (impsF l) false := by rw [Eqn, HRt.out, if_pos hle]
              unfold notAft at hle
              clear HRt
              first
                | (have hz : p.area = q.area := heq2.out.1 heq
                   have hz1 : ¬ p.area < q.area := by omega
                   have hz2 : p.block ≤ q.block := by omega
                   clear hz hle)
                | (have hz : ¬ p.area = q.area := fun h => by simp [heq2.out.2 h] at heq
                   have hz1 : p.area < q.area := by omega
                   clear hz hle)
              go_wp2_with fail
              refine Lx.region (C := fun _ => True) (hs := []) (by kernel_rfl) (by kernel_rfl) trivial ?_
              repeat' (first
                | (refine Lx.lex_no (Lx.n1 rfl rfl rfl (by with_reducible rfl)) (fun K hK => ?_); go_simp; refine hK _ ?_; clear hK K)
                | (refine Lx.lex_no (Lx.n0 rfl rfl rfl (by with_reducible rfl)) (fun K hK => ?_); go_simp; refine hK _ ?_; clear hK K)
                | (refine Lx.lex_no (Lx.n2 rfl rfl rfl) (fun K hK => ?_); go_simp; refine hK _ ?_; clear hK K)
                | (refine Lx.lex_pure (v := ?_) rfl (by first | exact Lx.w0 rfl | exact Lx.w1 rfl rfl rfl (by with_reducible rfl)) ?_ (fun K hK => ?_); rotate_left 1; (intro w' hCw; (try dsimp only at hCw); go_simp; done); go_simp; refine hK _ ?_; clear hK K)
                | (refine Lx.lex_pure (v := ?_) rfl (by first | exact Lx.w0 rfl | exact Lx.w1 rfl rfl rfl (by with_reducible rfl)) ?_ (fun K hK => ?_); rotate_left 1; (intro w' hCw; (try dsimp only at hCw); go_simp; with_reducible rfl); go_simp; refine hK _ ?_; clear hK K)
                | (refine Lx.lex_read (v := ?_) rfl (by first | exact Lx.w0 rfl | exact Lx.w1 rfl rfl rfl (by with_reducible rfl)) ?_ (fun K hK => ?_); rotate_left 1; (go_simp; done); go_simp; refine hK _ ?_; clear hK K)
                | (refine Lx.lex_read (v := ?_) rfl (by first | exact Lx.w0 rfl | exact Lx.w1 rfl rfl rfl (by with_reducible rfl)) ?_ (fun K hK => ?_); rotate_left 1; (go_simp; with_reducible rfl); go_simp; refine hK _ ?_; clear hK K)
                | (refine Lx.lex_eff rfl (by first | exact Lx.w0 rfl | exact Lx.w1 rfl rfl rfl (by with_reducible rfl)) (fun K hK => ?_); go_simp; (first | fail | skip); refine hK _ _ (trivial) ?_; clear hK K)
                | (refine Lx.lex_cases rfl rfl rfl (fun hgd K hK => ?_) (fun hgd K hK => ?_) <;> (try simp only [decide_eq_true_eq, decide_eq_false_iff_not] at hgd) <;> (first | (exfalso; omega) | (go_simp; refine hK _ ?_; clear hK K))))
              all_goals (refine Lx.lex_nil ?_)
              all_goals clear hwr htn
              all_goals go_wp2_with fail
              all_goals
                go_ret
                exact ⟨ret_bool (by rw [HRf.out]), (HWW.out.alloc hws _).drew⟩
            · have HRf : Eqn (impsF l) (impsGo (l.drop (k + 1)) (some p)) := by rw [Eqn, HRt.out, if_neg hle]
              unfold notAft at hle
              clear HRt
              first
                | (have hz : p.area = q.area := heq2.out.1 heq
                   have hz1 : ¬ p.area < q.area := by omega
                   have hz2 : ¬ p.block ≤ q.block := by omega
                   clear hz hle)
                | (have hz : ¬ p.area = q.area := fun h => by simp [heq2.out.2 h] at heq
                   have hz1 : ¬ p.area < q.area := by omega
                   clear hz hle)
              go_wp2_with fail
              refine Lx.region (C := fun _ => True) (hs := []) (by kernel_rfl) (by kernel_rfl) trivial ?_
              repeat' (first
                | (refine Lx.lex_no (Lx.n1 rfl rfl rfl (by with_reducible rfl)) (fun K hK => ?_); go_simp; refine hK _ ?_; clear hK K)
                | (refine Lx.lex_no (Lx.n0 rfl rfl rfl (by with_reducible rfl)) (fun K hK => ?_); go_simp; refine hK _ ?_; clear hK K)
                | (refine Lx.lex_no (Lx.n2 rfl rfl rfl) (fun K hK => ?_); go_simp; refine hK _ ?_; clear hK K)
                | (refine Lx.lex_pure (v := ?_) rfl (by first | exact Lx.w0 rfl | exact Lx.w1 rfl rfl rfl (by with_reducible rfl)) ?_ (fun K hK => ?_); rotate_left 1; (intro w' hCw; (try dsimp only at hCw); go_simp; done); go_simp; refine hK _ ?_; clear hK K)
                | (refine Lx.lex_pure (v := ?_) rfl (by first | exact Lx.w0 rfl | exact Lx.w1 rfl rfl rfl (by with_reducible rfl)) ?_ (fun K hK => ?_); rotate_left 1; (intro w' hCw; (try dsimp only at hCw); go_simp; with_reducible rfl); go_simp; refine hK _ ?_; clear hK K)
                | (refine Lx.lex_read (v := ?_) rfl (by first | exact Lx.w0 rfl | exact Lx.w1 rfl rfl rfl (by with_reducible rfl)) ?_ (fun K hK => ?_); rotate_left 1; (go_simp; done); go_simp; refine hK _ ?_; clear hK K)
                | (refine Lx.lex_read (v := ?_) rfl (by first | exact Lx.w0 rfl | exact Lx.w1 rfl rfl rfl (by with_reducible rfl)) ?_ (fun K hK => ?_); rotate_left 1; (go_simp; with_reducible rfl); go_simp; refine hK _ ?_; clear hK K)
                | (refine Lx.lex_eff rfl (by first | exact Lx.w0 rfl | exact Lx.w1 rfl rfl rfl (by with_reducible rfl)) (fun K hK => ?_); go_simp; (first | fail | skip); refine hK _ _ (trivial) ?_; clear hK K)
                | (refine Lx.lex_cases rfl rfl rfl (fun hgd K hK => ?_) (fun hgd K hK => ?_) <;> (try simp only [decide_eq_true_eq, decide_eq_false_iff_not] at hgd) <;> (first | (exfalso; omega) | (go_simp; refine hK _ ?_; clear hK K))))
              all_goals (refine Lx.lex_nil ?_)
              all_goals clear hwr htn
              all_goals go_wp2_with fail
              go_roundw
              case rel => exact ⟨k + 1, _, by omega, by go_num, HPl, HRf, (HWW.out.alloc hws _).drew⟩
              case measure => simp [intOf]; omega
    · have HR2 : Eqn (impsF l) true := by rw [Eqn, HR.out, drop_end (by rw [Hlen.out]; omega)]; rfl
      clear HR HW
      go_wp2_with fail
      go_ret
      exact ⟨ret_bool (by rw [HR2.out]), HWW.out⟩

/-- the per cent of a block: the first one -/
def pctF (area block : Int) : List Imp → Int
  | [] => 0
  | i :: r => if i.area = area ∧ i.block = block then i.pct else pctF area block r

set_option maxHeartbeats 2000000 in
theorem percent_any (A : Option Addr) (n c : Nat) (area block : Int) (l : List Imp) (w : World) (D : Nat) (hn : n ≤ 140) (hl : RowS 3 Imp.cell w D A n l) :
    Calls Tryd.prog 39 #[.slice A n c, .int .i64 area, .int .i64 block] w fun e w' => e = .returned (.int .i64 (pctF area block l)) ∧ w = w' := by
  have Hl := Lib.hid hl
  have Hlen := Eqn.mk hl.1
  clear hl
  go_enter Tryd.func39, Tryd.ntmps39
  go_wp2_with fail
  go_loop [7] (fun i => ∃ k : Nat, k ≤ n ∧ i = .int .i64 k ∧ Eqn (pctF area block l) (pctF area block (l.drop k))) (fun i => n - (intOf i).toNat)
  case atStart => exact ⟨0, Nat.zero_le _, rfl, rfl⟩
  case round =>
    obtain ⟨k, hk, rfl, HR⟩ := hrel
    by_cases hlt : k < n
    · obtain ⟨p, hp, hpd⟩ := drop_at (xs := l) (k := k) (by rw [Hlen.out]; exact hlt)
      obtain ⟨b, off, rfl, hbl, hc⟩ := Hl.out.2 (by omega)
      have c0 := hc k p hp 0 (by omega)
      have c1 := hc k p hp 1 (by omega)
      have c2 := hc k p hp 2 (by omega)
      simp only [Imp.cell, Nat.add_zero] at c0 c1 c2
      have HR' : Eqn (pctF area block l) (if p.area = area ∧ p.block = block then p.pct else pctF area block (l.drop (k + 1))) := by
        have := HR.out; rw [hpd, pctF] at this; exact this
      clear hc hp hpd HR
      by_cases e1 : p.area = area
      · have t1 : (p.area == area) = true := by simpa using e1
        by_cases e2 : p.block = block
        · have t2 : (p.block == block) = true := by simpa using e2
          have HR2 : Eqn (pctF area block l) p.pct := by rw [Eqn, HR'.out, if_pos ⟨e1, e2⟩]
          clear HR' e1 e2
          go_wp2_with fail
          go_ret
          exact ⟨by rw [HR2.out]; rfl, rfl⟩
        · have t2 : (p.block == block) = false := by simpa using e2
          have HR2 : Eqn (pctF area block l) (pctF area block (l.drop (k + 1))) := by rw [Eqn, HR'.out, if_neg (fun h => e2 h.2)]
          clear HR' e1 e2
          go_wp2_with fail
          go_round
          case rel => exact ⟨k + 1, by omega, by go_num, HR2⟩
          case measure => simp [intOf]; omega
      · have t1 : (p.area == area) = false := by simpa using e1
        have HR2 : Eqn (pctF area block l) (pctF area block (l.drop (k + 1))) := by rw [Eqn, HR'.out, if_neg (fun h => e1 h.1)]
        clear HR' e1
        go_wp2_with fail
        go_round
        case rel => exact ⟨k + 1, by omega, by go_num, HR2⟩
        case measure => simp [intOf]; omega
    · have HR2 : Eqn (pctF area block l) 0 := by rw [Eqn, HR.out, drop_end (by rw [Hlen.out]; omega)]; rfl
      clear HR
      go_wp2_with fail
      go_ret
      exact ⟨by rw [HR2.out]; rfl, rfl⟩
end Go.Proofs.YtpgomblalmnonaaDoor
