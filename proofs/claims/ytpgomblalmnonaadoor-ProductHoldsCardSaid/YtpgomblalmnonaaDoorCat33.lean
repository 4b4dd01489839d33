/- Contracts of product.Category and Units, and of the reference's. -/
import Derived.Test.YtpgomblalmnonaaDoorOwn
import Derived.IntWalk
namespace Go.Proofs.YtpgomblalmnonaaDoor
open Go.RowKit

def catF (p : Int) : Int × Int := if p < 0 ∨ 100 < p then (0, 2) else if p ≤ 15 then (1, 0) else if p ≤ 50 then (2, 0) else (0, 0)
def uniF (n : Int) : Int × Int := if n < 0 ∨ 4096000000 < n then (0, 2) else (1 + n / 50000, 0)

theorem catF_bd (p : Int) : 0 ≤ (catF p).1 ∧ (catF p).1 ≤ 2 := by
  unfold catF; split; simp; split; simp; split <;> simp

theorem category_any (p : Int) (w : World) : Calls Tryd.prog 10 #[.int .i64 p] w fun e w' => e = .returned (v2 (catF p)) ∧ w = w' := by
  by_cases h : p < 0 ∨ 100 < p
  · have hF : Eqn (catF p) (0, 2) := by unfold catF Eqn; rw [if_pos h]
    have hw : withinB p 0 100 = false := by unfold withinB; rw [Bool.and_eq_false_iff]; simp only [decide_eq_false_iff_not]; omega
    clear h
    go_enter Tryd.func10, Tryd.ntmps10
    go_wp2_with (go_at_call 30; refine (pwithin_any _ _ _ _).mono ?_; rintro e w' ⟨rfl, rfl⟩)
    go_ret2
    exact ⟨by rw [hF.out]; rfl, rfl⟩
  · have hw : withinB p 0 100 = true := withinB_true (by omega) (by omega)
    have hF : Eqn (catF p) (if p ≤ 15 then (1, 0) else if p ≤ 50 then (2, 0) else (0, 0)) := by unfold catF Eqn; rw [if_neg h]
    clear h
    by_cases h1 : p ≤ 15
    · go_enter Tryd.func10, Tryd.ntmps10
      go_wp2_with (go_at_call 30; refine (pwithin_any _ _ _ _).mono ?_; rintro e w' ⟨rfl, rfl⟩)
      go_ret2
      exact ⟨by rw [hF.out, if_pos h1]; rfl, rfl⟩
    · by_cases h2 : p ≤ 50
      · go_enter Tryd.func10, Tryd.ntmps10
        go_wp2_with (go_at_call 30; refine (pwithin_any _ _ _ _).mono ?_; rintro e w' ⟨rfl, rfl⟩)
        go_ret2
        exact ⟨by rw [hF.out, if_neg (by omega), if_pos h2]; rfl, rfl⟩
      · go_enter Tryd.func10, Tryd.ntmps10
        go_wp2_with (go_at_call 30; refine (pwithin_any _ _ _ _).mono ?_; rintro e w' ⟨rfl, rfl⟩)
        go_ret2
        exact ⟨by rw [hF.out, if_neg (by omega), if_neg (by omega)]; rfl, rfl⟩

theorem rcategory_any (p : Int) (w : World) : Calls Tryd.prog 11 #[.int .i64 p] w fun e w' => e = .returned (v2 (catF p)) ∧ w = w' := by
  have hF : Eqn (catF p) (if p < 0 ∨ 100 < p then (0, 2) else if p ≤ 15 then (1, 0) else if p ≤ 50 then (2, 0) else (0, 0)) := rfl
  go_enter Tryd.func11, Tryd.ntmps11
  go_wp2
  all_goals
    go_ret2
    refine ⟨?_, rfl⟩
    rw [hF.out]
    first
      | (rw [if_pos (by omega)]; rfl)
      | (rw [if_neg (by omega), if_pos (by omega)]; rfl)
      | (rw [if_neg (by omega), if_neg (by omega), if_pos (by omega)]; rfl)
      | (rw [if_neg (by omega), if_neg (by omega), if_neg (by omega)]; rfl)

theorem units33_any (n : Int) (w : World) : Calls Tryd.prog 12 #[.int .i64 n] w fun e w' => e = .returned (v2 (uniF n)) ∧ w = w' := by
  by_cases h : n < 0 ∨ 4096000000 < n
  · have hF : Eqn (uniF n) (0, 2) := by unfold uniF Eqn; rw [if_pos h]
    have hw : withinB n 0 4096000000 = false := by unfold withinB; rw [Bool.and_eq_false_iff]; simp only [decide_eq_false_iff_not]; omega
    clear h
    go_enter Tryd.func12, Tryd.ntmps12
    go_wp2_with (go_at_call 30; refine (pwithin_any _ _ _ _).mono ?_; rintro e w' ⟨rfl, rfl⟩)
    go_ret2
    exact ⟨by rw [hF.out]; rfl, rfl⟩
  · have hw : withinB n 0 4096000000 = true := withinB_true (by omega) (by omega)
    have hF : Eqn (uniF n) (1 + n / 50000, 0) := by unfold uniF Eqn; rw [if_neg h]
    obtain ⟨h1, h2⟩ : 0 ≤ n ∧ n ≤ 4096000000 := by omega
    clear h
    go_enter Tryd.func12, Tryd.ntmps12
    go_wp2_with (go_at_call 30; refine (pwithin_any _ _ _ _).mono ?_; rintro e w' ⟨rfl, rfl⟩)
    go_ret2
    exact ⟨by rw [hF.out]; rfl, rfl⟩

theorem runits33_any (n : Int) (w : World) : Calls Tryd.prog 13 #[.int .i64 n] w fun e w' => e = .returned (v2 (uniF n)) ∧ w = w' := by
  by_cases h : n < 0 ∨ 4096000000 < n
  · have hF : Eqn (uniF n) (0, 2) := by unfold uniF Eqn; rw [if_pos h]
    rcases h with h | h
    all_goals
      go_enter Tryd.func13, Tryd.ntmps13
      go_wp2
      all_goals
        go_ret2
        exact ⟨by rw [hF.out]; rfl, rfl⟩
  · have hF : Eqn (uniF n) (1 + n / 50000, 0) := by unfold uniF Eqn; rw [if_neg h]
    obtain ⟨h1, h2⟩ : 0 ≤ n ∧ n ≤ 4096000000 := by omega
    have h3 : ¬ n < 0 := by omega
    have h4 : ¬ 4096000000 < n := by omega
    clear h
    go_enter Tryd.func13, Tryd.ntmps13
    go_wp2
    go_ret2
    exact ⟨by rw [hF.out]; rfl, rfl⟩
end Go.Proofs.YtpgomblalmnonaaDoor
