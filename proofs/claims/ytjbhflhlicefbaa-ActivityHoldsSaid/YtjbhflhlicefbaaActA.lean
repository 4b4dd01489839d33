/- Contracts of package activity and of its reference: within, Good, Required, Keep. -/
import Derived.Test.YtjbhflhlicefbaaProg
import Derived.Test.YtjbhflhlicefbaaBase
namespace Go.Proofs.Ytjbhflhlicefbaa
open Go.RowKit

def good (el wv pc : Int) : Prop := 0 ≤ el ∧ el ≤ 76800000 ∧ 0 ≤ wv ∧ wv ≤ 3 ∧ 1 ≤ pc ∧ pc ≤ 100
instance (el wv pc : Int) : Decidable (good el wv pc) := by unfold good; infer_instance
def reqN (el pc : Int) : Int := (el * pc + 99) / 100
def reqF (el pc : Int) : Int × Int := if good el 0 pc then (reqN el pc, 0) else (0, 2)
def keepF (el wv ac pc : Int) : Int × Int × Int :=
  if good el wv pc ∧ 0 ≤ ac ∧ ac ≤ el then
    if reqN el pc ≤ ac then (el, wv, 0) else if 0 < wv then (el, wv - 1, 0) else (ac * 100 / pc, 0, 0)
  else (0, 0, 2)
def v2 (x : Int × Int) : Value := .tuple #[.int .i64 x.1, .int .i64 x.2]
def v3 (x : Int × Int × Int) : Value := .tuple #[.int .i64 x.1, .int .i64 x.2.1, .int .i64 x.2.2]

def winB (n lo hi : Int) : Bool := decide (lo ≤ n) && decide (n ≤ hi)
theorem winB_true {n lo hi : Int} (h1 : lo ≤ n) (h2 : n ≤ hi) : winB n lo hi = true := by simp [winB, h1, h2]
theorem winB_false {n lo hi : Int} (h : ¬ (lo ≤ n ∧ n ≤ hi)) : winB n lo hi = false := by
  unfold winB; rw [Bool.and_eq_false_iff]; simp only [decide_eq_false_iff_not]; omega

theorem awithin_any (n lo hi : Int) (w : World) :
    Calls Try.prog 26 #[.int .i64 n, .int .i64 lo, .int .i64 hi] w fun e w' => e = .returned (.bool (winB n lo hi)) ∧ w = w' := by
  by_cases h1 : lo ≤ n
  · go_enter Try.func26, Try.ntmps26
    go_wp2
    go_ret
    exact ⟨ret_bool (by unfold winB; simp [h1]), rfl⟩
  · have H2 := Eqn.mk (winB_false (n := n) (lo := lo) (hi := hi) (by omega))
    go_enter Try.func26, Try.ntmps26
    go_wp2
    go_ret
    exact ⟨ret_bool (by rw [H2.out]), rfl⟩

theorem mul_bd (el pc : Int) (h0 : 0 ≤ el) (h1 : el ≤ 76800000) (h2 : 1 ≤ pc) (h3 : pc ≤ 100) : 0 ≤ el * pc ∧ el * pc ≤ 7680000000 := by
  refine ⟨Int.mul_nonneg h0 (by omega), ?_⟩
  have h4 : el * pc ≤ 76800000 * pc := Int.mul_le_mul_of_nonneg_right h1 (by omega)
  omega

theorem required_any (el pc : Int) (w : World) :
    Calls Try.prog 9 #[.int .i64 el, .int .i64 pc] w fun e w' => e = .returned (v2 (reqF el pc)) ∧ w = w' := by
  by_cases h1 : 0 ≤ el ∧ el ≤ 76800000
  · have w1 := winB_true h1.1 h1.2
    by_cases h2 : 1 ≤ pc ∧ pc ≤ 100
    · have w2 := winB_true h2.1 h2.2
      have hg : Eqn (reqF el pc) (reqN el pc, 0) := by unfold reqF Eqn; rw [if_pos (by unfold good; omega)]
      obtain ⟨h3, h4⟩ := mul_bd el pc h1.1 h1.2 h2.1 h2.2
      obtain ⟨h5, h6⟩ := h1
      obtain ⟨h7, h8⟩ := h2
      go_enter Try.func9, Try.ntmps9
      go_wp2_with (go_at_call 26; refine (awithin_any _ _ _ _).mono ?_; rintro e w' ⟨rfl, rfl⟩)
      go_ret2
      exact ⟨by rw [hg.out]; rfl, rfl⟩
    · have w2 := winB_false h2
      have hg : Eqn (reqF el pc) (0, 2) := by unfold reqF Eqn; rw [if_neg (by unfold good; omega)]
      clear h1 h2
      go_enter Try.func9, Try.ntmps9
      go_wp2_with (go_at_call 26; refine (awithin_any _ _ _ _).mono ?_; rintro e w' ⟨rfl, rfl⟩)
      go_ret2
      exact ⟨by rw [hg.out]; rfl, rfl⟩
  · have w1 := winB_false h1
    have hg : Eqn (reqF el pc) (0, 2) := by unfold reqF Eqn; rw [if_neg (by unfold good; omega)]
    clear h1
    go_enter Try.func9, Try.ntmps9
    go_wp2_with (go_at_call 26; refine (awithin_any _ _ _ _).mono ?_; rintro e w' ⟨rfl, rfl⟩)
    go_ret2
    exact ⟨by rw [hg.out]; rfl, rfl⟩

theorem keep_any (el wv ac pc : Int) (w : World) :
    Calls Try.prog 12 #[.int .i64 el, .int .i64 wv, .int .i64 ac, .int .i64 pc] w fun e w' => e = .returned (v3 (keepF el wv ac pc)) ∧ w = w' := by
  by_cases h0 : good el 0 pc
  · have hq : Eqn (v2 (reqF el pc)) (.tuple #[.int .i64 (reqN el pc), .int .i64 0]) := by unfold reqF Eqn; rw [if_pos h0]; rfl
    unfold good at h0
    by_cases h1 : 0 ≤ wv ∧ wv ≤ 3
    · have w1 := winB_true h1.1 h1.2
      by_cases h2 : 0 ≤ ac ∧ ac ≤ el
      · have w2 := winB_true h2.1 h2.2
        have hg : Eqn (keepF el wv ac pc) (if reqN el pc ≤ ac then (el, wv, 0) else if 0 < wv then (el, wv - 1, 0) else (ac * 100 / pc, 0, 0)) := by
          unfold keepF Eqn; rw [if_pos (by unfold good; omega)]
        obtain ⟨h3, h4, h5, h6, h7, h8⟩ := h0
        obtain ⟨h9, h10⟩ := h1
        obtain ⟨h11, h12⟩ := h2
        by_cases c1 : reqN el pc ≤ ac
        · have hg' : Eqn (keepF el wv ac pc) (el, wv, 0) := by rw [Eqn, hg.out, if_pos c1]
          clear hg
          go_enter Try.func12, Try.ntmps12
          go_wp2_with (first | (go_at_call 26; refine (awithin_any _ _ _ _).mono ?_; rintro e w' ⟨rfl, rfl⟩) | (go_at_call 9; refine (required_any _ _ _).mono ?_; rw [hq.out]; rintro e w' ⟨rfl, rfl⟩))
          go_ret3
          exact ⟨by rw [hg'.out]; rfl, rfl⟩
        · by_cases c2 : 0 < wv
          · have hg' : Eqn (keepF el wv ac pc) (el, wv - 1, 0) := by rw [Eqn, hg.out, if_neg c1, if_pos c2]
            clear hg
            go_enter Try.func12, Try.ntmps12
            go_wp2_with (first | (go_at_call 26; refine (awithin_any _ _ _ _).mono ?_; rintro e w' ⟨rfl, rfl⟩) | (go_at_call 9; refine (required_any _ _ _).mono ?_; rw [hq.out]; rintro e w' ⟨rfl, rfl⟩))
            go_ret3
            exact ⟨by rw [hg'.out]; rfl, rfl⟩
          · have hg' : Eqn (keepF el wv ac pc) (ac * 100 / pc, 0, 0) := by rw [Eqn, hg.out, if_neg c1, if_neg c2]
            clear hg
            have hz : (pc == 0) = false := by simp; omega
            have hq1 : (0 : Int) ≤ ac * 100 / pc := Int.ediv_nonneg (by omega) (by omega)
            have hq2 : ac * 100 / pc ≤ ac * 100 := Int.ediv_le_self _ (by omega)
            go_enter Try.func12, Try.ntmps12
            go_wp2_with (first | (go_at_call 26; refine (awithin_any _ _ _ _).mono ?_; rintro e w' ⟨rfl, rfl⟩) | (go_at_call 9; refine (required_any _ _ _).mono ?_; rw [hq.out]; rintro e w' ⟨rfl, rfl⟩))
            go_ret3
            exact ⟨by rw [hg'.out]; rfl, rfl⟩
      · have w2 := winB_false h2
        have hg' : Eqn (keepF el wv ac pc) (0, 0, 2) := by unfold keepF Eqn; rw [if_neg (by unfold good; omega)]
        clear h0 h1 h2
        go_enter Try.func12, Try.ntmps12
        go_wp2_with (first | (go_at_call 26; refine (awithin_any _ _ _ _).mono ?_; rintro e w' ⟨rfl, rfl⟩) | (go_at_call 9; refine (required_any _ _ _).mono ?_; rw [hq.out]; rintro e w' ⟨rfl, rfl⟩))
        go_ret3
        exact ⟨by rw [hg'.out]; rfl, rfl⟩
    · have w1 := winB_false h1
      have hg' : Eqn (keepF el wv ac pc) (0, 0, 2) := by unfold keepF Eqn; rw [if_neg (by unfold good; omega)]
      clear h0 h1
      go_enter Try.func12, Try.ntmps12
      go_wp2_with (first | (go_at_call 26; refine (awithin_any _ _ _ _).mono ?_; rintro e w' ⟨rfl, rfl⟩) | (go_at_call 9; refine (required_any _ _ _).mono ?_; rw [hq.out]; rintro e w' ⟨rfl, rfl⟩))
      go_ret3
      exact ⟨by rw [hg'.out]; rfl, rfl⟩
  · have hq : Eqn (v2 (reqF el pc)) (.tuple #[.int .i64 0, .int .i64 2]) := by unfold reqF Eqn; rw [if_neg h0]; rfl
    have hg' : Eqn (keepF el wv ac pc) (0, 0, 2) := by unfold keepF Eqn; rw [if_neg (by unfold good at *; omega)]
    clear h0
    go_enter Try.func12, Try.ntmps12
    go_wp2_with (first | (go_at_call 26; refine (awithin_any _ _ _ _).mono ?_; rintro e w' ⟨rfl, rfl⟩) | (go_at_call 9; refine (required_any _ _ _).mono ?_; rw [hq.out]; rintro e w' ⟨rfl, rfl⟩))
    go_ret3
    exact ⟨by rw [hg'.out]; rfl, rfl⟩
end Go.Proofs.Ytjbhflhlicefbaa
