/- Contracts of the reference's Good, Required, Keep, and of After of both. -/
import Derived.Test.YtjbhflhlicefbaaActA
namespace Go.Proofs.Ytjbhflhlicefbaa
open Go.RowKit

def intE (n : Int) : Value := .int .i64 n

theorem rgood_yes (el wv pc : Int) (w : World) (h : good el wv pc) :
    Calls Try.prog 27 #[.int .i64 el, .int .i64 wv, .int .i64 pc] w fun e w' => e = .returned (.bool true) ∧ w = w' := by
  unfold good at h
  obtain ⟨h1, h2, h3, h4, h5, h6⟩ := h
  go_enter Try.func27, Try.ntmps27
  go_wp2
  go_ret
  exact ⟨rfl, rfl⟩
theorem rgood_no (el wv pc : Int) (w : World) (h : ¬ good el wv pc) :
    Calls Try.prog 27 #[.int .i64 el, .int .i64 wv, .int .i64 pc] w fun e w' => e = .returned (.bool false) ∧ w = w' := by
  unfold good at h
  go_enter Try.func27, Try.ntmps27
  go_wp2
  all_goals
    go_ret
    exact ⟨ret_bool (by first | rfl | (simp; omega)), rfl⟩

theorem rrequired_any (el pc : Int) (w : World) :
    Calls Try.prog 10 #[.int .i64 el, .int .i64 pc] w fun e w' => e = .returned (v2 (reqF el pc)) ∧ w = w' := by
  by_cases hg : good el 0 pc
  · have hq : Eqn (reqF el pc) (reqN el pc, 0) := by unfold reqF Eqn; rw [if_pos hg]
    have HG := Lib.hid hg
    unfold good at hg
    obtain ⟨h1, h2, h3, h4, h5, h6⟩ := hg
    obtain ⟨m1, m2⟩ := mul_bd el pc h1 h2 h5 h6
    go_enter Try.func10, Try.ntmps10
    go_wp2_with (go_at_call 27; refine (rgood_yes _ _ _ _ HG.out).mono ?_; rintro e w' ⟨rfl, rfl⟩)
    go_ret2
    exact ⟨by rw [hq.out]; rfl, rfl⟩
  · have hq : Eqn (reqF el pc) (0, 2) := by unfold reqF Eqn; rw [if_neg hg]
    have HG := Lib.hid hg
    clear hg
    go_enter Try.func10, Try.ntmps10
    go_wp2_with (go_at_call 27; refine (rgood_no _ _ _ _ HG.out).mono ?_; rintro e w' ⟨rfl, rfl⟩)
    go_ret2
    exact ⟨by rw [hq.out]; rfl, rfl⟩

theorem rkeep_any (el wv ac pc : Int) (w : World) :
    Calls Try.prog 13 #[.int .i64 el, .int .i64 wv, .int .i64 ac, .int .i64 pc] w fun e w' => e = .returned (v3 (keepF el wv ac pc)) ∧ w = w' := by
  by_cases h0 : good el wv pc
  · have HG := Lib.hid h0
    have hq : Eqn (v2 (reqF el pc)) (.tuple #[.int .i64 (reqN el pc), .int .i64 0]) := by unfold reqF Eqn; rw [if_pos (by unfold good at *; omega)]; rfl
    by_cases h2 : 0 ≤ ac ∧ ac ≤ el
    · have hg : Eqn (keepF el wv ac pc) (if reqN el pc ≤ ac then (el, wv, 0) else if 0 < wv then (el, wv - 1, 0) else (ac * 100 / pc, 0, 0)) := by
        unfold keepF Eqn; rw [if_pos ⟨h0, h2⟩]
      unfold good at h0
      obtain ⟨h3, h4, h5, h6, h7, h8⟩ := h0
      obtain ⟨h11, h12⟩ := h2
      by_cases c1 : reqN el pc ≤ ac
      · have hg' : Eqn (keepF el wv ac pc) (el, wv, 0) := by rw [Eqn, hg.out, if_pos c1]
        clear hg
        go_enter Try.func13, Try.ntmps13
        go_wp2_with (first | (go_at_call 27; refine (rgood_yes _ _ _ _ HG.out).mono ?_; rintro e w' ⟨rfl, rfl⟩) | (go_at_call 10; refine (rrequired_any _ _ _).mono ?_; rw [hq.out]; rintro e w' ⟨rfl, rfl⟩))
        go_ret3
        exact ⟨by rw [hg'.out]; rfl, rfl⟩
      · by_cases c2 : 0 < wv
        · have hg' : Eqn (keepF el wv ac pc) (el, wv - 1, 0) := by rw [Eqn, hg.out, if_neg c1, if_pos c2]
          clear hg
          go_enter Try.func13, Try.ntmps13
          go_wp2_with (first | (go_at_call 27; refine (rgood_yes _ _ _ _ HG.out).mono ?_; rintro e w' ⟨rfl, rfl⟩) | (go_at_call 10; refine (rrequired_any _ _ _).mono ?_; rw [hq.out]; rintro e w' ⟨rfl, rfl⟩))
          go_ret3
          exact ⟨by rw [hg'.out]; rfl, rfl⟩
        · have hg' : Eqn (keepF el wv ac pc) (ac * 100 / pc, 0, 0) := by rw [Eqn, hg.out, if_neg c1, if_neg c2]
          clear hg
          have hz : (pc == 0) = false := by simp; omega
          have hq1 : (0 : Int) ≤ ac * 100 / pc := Int.ediv_nonneg (by omega) (by omega)
          have hq2 : ac * 100 / pc ≤ ac * 100 := Int.ediv_le_self _ (by omega)
          go_enter Try.func13, Try.ntmps13
          go_wp2_with (first | (go_at_call 27; refine (rgood_yes _ _ _ _ HG.out).mono ?_; rintro e w' ⟨rfl, rfl⟩) | (go_at_call 10; refine (rrequired_any _ _ _).mono ?_; rw [hq.out]; rintro e w' ⟨rfl, rfl⟩))
          go_ret3
          exact ⟨by rw [hg'.out]; rfl, rfl⟩
    · have hg' : Eqn (keepF el wv ac pc) (0, 0, 2) := by unfold keepF Eqn; rw [if_neg (by omega)]
      clear h0
      go_enter Try.func13, Try.ntmps13
      go_wp2_with (first | (go_at_call 27; refine (rgood_yes _ _ _ _ HG.out).mono ?_; rintro e w' ⟨rfl, rfl⟩) | (go_at_call 10; refine (rrequired_any _ _ _).mono ?_; rw [hq.out]; rintro e w' ⟨rfl, rfl⟩))
      all_goals
        go_ret3
        exact ⟨by rw [hg'.out]; rfl, rfl⟩
  · have HG := Lib.hid h0
    have hg' : Eqn (keepF el wv ac pc) (0, 0, 2) := by unfold keepF Eqn; rw [if_neg (by intro h; exact h0 h.1)]
    clear h0
    go_enter Try.func13, Try.ntmps13
    go_wp2_with (go_at_call 27; refine (rgood_no _ _ _ _ HG.out).mono ?_; rintro e w' ⟨rfl, rfl⟩)
    go_ret3
    exact ⟨by rw [hg'.out]; rfl, rfl⟩

/-- the rounds -/
def afterGo (pc : Int) : List Int → Int → Int → Int × Int × Int
  | [], el, wv => (el, wv, 0)
  | n :: r, el, wv => if el < n then (0, 0, 3) else afterGo pc r (keepF el wv n pc).1 (keepF el wv n pc).2.1
def afterF (el wv pc : Int) (acts : List Int) : Int × Int × Int :=
  if good el wv pc then (if acts.any (fun n => decide (n < 0)) then (0, 0, 2) else afterGo pc acts el wv) else (0, 0, 2)

/-- after a round all is as it should be -/
theorem keepF_good {el wv ac pc : Int} (h : good el wv pc) (h0 : 0 ≤ ac) (h1 : ac ≤ el) : (keepF el wv ac pc).2.2 = 0 ∧ good (keepF el wv ac pc).1 (keepF el wv ac pc).2.1 pc := by
  unfold keepF
  rw [if_pos ⟨h, h0, h1⟩]
  unfold good reqN at *
  split
  · exact ⟨rfl, h⟩
  · rename_i hr
    split
    · exact ⟨rfl, by dsimp only; omega⟩
    · refine ⟨rfl, ?_⟩
      have hq1 : (0 : Int) ≤ ac * 100 / pc := Int.ediv_nonneg (by omega) (by omega)
      have hq2 : ac * 100 / pc ≤ el := by
        have h5 : ac * 100 < el * pc + 100 := by omega
        have h6 : ac * 100 / pc < el + 1 := by
          apply Int.ediv_lt_of_lt_mul (by omega)
          have : (el + 1) * pc = el * pc + pc := by rw [Int.add_mul, Int.one_mul]
          have h7 : el * pc + 99 < 100 * (ac + 1) + 0 ∨ True := Or.inr trivial
          omega
        omega
      dsimp only
      omega
end Go.Proofs.Ytjbhflhlicefbaa
