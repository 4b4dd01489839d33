/- Contracts of problem.ValidRules and what it calls. -/
import Derived.Test.YtpdhelhngdeoeaaTy17
import Derived.Test.YtpdhelhngdeoeaaLex
import Derived.IntWalk
namespace Go.Proofs.Ytpdhelhngdeoeaa
open Go.RowKit

theorem isNaN_any (x : Int) (w : World) : Calls Try.prog 70 #[.int .i64 x] w fun e w' => e = .returned (.bool false) ∧ w = w' := by
  have h : (x != x) = false := by simp
  go_enter Try.func70, Try.ntmps70
  go_wp2
  go_ret
  exact ⟨rfl, rfl⟩
theorem compare_any (x y : Int) (w : World) : Calls Try.prog 69 #[.int .i64 x, .int .i64 y] w fun e w' => e = .returned (.int .i64 (cmpF x y)) ∧ w = w' := by
  unfold cmpF
  by_cases h1 : x < y
  · rw [if_pos h1]
    go_enter Try.func69, Try.ntmps69
    go_wp2_with (go_at_call 70; refine (isNaN_any _ _).mono ?_; rintro e w' ⟨rfl, rfl⟩)
    go_ret
    exact ⟨rfl, rfl⟩
  · rw [if_neg h1]
    by_cases h2 : y < x
    · rw [if_pos h2]
      go_enter Try.func69, Try.ntmps69
      go_wp2_with (go_at_call 70; refine (isNaN_any _ _).mono ?_; rintro e w' ⟨rfl, rfl⟩)
      go_ret
      exact ⟨rfl, rfl⟩
    · rw [if_neg h2]
      go_enter Try.func69, Try.ntmps69
      go_wp2_with (go_at_call 70; refine (isNaN_any _ _).mono ?_; rintro e w' ⟨rfl, rfl⟩)
      go_ret
      exact ⟨rfl, rfl⟩

theorem orS_any (A : Option Addr) (n c : Nat) (w : World) (D : Nat) (l : List Int) (hn : n ≤ 100000) (hl : Row1 intV w D A n l) :
    Calls Try.prog 68 #[.slice A n c] w fun e w' => e = .returned (.int .i64 (orL5 l)) ∧ w = w' := by
  have Hl := Lib.hid hl
  have Hlen := Eqn.mk hl.1
  clear hl
  go_enter Try.func68, Try.ntmps68
  go_wp2
  go_loop [8] (fun i => ∃ k : Nat, k ≤ n ∧ i = .int .i64 k ∧ Eqn (orL5 l) (orL5 (l.drop k))) (fun i => n - (intOf i).toNat)
  case atStart => exact ⟨0, Nat.zero_le _, rfl, rfl⟩
  case round =>
    obtain ⟨k, hk, rfl, HR⟩ := hrel
    by_cases hlt : k < n
    · obtain ⟨p, hp, hpd⟩ := drop_at (xs := l) (k := k) (by rw [Hlen.out]; exact hlt)
      obtain ⟨b, off, rfl, hbl, hc⟩ := Hl.out.2 (by omega)
      have c0 := hc k p hp
      simp only [intV] at c0
      have HR' : Eqn (orL5 l) (if p ≠ 0 then p else orL5 (l.drop (k + 1))) := by
        have := HR.out; rw [hpd, orL5] at this; exact this
      have j0 : (k : Int) < (n : Int) := by omega
      clear hc hp hpd HR
      by_cases he : p = 0
      · have hd : (p != 0) = false := by simpa using he
        have HR2 : Eqn (orL5 l) (orL5 (l.drop (k + 1))) := by rw [Eqn, HR'.out, if_neg (by simpa using he)]
        clear he HR'
        go_wp2
        go_round
        case rel => exact ⟨k + 1, by omega, by go_num, HR2⟩
        case measure => simp [intOf]; omega
      · have hd : (p != 0) = true := by simpa using he
        have HR2 : Eqn (orL5 l) p := by rw [Eqn, HR'.out, if_pos he]
        clear he HR'
        go_wp2
        go_ret
        exact ⟨ret_int HR2.out.symm, rfl⟩
    · have HR2 : Eqn (orL5 l) 0 := by rw [Eqn, HR.out, drop_end (by rw [Hlen.out]; omega)]; rfl
      clear HR
      go_wp2
      go_ret
      exact ⟨ret_int HR2.out.symm, rfl⟩

def betwF (n lo hi : Int) : Bool := decide (lo ≤ n) && decide (n ≤ hi)
theorem betw_any (n lo hi : Int) (w : World) : Calls Try.prog 66 #[.int .i64 n, .int .i64 lo, .int .i64 hi] w fun e w' => e = .returned (.bool (betwF n lo hi)) ∧ w = w' := by
  unfold betwF
  by_cases h1 : lo ≤ n
  · go_enter Try.func66, Try.ntmps66
    go_wp2
    go_ret
    exact ⟨ret_bool (by first | (simp; omega) | simp [h1]), rfl⟩
  · go_enter Try.func66, Try.ntmps66
    go_wp2
    go_ret
    exact ⟨ret_bool (by first | (simp; omega) | simp [h1]), rfl⟩
theorem isSt_any (n : Int) (w : World) : Calls Try.prog 65 #[.int .i64 n] w fun e w' => e = .returned (.bool (stF n)) ∧ w = w' := by
  have HB := Lib.hid (betw_any n 0 511 w)
  have hs : betwF n 0 511 = stF n := rfl
  rw [hs] at HB
  generalize stF n = r at *
  clear hs
  go_enter Try.func65, Try.ntmps65
  go_wp2_with fail
  refine HB.out.mono ?_
  rintro e w' ⟨rfl, rfl⟩
  go_wp2_with fail
  go_ret
  exact ⟨rfl, rfl⟩
theorem isRg_any (lo hi : Int) (w : World) : Calls Try.prog 67 #[.int .i64 lo, .int .i64 hi] w fun e w' => e = .returned (.bool (spF lo hi)) ∧ w = w' := by
  unfold spF
  by_cases h1 : 2 ≤ lo
  · by_cases h2 : lo ≤ hi
    · go_enter Try.func67, Try.ntmps67
      go_wp2
      go_ret
      exact ⟨ret_bool (by first | (simp; omega) | simp [h1, h2]), rfl⟩
    · go_enter Try.func67, Try.ntmps67
      go_wp2
      go_ret
      exact ⟨ret_bool (by first | (simp; omega) | simp [h1, h2]), rfl⟩
  · go_enter Try.func67, Try.ntmps67
    go_wp2
    go_ret
    exact ⟨ret_bool (by first | (simp; omega) | simp [h1]), rfl⟩
set_option maxHeartbeats 1000000 in
theorem goodP_any (x : R5) (w : World) : Calls Try.prog 52 #[x.val] w (RetPost (.bool (goodP x)) w.heap.size w) := by
  obtain ⟨a, b, c, d, f⟩ := x
  have HB : Hid (Below w.heap.size w (w.alloc (.cells #[.int .i64 a, .int .i64 b, .int .i64 c, .int .i64 d, .int .i64 f] 69))) := Lib.hid ((Below.refl _ w).alloc (Nat.le_refl _) _)
  unfold R5.val goodP
  dsimp only
  have HC0 := Lib.hid (fun W => isSt_any a W)
  generalize stF a = t0 at *
  have HC1 := Lib.hid (fun W => isSt_any b W)
  generalize stF b = t1 at *
  have HC3 := Lib.hid (fun W => betw_any c (-1) 1 W)
  unfold betwF at HC3
  generalize (decide (-1 ≤ c) && decide (c ≤ 1)) = t3 at *
  have HC4 := Lib.hid (fun W => isRg_any d f W)
  generalize spF d f = t4 at *
  go_enter Try.func52, Try.ntmps52
  go_wp2_with fail
  refine (HC0.out _).mono ?_
  rintro e w1 ⟨rfl, rfl⟩
  cases t0 with
  | false =>
    clear HC0 HC1 HC3 HC4
    go_wp2_with fail
    go_ret
    exact ⟨ret_bool (by first | rfl | (simp; done) | (have := HCC.out; simp; intros; omega) | (simp [HCC.out]; done)), HB.out⟩
  | true =>
    go_wp2_with fail
    refine (HC1.out _).mono ?_
    rintro e w1 ⟨rfl, rfl⟩
    cases t1 with
    | false =>
      clear HC1 HC3 HC4
      go_wp2_with fail
      go_ret
      exact ⟨ret_bool (by first | rfl | (simp; done) | (have := HCC.out; simp; intros; omega) | (simp [HCC.out]; done)), HB.out⟩
    | true =>
      by_cases hc : a < b
      · have HCC := Lib.hid hc
        go_wp2_with fail
        refine (HC3.out _).mono ?_
        rintro e w1 ⟨rfl, rfl⟩
        cases t3 with
        | false =>
          clear HC3 HC4
          go_wp2_with fail
          go_ret
          exact ⟨ret_bool (by first | rfl | (simp; done) | (have := HCC.out; simp; intros; omega) | (simp [HCC.out]; done)), HB.out⟩
        | true =>
          go_wp2_with fail
          refine (HC4.out _).mono ?_
          rintro e w1 ⟨rfl, rfl⟩
          go_wp2_with fail
          go_ret
          exact ⟨ret_bool (by first | rfl | (simp; done) | (have := HCC.out; simp; intros; omega) | (simp [HCC.out]; done)), HB.out⟩
      · have HCC := Lib.hid hc
        go_wp2_with fail
        go_ret
        exact ⟨ret_bool (by first | rfl | (simp; done) | (have := HCC.out; simp; intros; omega) | (simp [HCC.out]; done)), HB.out⟩
set_option maxHeartbeats 1000000 in
theorem goodL_any (x : R5) (w : World) : Calls Try.prog 56 #[x.val] w (RetPost (.bool (goodL x)) w.heap.size w) := by
  obtain ⟨a, b, c, d, f⟩ := x
  have HB : Hid (Below w.heap.size w (w.alloc (.cells #[.int .i64 a, .int .i64 b, .int .i64 c, .int .i64 d, .int .i64 f] 87))) := Lib.hid ((Below.refl _ w).alloc (Nat.le_refl _) _)
  unfold R5.val goodL
  dsimp only
  have HC0 := Lib.hid (fun W => isSt_any a W)
  generalize stF a = t0 at *
  have HC1 := Lib.hid (fun W => isSt_any b W)
  generalize stF b = t1 at *
  have HC3 := Lib.hid (fun W => betw_any c (1) 1073741824 W)
  unfold betwF at HC3
  generalize (decide (1 ≤ c) && decide (c ≤ 1073741824)) = t3 at *
  have HC4 := Lib.hid (fun W => isRg_any d f W)
  generalize spF d f = t4 at *
  go_enter Try.func56, Try.ntmps56
  go_wp2_with fail
  refine (HC0.out _).mono ?_
  rintro e w1 ⟨rfl, rfl⟩
  cases t0 with
  | false =>
    clear HC0 HC1 HC3 HC4
    go_wp2_with fail
    go_ret
    exact ⟨ret_bool (by first | rfl | (simp; done) | (have := HCC.out; simp; intros; omega) | (simp [HCC.out]; done)), HB.out⟩
  | true =>
    go_wp2_with fail
    refine (HC1.out _).mono ?_
    rintro e w1 ⟨rfl, rfl⟩
    cases t1 with
    | false =>
      clear HC1 HC3 HC4
      go_wp2_with fail
      go_ret
      exact ⟨ret_bool (by first | rfl | (simp; done) | (have := HCC.out; simp; intros; omega) | (simp [HCC.out]; done)), HB.out⟩
    | true =>
      by_cases hc : a = b
      · have HCC := Lib.hid hc
        have hc2 : (a != b) = false := by simp [hc]
        clear hc
        go_wp2_with fail
        go_ret
        exact ⟨ret_bool (by first | rfl | (simp; done) | (have := HCC.out; simp; intros; omega) | (simp [HCC.out]; done)), HB.out⟩
      · have HCC := Lib.hid hc
        have hc2 : (a != b) = true := by simp [hc]
        clear hc
        go_wp2_with fail
        refine (HC3.out _).mono ?_
        rintro e w1 ⟨rfl, rfl⟩
        cases t3 with
        | false =>
          clear HC3 HC4
          go_wp2_with fail
          go_ret
          exact ⟨ret_bool (by first | rfl | (simp; done) | (have := HCC.out; simp; intros; omega) | (simp [HCC.out]; done)), HB.out⟩
        | true =>
          go_wp2_with fail
          refine (HC4.out _).mono ?_
          rintro e w1 ⟨rfl, rfl⟩
          go_wp2_with fail
          go_ret
          exact ⟨ret_bool (by first | rfl | (simp; done) | (have := HCC.out; simp; intros; omega) | (simp [HCC.out]; done)), HB.out⟩
set_option maxHeartbeats 1000000 in
theorem goodC_any (x : R4) (w : World) : Calls Try.prog 60 #[x.val] w (RetPost (.bool (goodC x)) w.heap.size w) := by
  obtain ⟨a, b, c, d⟩ := x
  have HB : Hid (Below w.heap.size w (w.alloc (.cells #[.int .i64 a, .int .i64 b, .int .i64 c, .int .i64 d] 89))) := Lib.hid ((Below.refl _ w).alloc (Nat.le_refl _) _)
  unfold R4.val goodC
  dsimp only
  have HC0 := Lib.hid (fun W => isSt_any a W)
  generalize stF a = t0 at *
  have HC1 := Lib.hid (fun W => betw_any b (0) 1099511627776 W)
  unfold betwF at HC1
  generalize (decide (0 ≤ b) && decide (b ≤ 1099511627776)) = t1 at *
  have HC2 := Lib.hid (fun W => isRg_any c d W)
  generalize spF c d = t2 at *
  go_enter Try.func60, Try.ntmps60
  go_wp2_with fail
  refine (HC0.out _).mono ?_
  rintro e w1 ⟨rfl, rfl⟩
  cases t0 with
  | false =>
    clear HC0 HC1 HC2
    go_wp2_with fail
    go_ret
    exact ⟨ret_bool (by first | rfl | (simp; done) | (have := HCC.out; simp; intros; omega) | (simp [HCC.out]; done)), HB.out⟩
  | true =>
    go_wp2_with fail
    refine (HC1.out _).mono ?_
    rintro e w1 ⟨rfl, rfl⟩
    cases t1 with
    | false =>
      clear HC1 HC2
      go_wp2_with fail
      go_ret
      exact ⟨ret_bool (by first | rfl | (simp; done) | (have := HCC.out; simp; intros; omega) | (simp [HCC.out]; done)), HB.out⟩
    | true =>
      go_wp2_with fail
      refine (HC2.out _).mono ?_
      rintro e w1 ⟨rfl, rfl⟩
      go_wp2_with fail
      go_ret
      exact ⟨ret_bool (by first | rfl | (simp; done) | (have := HCC.out; simp; intros; omega) | (simp [HCC.out]; done)), HB.out⟩
end Go.Proofs.Ytpdhelhngdeoeaa
