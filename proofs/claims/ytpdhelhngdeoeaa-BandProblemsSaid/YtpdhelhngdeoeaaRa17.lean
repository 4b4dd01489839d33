/- The reference of layer 17: station, span, PairOf, LoadOf, CapOf, Less. -/
import Derived.Test.YtpdhelhngdeoeaaVt17
import Derived.Test.YtpdhelhngdeoeaaLex
namespace Go.Proofs.Ytpdhelhngdeoeaa
open Go.RowKit

theorem rst_any (n : Int) (w : World) : Calls Try.prog 39 #[.int .i64 n] w fun e w' => e = .returned (.bool (stF n)) ∧ w = w' := by
  unfold stF
  by_cases h1 : 0 ≤ n
  · go_enter Try.func39, Try.ntmps39
    go_wp2
    go_ret
    exact ⟨ret_bool (by first | (simp; omega) | simp [h1]), rfl⟩
  · go_enter Try.func39, Try.ntmps39
    go_wp2
    go_ret
    exact ⟨ret_bool (by first | (simp; omega) | simp [h1]), rfl⟩
theorem rsp_any (lo hi : Int) (w : World) : Calls Try.prog 40 #[.int .i64 lo, .int .i64 hi] w fun e w' => e = .returned (.bool (spF lo hi)) ∧ w = w' := by
  unfold spF
  by_cases h1 : 2 ≤ lo
  · by_cases h2 : lo ≤ hi
    · go_enter Try.func40, Try.ntmps40
      go_wp2
      go_ret
      exact ⟨ret_bool (by first | (simp; omega) | simp [h1, h2]), rfl⟩
    · go_enter Try.func40, Try.ntmps40
      go_wp2
      go_ret
      exact ⟨ret_bool (by first | (simp; omega) | simp [h1, h2]), rfl⟩
  · go_enter Try.func40, Try.ntmps40
    go_wp2
    go_ret
    exact ⟨ret_bool (by first | (simp; omega) | simp [h1]), rfl⟩

/-- what PairOf, LoadOf and CapOf leave: the numbers in a row of their own -/
def NumsPost (l : List Int) (w : World) (e : Ending) (w' : World) : Prop := e = .returned (.slice (some ⟨w.heap.size + 1, 0, none⟩) l.length l.length) ∧ Row1 intV w' w'.heap.size (some ⟨w.heap.size + 1, 0, none⟩) l.length l ∧ Below w.heap.size w w'
theorem rPairOf_any (x : R5) (w : World) : Calls Try.prog 42 #[x.val] w (NumsPost x.nums w) := by
  have hr := row1_new (w.alloc (.cells #[.int .i64 x.a, .int .i64 x.b, .int .i64 x.c, .int .i64 x.d, .int .i64 x.e] 69)) intV 3 x.nums
  rw [World.size_alloc] at hr
  have HR : Hid (Row1 intV ((w.alloc (.cells #[.int .i64 x.a, .int .i64 x.b, .int .i64 x.c, .int .i64 x.d, .int .i64 x.e] 69)).alloc (.cells (x.nums.map intV).toArray 3)) (w.heap.size + 1 + 1) (some ⟨w.heap.size + 1, 0, none⟩) x.nums.length x.nums) := Lib.hid hr
  clear hr
  unfold R5.val
  unfold R5.nums at HR
  unfold R5.nums
  go_enter Try.func42, Try.ntmps42
  go_wp2
  go_ret
  refine ⟨rfl, HR.out.up (by simp), ((Below.refl _ w).alloc (Nat.le_refl _) _).alloc (by simp) _⟩
theorem rLoadOf_any (x : R5) (w : World) : Calls Try.prog 43 #[x.val] w (NumsPost x.nums w) := by
  have hr := row1_new (w.alloc (.cells #[.int .i64 x.a, .int .i64 x.b, .int .i64 x.c, .int .i64 x.d, .int .i64 x.e] 87)) intV 3 x.nums
  rw [World.size_alloc] at hr
  have HR : Hid (Row1 intV ((w.alloc (.cells #[.int .i64 x.a, .int .i64 x.b, .int .i64 x.c, .int .i64 x.d, .int .i64 x.e] 87)).alloc (.cells (x.nums.map intV).toArray 3)) (w.heap.size + 1 + 1) (some ⟨w.heap.size + 1, 0, none⟩) x.nums.length x.nums) := Lib.hid hr
  clear hr
  unfold R5.val
  unfold R5.nums at HR
  unfold R5.nums
  go_enter Try.func43, Try.ntmps43
  go_wp2
  go_ret
  refine ⟨rfl, HR.out.up (by simp), ((Below.refl _ w).alloc (Nat.le_refl _) _).alloc (by simp) _⟩
theorem rCapOf_any (x : R4) (w : World) : Calls Try.prog 44 #[x.val] w (NumsPost x.nums w) := by
  have hr := row1_new (w.alloc (.cells #[.int .i64 x.a, .int .i64 x.b, .int .i64 x.c, .int .i64 x.d] 89)) intV 3 x.nums
  rw [World.size_alloc] at hr
  have HR : Hid (Row1 intV ((w.alloc (.cells #[.int .i64 x.a, .int .i64 x.b, .int .i64 x.c, .int .i64 x.d] 89)).alloc (.cells (x.nums.map intV).toArray 3)) (w.heap.size + 1 + 1) (some ⟨w.heap.size + 1, 0, none⟩) x.nums.length x.nums) := Lib.hid hr
  clear hr
  unfold R4.val
  unfold R4.nums at HR
  unfold R4.nums
  go_enter Try.func44, Try.ntmps44
  go_wp2
  go_ret
  refine ⟨rfl, HR.out.up (by simp), ((Below.refl _ w).alloc (Nat.le_refl _) _).alloc (by simp) _⟩

theorem lessL_cons (x y : Int) (r t : List Int) : lessL (x :: r) (y :: t) = if x ≠ y then decide (x < y) else lessL r t := rfl
set_option maxHeartbeats 1000000 in
theorem rless_any (A B : Option Addr) (n m c d : Nat) (a b : List Int) (w : World) (hn : n ≤ 1000) (ha : Row1 intV w w.heap.size A n a) (hb : Row1 intV w w.heap.size B m b) (hnm : n = m) :
    Calls Try.prog 41 #[.slice A n c, .slice B m d] w (RetPost (.bool (lessL a b)) w.heap.size w) := by
  have Ha := Lib.hid ha
  have Hb := Lib.hid hb
  subst hnm
  have Hal := Eqn.mk ha.1
  have Hbl := Eqn.mk hb.1
  clear ha hb
  go_enter Try.func41, Try.ntmps41
  go_wp2_with fail
  go_loopw [5] (fun i wr => ∃ k : Nat, k ≤ n ∧ i = .int .i64 k ∧ Eqn (lessL a b) (lessL (a.drop k) (b.drop k)) ∧ Below w.heap.size w wr) (fun i _ => n - (intOf i).toNat)
  case atStart => exact ⟨0, Nat.zero_le _, rfl, rfl, Below.refl _ _⟩
  case round =>
    obtain ⟨k, hk, rfl, HR, hB⟩ := hrel
    have HB := Lib.hid hB
    have hbs := hB.size
    by_cases hlt : k < n
    · obtain ⟨p, hp, hpd⟩ := drop_at (xs := a) (k := k) (by rw [Hal.out]; exact hlt)
      obtain ⟨q, hq, hqd⟩ := drop_at (xs := b) (k := k) (by rw [Hbl.out]; exact hlt)
      obtain ⟨ab, ao, hA, hal, hca⟩ := (Ha.out.below hB).2 (by omega)
      obtain ⟨bb, bo, hBB, hbl, hcb⟩ := (Hb.out.below hB).2 (by omega)
      subst hA
      subst hBB
      have c0 := hca k p hp
      have d0 := hcb k q hq
      simp only [intV] at c0 d0
      have HR2 := HR.out
      rw [hpd, hqd, lessL_cons] at HR2
      have HRR := Eqn.mk HR2
      have j0 : (k : Int) < (n : Int) := by omega
      clear hca hcb hp hpd hq hqd HR HR2 hB
      by_cases hpq : p = q
      · have HE := Eqn.mk (HRR.out.trans (if_neg (by simp [hpq])))
        have hd : (p != q) = false := by simp [hpq]
        clear HRR hpq
        go_wp2_with fail
        refine Lx.region (C := fun _ => True) (hs := []) (by kernel_rfl) (by kernel_rfl) trivial ?_
        repeat' (first
          | (refine Lx.lex_no (Lx.n1 rfl rfl rfl (by with_reducible rfl)) (fun K hK => ?_); go_simp; skip; refine hK _ ?_; clear hK K)
          | (refine Lx.lex_no (Lx.n0 rfl rfl rfl (by with_reducible rfl)) (fun K hK => ?_); go_simp; skip; refine hK _ ?_; clear hK K)
          | (refine Lx.lex_no (Lx.n2 rfl rfl rfl) (fun K hK => ?_); go_simp; skip; refine hK _ ?_; clear hK K)
          | (refine Lx.lex_pure (v := ?_) rfl (by first | exact Lx.w0 rfl | exact Lx.w1 rfl rfl rfl (by with_reducible rfl)) ?_ (fun K hK => ?_); rotate_left 1; (intro w' hCw; (try dsimp only at hCw); go_simp; first | done | with_reducible rfl); go_simp; skip; refine hK _ ?_; clear hK K)
          | (refine Lx.lex_read (v := ?_) rfl (by first | exact Lx.w0 rfl | exact Lx.w1 rfl rfl rfl (by with_reducible rfl)) ?_ (fun K hK => ?_); rotate_left 1; (go_simp; first | done | with_reducible rfl); go_simp; skip; refine hK _ ?_; clear hK K)
          | (refine Lx.lex_eff rfl (by first | exact Lx.w0 rfl | exact Lx.w1 rfl rfl rfl (by with_reducible rfl)) (fun K hK => ?_); go_simp; (first | fail); refine hK _ _ (trivial) ?_; clear hK K))
        all_goals (refine Lx.lex_nil ?_)
        go_wp2_with fail
        go_roundw
        case rel => exact ⟨k + 1, by omega, by go_num, HE, HB.out.drew⟩
        case measure => simp [intOf]; omega
      · have HE := Eqn.mk (HRR.out.trans (if_pos hpq))
        have hd : (p != q) = true := by simp [hpq]
        clear HRR hpq
        go_wp2_with fail
        refine Lx.region (C := fun _ => True) (hs := []) (by kernel_rfl) (by kernel_rfl) trivial ?_
        repeat' (first
          | (refine Lx.lex_no (Lx.n1 rfl rfl rfl (by with_reducible rfl)) (fun K hK => ?_); go_simp; skip; refine hK _ ?_; clear hK K)
          | (refine Lx.lex_no (Lx.n0 rfl rfl rfl (by with_reducible rfl)) (fun K hK => ?_); go_simp; skip; refine hK _ ?_; clear hK K)
          | (refine Lx.lex_no (Lx.n2 rfl rfl rfl) (fun K hK => ?_); go_simp; skip; refine hK _ ?_; clear hK K)
          | (refine Lx.lex_pure (v := ?_) rfl (by first | exact Lx.w0 rfl | exact Lx.w1 rfl rfl rfl (by with_reducible rfl)) ?_ (fun K hK => ?_); rotate_left 1; (intro w' hCw; (try dsimp only at hCw); go_simp; first | done | with_reducible rfl); go_simp; skip; refine hK _ ?_; clear hK K)
          | (refine Lx.lex_read (v := ?_) rfl (by first | exact Lx.w0 rfl | exact Lx.w1 rfl rfl rfl (by with_reducible rfl)) ?_ (fun K hK => ?_); rotate_left 1; (go_simp; first | done | with_reducible rfl); go_simp; skip; refine hK _ ?_; clear hK K)
          | (refine Lx.lex_eff rfl (by first | exact Lx.w0 rfl | exact Lx.w1 rfl rfl rfl (by with_reducible rfl)) (fun K hK => ?_); go_simp; (first | fail); refine hK _ _ (trivial) ?_; clear hK K))
        all_goals (refine Lx.lex_nil ?_)
        go_wp2_with fail
        refine Lx.region (C := fun _ => True) (hs := []) (by kernel_rfl) (by kernel_rfl) trivial ?_
        repeat' (first
          | (refine Lx.lex_no (Lx.n1 rfl rfl rfl (by with_reducible rfl)) (fun K hK => ?_); go_simp; skip; refine hK _ ?_; clear hK K)
          | (refine Lx.lex_no (Lx.n0 rfl rfl rfl (by with_reducible rfl)) (fun K hK => ?_); go_simp; skip; refine hK _ ?_; clear hK K)
          | (refine Lx.lex_no (Lx.n2 rfl rfl rfl) (fun K hK => ?_); go_simp; skip; refine hK _ ?_; clear hK K)
          | (refine Lx.lex_pure (v := ?_) rfl (by first | exact Lx.w0 rfl | exact Lx.w1 rfl rfl rfl (by with_reducible rfl)) ?_ (fun K hK => ?_); rotate_left 1; (intro w' hCw; (try dsimp only at hCw); go_simp; first | done | with_reducible rfl); go_simp; skip; refine hK _ ?_; clear hK K)
          | (refine Lx.lex_read (v := ?_) rfl (by first | exact Lx.w0 rfl | exact Lx.w1 rfl rfl rfl (by with_reducible rfl)) ?_ (fun K hK => ?_); rotate_left 1; (go_simp; first | done | with_reducible rfl); go_simp; skip; refine hK _ ?_; clear hK K)
          | (refine Lx.lex_eff rfl (by first | exact Lx.w0 rfl | exact Lx.w1 rfl rfl rfl (by with_reducible rfl)) (fun K hK => ?_); go_simp; (first | fail); refine hK _ _ (trivial) ?_; clear hK K))
        all_goals (refine Lx.lex_nil ?_)
        go_wp2_with fail
        go_ret
        exact ⟨ret_bool HE.out.symm, HB.out.drew.drew⟩
    · obtain rfl : k = n := by omega
      clear hB
      go_wp2_with fail
      go_ret
      refine ⟨ret_bool ?_, HB.out⟩
      rw [HR.out, drop_end (by rw [Hal.out]; omega)]
      rfl
end Go.Proofs.Ytpdhelhngdeoeaa
