/- AssignValid, AssignCount, AssignBest: for every input the call returns true, and each argument reads afterwards as it read before. No conditions. -/
import Derived.Test.YteckijkmcafpaaaOpen39
import Derived.Test.YteckijkmcafpaaaKnown39
namespace Go.Proofs.Yteckijkmcafpaaa
open Go.RowKit Go.ChangeShapes Go.WideShapes Go.ChangeAt

def fewF (b : Int) (n : Nat) : Bool := decide (n ≤ 4 ∨ 6 < n ∨ b ≤ 8)
theorem few_any (b : Int) (A : Option Addr) (n c : Nat) (w : World) (hn : n ≤ 1000) : Calls Try.prog 16 #[.int .i64 b, .slice A n c] w fun e w' => e = .returned (.bool (fewF b n)) ∧ w = w' := by
  by_cases h1 : n ≤ 4
  · have t1 : (n : Int) ≤ 4 := by omega
    have HF : Eqn (fewF b n) true := decide_eq_true (.inl h1)
    go_enter Try.func16, Try.ntmps16
    go_wp2
    go_ret
    exact ⟨ret_bool HF.out.symm, rfl⟩
  · have t1 : ¬ (n : Int) ≤ 4 := by omega
    by_cases h2 : 6 < n
    · have t2 : (6 : Int) < (n : Int) := by omega
      have HF : Eqn (fewF b n) true := decide_eq_true (.inr (.inl h2))
      go_enter Try.func16, Try.ntmps16
      go_wp2
      go_ret
      exact ⟨ret_bool HF.out.symm, rfl⟩
    · have t2 : ¬ (6 : Int) < (n : Int) := by omega
      have HF : Eqn (fewF b n) (decide (b ≤ 8)) := by
        unfold fewF Eqn
        by_cases h3 : b ≤ 8
        · rw [decide_eq_true (.inr (.inr h3)), decide_eq_true h3]
        · rw [decide_eq_false (by omega), decide_eq_false h3]
      go_enter Try.func16, Try.ntmps16
      go_wp2
      go_ret
      exact ⟨ret_bool HF.out.symm, rfl⟩

set_option maxHeartbeats 4000000 in
theorem assignValid_walk (w : World) (b : Int) (_hb : I64 b) (A : Option Addr) (n c : Nat) (l : List Claim) (R : RowS 2 Claim.cell w w.heap.size A n l ∧ n ≤ 9223372036854775807) (B : Option Addr) (m d : Nat) (ws : List Wish) (Rb : RowS 3 Wish.cell w w.heap.size B m ws ∧ m ≤ 9223372036854775807) :
    Calls Try.prog 3 #[.int .i64 b, .slice A n c, .slice B m d] w fun e w' => e = .returned (.bool true) ∧ Below w.heap.size w w' := by
  have L0 := Lib.hid R.1
  have M0 := Lib.hid Rb.1
  have B0 : Hid (Below w.heap.size w w) := Lib.hid (Below.refl _ _)
  clear R Rb
  by_cases h1 : n ≤ 20
  · have d1 : ¬ (20 : Int) < (n : Int) := by omega
    by_cases h2 : m ≤ 100
    · have d2 : ¬ (100 : Int) < (m : Int) := by omega
      obtain ⟨x, hx⟩ : ∃ x, validF b l = x := ⟨_, rfl⟩
      obtain ⟨y, hy⟩ : ∃ y, vwF b l ws = y := ⟨_, rfl⟩
      have HX := Eqn.mk hx
      have HY := Eqn.mk hy
      have t1 : (x == x) = true := by simp
      have t2 : (y == y) = true := by simp
      clear hx hy
      go_enter Try.func3, Try.ntmps3
      go_wp2_with fail
      refine (valid_any b A n c _ l (by omega) L0.out).mono ?_
      rw [HX.out]
      rintro e w1 ⟨rfl, hb1⟩
      have L1 := Lib.hid (L0.out.keep hb1)
      have M1 := Lib.hid (M0.out.keep hb1)
      have B1 : Hid (Below w.heap.size w w1) := Lib.hid (B0.out.trans (hb1.mono B0.out.size))
      clear hb1 L0 M0 B0
      go_wp2_with fail
      refine (rvalid_any b A n c _ l (by omega) L1.out).mono ?_
      rw [HX.out]
      rintro e w2 ⟨rfl, hb2⟩
      have L2 := Lib.hid (L1.out.keep hb2)
      have M2 := Lib.hid (M1.out.keep hb2)
      have B2 : Hid (Below w.heap.size w w2) := Lib.hid (B1.out.trans (hb2.mono B1.out.size))
      clear hb2 L1 M1 B1
      go_wp2_with fail
      refine (vw_any b A B n c m d _ l ws (by omega) (by omega) L2.out M2.out).mono ?_
      rw [HY.out]
      rintro e w3 ⟨rfl, hb3⟩
      have L3 := Lib.hid (L2.out.keep hb3)
      have M3 := Lib.hid (M2.out.keep hb3)
      have B3 : Hid (Below w.heap.size w w3) := Lib.hid (B2.out.trans (hb3.mono B2.out.size))
      clear hb3 L2 M2 B2
      go_wp2_with fail
      refine (rvw_any b A B n c m d _ l ws (by omega) (by omega) L3.out M3.out).mono ?_
      rw [HY.out]
      rintro e w4 ⟨rfl, hb4⟩
      have L4 := Lib.hid (L3.out.keep hb4)
      have M4 := Lib.hid (M3.out.keep hb4)
      have B4 : Hid (Below w.heap.size w w4) := Lib.hid (B3.out.trans (hb4.mono B3.out.size))
      clear hb4 L3 M3 B3
      go_wp2_with fail
      refine (known_any _).mono ?_
      rintro e wz ⟨rfl, hbz⟩
      have BZ := B4.out.trans (hbz.mono B4.out.size)
      clear hbz
      go_wp2_with fail
      go_ret
      exact ⟨rfl, BZ⟩
    · have d2 : (100 : Int) < (m : Int) := by omega
      go_enter Try.func3, Try.ntmps3
      go_wp2_with fail
      refine (known_any _).mono ?_
      rintro e wz ⟨rfl, hbz⟩
      have BZ := hbz
      clear hbz
      go_wp2_with fail
      go_ret
      exact ⟨rfl, BZ⟩
  · have d1 : (20 : Int) < (n : Int) := by omega
    go_enter Try.func3, Try.ntmps3
    go_wp2_with fail
    refine (known_any _).mono ?_
    rintro e wz ⟨rfl, hbz⟩
    have BZ := hbz
    clear hbz
    go_wp2_with fail
    go_ret
    exact ⟨rfl, BZ⟩

set_option maxRecDepth 100000 in
theorem assignValid_lifted (os : Os) (started : os.Started) (H : Type) (enc : TypeId × Value → H) :
    ReturnsInHanded {} Try.checked os 3 .any (Rows.assignValidSpec.pre6 enc Try.prog Try.f3 Rows.assignValidRow.domain false) (Rows.assignValidSpec.post enc Try.prog Try.f3 false true false false) := by
  refine returnsInHanded_of_change (C := Try.checked) own started (by kernel_rfl) Try.func3
    (ChangeSpec.witness6 (enc := enc) (C := Try.checked) false ⟨#[], #[.int .i64 0, .slice none 0 0, .slice none 0 0], []⟩ 8 (by kernel_rfl) (by kernel_rfl) (by kernel_rfl) (by kernel_rfl)) ?_
  intro W base args ds gs before hval0 hW hcnd _
  have hval : ∀ (j : Nat) t v, Try.f3.params[j]? = some t → args[j]? = some v → Value.okWide Try.prog W .any base t v := hval0
  have hW' := hW
  obtain ⟨p, q, hA0, hV, rfl, hfz, hnd⟩ := hW
  have hA : DataW.TrodAll enc Try.prog W 0 (fun _ => true) true Try.f3.params.toList args.toList ds p := hA0
  rw [Try.params3] at hA hval
  obtain ⟨v0, vs0, d0, ds0, p0, q0, hargs, rfl, rfl, h0, r0⟩ := trodAll_cons hA
  obtain ⟨v1, vs1, d1, ds1, p1, q1, rfl, rfl, rfl, h1, r1⟩ := trodAll_cons r0
  obtain ⟨v2, vs2, d2, ds2, p2, q2, rfl, rfl, rfl, h2, r2⟩ := trodAll_cons r1
  obtain ⟨rfl, rfl, rfl⟩ := trodAll_nil r2
  obtain rfl : args = #[v0, v1, v2] := by cases args; simp_all
  obtain ⟨rfl, rfl⟩ := trodVars_none hV
  have k0 := h0
  have lt0 : ∀ x ∈ p0, x.block < W.heap.size := by obtain ⟨m, hm⟩ := k0; exact DataW.trod_lt m _ _ _ hm
  have k1 := h1
  have lt1 : ∀ x ∈ p1, x.block < W.heap.size := by obtain ⟨m, hm⟩ := k1; exact DataW.trod_lt m _ _ _ hm
  have k2 := h2
  have lt2 : ∀ x ∈ p2, x.block < W.heap.size := by obtain ⟨m, hm⟩ := k2; exact DataW.trod_lt m _ _ _ hm
  obtain ⟨x0, rfl, b0⟩ := arg_int Try.underlying3 (hval 0 3 _ rfl rfl) h0
  obtain ⟨A1, n1, c1, xs1, rfl, R1⟩ := arg_claims (hval 1 22 _ rfl rfl) h1
  obtain ⟨A2, n2, c2, xs2, rfl, R2⟩ := arg_wishes (hval 2 23 _ rfl rfl) h2
  clear hA0 hval0
  refine (assignValid_walk W x0 b0 A1 n1 c1 xs1 R1 A2 n2 c2 xs2 R2).mono fun e W' ⟨he, bel⟩ => ?_
  subst he
  exact ⟨_, rfl, _, _, _, [], _, [], hW', trodAll_mk1 (shut_bool Try.underlying4 _), (trodAll_cons_mk (Below.trod laidOut (by kernel_rfl) (of_decide_eq_true (by kernel_rfl)) k0 bel lt0) (trodAll_cons_mk (Below.trod laidOut (by kernel_rfl) (of_decide_eq_true (by kernel_rfl)) k1 bel lt1) (trodAll_cons_mk (Below.trod laidOut (by kernel_rfl) (of_decide_eq_true (by kernel_rfl)) k2 bel lt2) trodAll_mk0))), rfl, bel.frame _, fun h => by cases h⟩

theorem assignValid_over : Rows.assignValidRow.holds Try.pinned (OpenSpec.ofChange Rows.assignValidSpec) :=
  OpenClaim.holds_of_wide 3 Try.f3 rfl rfl rfl rfl rfl rfl rfl ⟨rfl, rfl, rfl, rfl, rfl⟩ rfl rfl rfl rfl rfl (by kernel_rfl) Try.func3 (by kernel_rfl)
    (of_decide_eq_true (by kernel_rfl)) (by unfold Func.isWrapper; first | (rw [if_pos (by decide +kernel)]; kernel_rfl) | (rw [if_neg (by decide +kernel)]; exact ⟨rfl, rfl⟩))
    (fun os started H enc _ => assignValid_lifted os started H enc)

theorem assignValid_holds : Rows.AssignValidSaid := assignValid_over
#print axioms assignValid_holds

set_option maxHeartbeats 4000000 in
theorem assignCount_walk (w : World) (b : Int) (_hb : I64 b) (A : Option Addr) (n c : Nat) (l : List Claim) (R : RowS 2 Claim.cell w w.heap.size A n l ∧ n ≤ 9223372036854775807) :
    Calls Try.prog 7 #[.int .i64 b, .slice A n c] w fun e w' => e = .returned (.bool true) ∧ Below w.heap.size w w' := by
  have L0 := Lib.hid R.1
  have B0 : Hid (Below w.heap.size w w) := Lib.hid (Below.refl _ _)
  clear R
  by_cases h1 : n ≤ 20
  · have d1 : ¬ (20 : Int) < (n : Int) := by omega
    cases hf : fewF b n with
    | true =>
      have HFW := Eqn.mk hf
      obtain ⟨x, hx⟩ : ∃ x, countF b l = x := ⟨_, rfl⟩
      obtain ⟨x1, x2⟩ := x
      have HX : Eqn (v2 (countF b l)) (.tuple #[.int .i64 x1, .int .i64 x2]) := by rw [Eqn, hx]; rfl
      have t1 : (x1 == x1) = true := by simp
      have t2 : (x2 == x2) = true := by simp
      clear hx hf
      go_enter Try.func7, Try.ntmps7
      go_wp2_with fail
      refine (few_any b A n c _ (by omega)).mono ?_
      rw [HFW.out]
      rintro e w5 ⟨rfl, rfl⟩
      go_wp2_with fail
      refine (count_any b A n c _ l (by omega) L0.out).mono ?_
      rw [HX.out]
      rintro e w1 ⟨rfl, hb1⟩
      have L1 := Lib.hid (L0.out.keep hb1)
      have B1 : Hid (Below w.heap.size w w1) := Lib.hid (B0.out.trans (hb1.mono B0.out.size))
      clear hb1 L0 B0
      go_wp2_with fail
      refine (rcount_any b A n c _ l (by omega) L1.out).mono ?_
      rw [HX.out]
      rintro e w2 ⟨rfl, hb2⟩
      have L2 := Lib.hid (L1.out.keep hb2)
      have B2 : Hid (Below w.heap.size w w2) := Lib.hid (B1.out.trans (hb2.mono B1.out.size))
      clear hb2 L1 B1
      go_wp2_with fail
      refine (known_any _).mono ?_
      rintro e wz ⟨rfl, hbz⟩
      have BZ := B2.out.trans (hbz.mono B2.out.size)
      clear hbz
      go_wp2_with fail
      go_ret
      exact ⟨rfl, BZ⟩
    | false =>
      have HFW := Eqn.mk hf
      clear hf
      go_enter Try.func7, Try.ntmps7
      go_wp2_with fail
      refine (few_any b A n c _ (by omega)).mono ?_
      rw [HFW.out]
      rintro e w5 ⟨rfl, rfl⟩
      go_wp2_with fail
      refine (known_any _).mono ?_
      rintro e wz ⟨rfl, hbz⟩
      have BZ := hbz
      clear hbz
      go_wp2_with fail
      go_ret
      exact ⟨rfl, BZ⟩
  · have d1 : (20 : Int) < (n : Int) := by omega
    go_enter Try.func7, Try.ntmps7
    go_wp2_with fail
    refine (known_any _).mono ?_
    rintro e wz ⟨rfl, hbz⟩
    have BZ := hbz
    clear hbz
    go_wp2_with fail
    go_ret
    exact ⟨rfl, BZ⟩

set_option maxRecDepth 100000 in
theorem assignCount_lifted (os : Os) (started : os.Started) (H : Type) (enc : TypeId × Value → H) :
    ReturnsInHanded {} Try.checked os 7 .any (Rows.assignCountSpec.pre6 enc Try.prog Try.f7 Rows.assignCountRow.domain false) (Rows.assignCountSpec.post enc Try.prog Try.f7 false true false false) := by
  refine returnsInHanded_of_change (C := Try.checked) own started (by kernel_rfl) Try.func7
    (ChangeSpec.witness6 (enc := enc) (C := Try.checked) false ⟨#[], #[.int .i64 0, .slice none 0 0], []⟩ 8 (by kernel_rfl) (by kernel_rfl) (by kernel_rfl) (by kernel_rfl)) ?_
  intro W base args ds gs before hval0 hW hcnd _
  have hval : ∀ (j : Nat) t v, Try.f7.params[j]? = some t → args[j]? = some v → Value.okWide Try.prog W .any base t v := hval0
  have hW' := hW
  obtain ⟨p, q, hA0, hV, rfl, hfz, hnd⟩ := hW
  have hA : DataW.TrodAll enc Try.prog W 0 (fun _ => true) true Try.f7.params.toList args.toList ds p := hA0
  rw [Try.params7] at hA hval
  obtain ⟨v0, vs0, d0, ds0, p0, q0, hargs, rfl, rfl, h0, r0⟩ := trodAll_cons hA
  obtain ⟨v1, vs1, d1, ds1, p1, q1, rfl, rfl, rfl, h1, r1⟩ := trodAll_cons r0
  obtain ⟨rfl, rfl, rfl⟩ := trodAll_nil r1
  obtain rfl : args = #[v0, v1] := by cases args; simp_all
  obtain ⟨rfl, rfl⟩ := trodVars_none hV
  have k0 := h0
  have lt0 : ∀ x ∈ p0, x.block < W.heap.size := by obtain ⟨m, hm⟩ := k0; exact DataW.trod_lt m _ _ _ hm
  have k1 := h1
  have lt1 : ∀ x ∈ p1, x.block < W.heap.size := by obtain ⟨m, hm⟩ := k1; exact DataW.trod_lt m _ _ _ hm
  obtain ⟨x0, rfl, b0⟩ := arg_int Try.underlying3 (hval 0 3 _ rfl rfl) h0
  obtain ⟨A1, n1, c1, xs1, rfl, R1⟩ := arg_claims (hval 1 22 _ rfl rfl) h1
  clear hA0 hval0
  refine (assignCount_walk W x0 b0 A1 n1 c1 xs1 R1).mono fun e W' ⟨he, bel⟩ => ?_
  subst he
  exact ⟨_, rfl, _, _, _, [], _, [], hW', trodAll_mk1 (shut_bool Try.underlying4 _), (trodAll_cons_mk (Below.trod laidOut (by kernel_rfl) (of_decide_eq_true (by kernel_rfl)) k0 bel lt0) (trodAll_cons_mk (Below.trod laidOut (by kernel_rfl) (of_decide_eq_true (by kernel_rfl)) k1 bel lt1) trodAll_mk0)), rfl, bel.frame _, fun h => by cases h⟩

theorem assignCount_over : Rows.assignCountRow.holds Try.pinned (OpenSpec.ofChange Rows.assignCountSpec) :=
  OpenClaim.holds_of_wide 7 Try.f7 rfl rfl rfl rfl rfl rfl rfl ⟨rfl, rfl, rfl, rfl, rfl⟩ rfl rfl rfl rfl rfl (by kernel_rfl) Try.func7 (by kernel_rfl)
    (of_decide_eq_true (by kernel_rfl)) (by unfold Func.isWrapper; first | (rw [if_pos (by decide +kernel)]; kernel_rfl) | (rw [if_neg (by decide +kernel)]; exact ⟨rfl, rfl⟩))
    (fun os started H enc _ => assignCount_lifted os started H enc)

theorem assignCount_holds : Rows.AssignCountSaid := assignCount_over
#print axioms assignCount_holds

set_option maxHeartbeats 4000000 in
theorem assignBest_walk (w : World) (b : Int) (_hb : I64 b) (A : Option Addr) (n c : Nat) (l : List Claim) (R : RowS 2 Claim.cell w w.heap.size A n l ∧ n ≤ 9223372036854775807) (B : Option Addr) (m d : Nat) (ws : List Wish) (Rb : RowS 3 Wish.cell w w.heap.size B m ws ∧ m ≤ 9223372036854775807) (W : Option Addr) (p pc : Nat) (wn : List Int) (Rw : Row1 intV w w.heap.size W p wn) (_hwb : ∀ x ∈ wn, I64 x) (_hwm : p ≤ 9223372036854775807) :
    Calls Try.prog 6 #[.int .i64 b, .slice A n c, .slice B m d, .slice W p pc] w fun e w' => e = .returned (.bool true) ∧ Below w.heap.size w w' := by
  have L0 := Lib.hid R.1
  have M0 := Lib.hid Rb.1
  have P0 := Lib.hid Rw
  have B0 : Hid (Below w.heap.size w w) := Lib.hid (Below.refl _ _)
  clear R Rb Rw _hwb
  by_cases h1 : n ≤ 20
  · have d1 : ¬ (20 : Int) < (n : Int) := by omega
    by_cases h2 : m ≤ 100
    · have d2 : ¬ (100 : Int) < (m : Int) := by omega
      by_cases h3 : p ≤ 20
      · have d3 : ¬ (20 : Int) < (p : Int) := by omega
        cases hf : fewF b n with
        | true =>
          have HFW := Eqn.mk hf
          obtain ⟨x, hx⟩ : ∃ x, bestF b l ws wn = x := ⟨_, rfl⟩
          obtain ⟨x1, x2⟩ := x
          have HX : Eqn (v2 (bestF b l ws wn)) (.tuple #[.int .i64 x1, .int .i64 x2]) := by rw [Eqn, hx]; rfl
          have t1 : (x1 == x1) = true := by simp
          have t2 : (x2 == x2) = true := by simp
          clear hx hf
          go_enter Try.func6, Try.ntmps6
          go_wp2_with fail
          refine (few_any b A n c _ (by omega)).mono ?_
          rw [HFW.out]
          rintro e w5 ⟨rfl, rfl⟩
          go_wp2_with fail
          refine (best_any b A B W n c m d p pc _ l ws wn (by omega) (by omega) (by omega) L0.out M0.out P0.out).mono ?_
          rw [HX.out]
          rintro e w1 ⟨rfl, hb1⟩
          have L1 := Lib.hid (L0.out.keep hb1)
          have M1 := Lib.hid (M0.out.keep hb1)
          have P1 := Lib.hid (P0.out.keep hb1)
          have B1 : Hid (Below w.heap.size w w1) := Lib.hid (B0.out.trans (hb1.mono B0.out.size))
          clear hb1 L0 M0 P0 B0
          go_wp2_with fail
          refine (rbest_any b A B W n c m d p pc _ l ws wn (by omega) (by omega) (by omega) L1.out M1.out P1.out).mono ?_
          rw [HX.out]
          rintro e w2 ⟨rfl, hb2⟩
          have L2 := Lib.hid (L1.out.keep hb2)
          have M2 := Lib.hid (M1.out.keep hb2)
          have P2 := Lib.hid (P1.out.keep hb2)
          have B2 : Hid (Below w.heap.size w w2) := Lib.hid (B1.out.trans (hb2.mono B1.out.size))
          clear hb2 L1 M1 P1 B1
          go_wp2_with fail
          refine (known_any _).mono ?_
          rintro e wz ⟨rfl, hbz⟩
          have BZ := B2.out.trans (hbz.mono B2.out.size)
          clear hbz
          go_wp2_with fail
          go_ret
          exact ⟨rfl, BZ⟩
        | false =>
          have HFW := Eqn.mk hf
          clear hf
          go_enter Try.func6, Try.ntmps6
          go_wp2_with fail
          refine (few_any b A n c _ (by omega)).mono ?_
          rw [HFW.out]
          rintro e w5 ⟨rfl, rfl⟩
          go_wp2_with fail
          refine (known_any _).mono ?_
          rintro e wz ⟨rfl, hbz⟩
          have BZ := hbz
          clear hbz
          go_wp2_with fail
          go_ret
          exact ⟨rfl, BZ⟩
      · have d3 : (20 : Int) < (p : Int) := by omega
        go_enter Try.func6, Try.ntmps6
        go_wp2_with fail
        refine (known_any _).mono ?_
        rintro e wz ⟨rfl, hbz⟩
        have BZ := hbz
        clear hbz
        go_wp2_with fail
        go_ret
        exact ⟨rfl, BZ⟩
    · have d2 : (100 : Int) < (m : Int) := by omega
      go_enter Try.func6, Try.ntmps6
      go_wp2_with fail
      refine (known_any _).mono ?_
      rintro e wz ⟨rfl, hbz⟩
      have BZ := hbz
      clear hbz
      go_wp2_with fail
      go_ret
      exact ⟨rfl, BZ⟩
  · have d1 : (20 : Int) < (n : Int) := by omega
    go_enter Try.func6, Try.ntmps6
    go_wp2_with fail
    refine (known_any _).mono ?_
    rintro e wz ⟨rfl, hbz⟩
    have BZ := hbz
    clear hbz
    go_wp2_with fail
    go_ret
    exact ⟨rfl, BZ⟩

set_option maxRecDepth 100000 in
theorem assignBest_lifted (os : Os) (started : os.Started) (H : Type) (enc : TypeId × Value → H) :
    ReturnsInHanded {} Try.checked os 6 .any (Rows.assignBestSpec.pre6 enc Try.prog Try.f6 Rows.assignBestRow.domain false) (Rows.assignBestSpec.post enc Try.prog Try.f6 false true false false) := by
  refine returnsInHanded_of_change (C := Try.checked) own started (by kernel_rfl) Try.func6
    (ChangeSpec.witness6 (enc := enc) (C := Try.checked) false ⟨#[], #[.int .i64 0, .slice none 0 0, .slice none 0 0, .slice none 0 0], []⟩ 8 (by kernel_rfl) (by kernel_rfl) (by kernel_rfl) (by kernel_rfl)) ?_
  intro W base args ds gs before hval0 hW hcnd _
  have hval : ∀ (j : Nat) t v, Try.f6.params[j]? = some t → args[j]? = some v → Value.okWide Try.prog W .any base t v := hval0
  have hW' := hW
  obtain ⟨p, q, hA0, hV, rfl, hfz, hnd⟩ := hW
  have hA : DataW.TrodAll enc Try.prog W 0 (fun _ => true) true Try.f6.params.toList args.toList ds p := hA0
  rw [Try.params6] at hA hval
  obtain ⟨v0, vs0, d0, ds0, p0, q0, hargs, rfl, rfl, h0, r0⟩ := trodAll_cons hA
  obtain ⟨v1, vs1, d1, ds1, p1, q1, rfl, rfl, rfl, h1, r1⟩ := trodAll_cons r0
  obtain ⟨v2, vs2, d2, ds2, p2, q2, rfl, rfl, rfl, h2, r2⟩ := trodAll_cons r1
  obtain ⟨v3, vs3, d3, ds3, p3, q3, rfl, rfl, rfl, h3, r3⟩ := trodAll_cons r2
  obtain ⟨rfl, rfl, rfl⟩ := trodAll_nil r3
  obtain rfl : args = #[v0, v1, v2, v3] := by cases args; simp_all
  obtain ⟨rfl, rfl⟩ := trodVars_none hV
  have k0 := h0
  have lt0 : ∀ x ∈ p0, x.block < W.heap.size := by obtain ⟨m, hm⟩ := k0; exact DataW.trod_lt m _ _ _ hm
  have k1 := h1
  have lt1 : ∀ x ∈ p1, x.block < W.heap.size := by obtain ⟨m, hm⟩ := k1; exact DataW.trod_lt m _ _ _ hm
  have k2 := h2
  have lt2 : ∀ x ∈ p2, x.block < W.heap.size := by obtain ⟨m, hm⟩ := k2; exact DataW.trod_lt m _ _ _ hm
  have k3 := h3
  have lt3 : ∀ x ∈ p3, x.block < W.heap.size := by obtain ⟨m, hm⟩ := k3; exact DataW.trod_lt m _ _ _ hm
  obtain ⟨x0, rfl, b0⟩ := arg_int Try.underlying3 (hval 0 3 _ rfl rfl) h0
  obtain ⟨A1, n1, c1, xs1, rfl, R1⟩ := arg_claims (hval 1 22 _ rfl rfl) h1
  obtain ⟨A2, n2, c2, xs2, rfl, R2⟩ := arg_wishes (hval 2 23 _ rfl rfl) h2
  obtain ⟨A3, n3, c3, xs3, rfl, R3, b3, m3⟩ := arg_ints Try.underlying27 Try.underlying3 (by kernel_rfl) (hval 3 27 _ rfl rfl) h3
  clear hA0 hval0
  refine (assignBest_walk W x0 b0 A1 n1 c1 xs1 R1 A2 n2 c2 xs2 R2 A3 n3 c3 xs3 R3 b3 m3).mono fun e W' ⟨he, bel⟩ => ?_
  subst he
  exact ⟨_, rfl, _, _, _, [], _, [], hW', trodAll_mk1 (shut_bool Try.underlying4 _), (trodAll_cons_mk (Below.trod laidOut (by kernel_rfl) (of_decide_eq_true (by kernel_rfl)) k0 bel lt0) (trodAll_cons_mk (Below.trod laidOut (by kernel_rfl) (of_decide_eq_true (by kernel_rfl)) k1 bel lt1) (trodAll_cons_mk (Below.trod laidOut (by kernel_rfl) (of_decide_eq_true (by kernel_rfl)) k2 bel lt2) (trodAll_cons_mk (Below.trod laidOut (by kernel_rfl) (of_decide_eq_true (by kernel_rfl)) k3 bel lt3) trodAll_mk0)))), rfl, bel.frame _, fun h => by cases h⟩

theorem assignBest_over : Rows.assignBestRow.holds Try.pinned (OpenSpec.ofChange Rows.assignBestSpec) :=
  OpenClaim.holds_of_wide 6 Try.f6 rfl rfl rfl rfl rfl rfl rfl ⟨rfl, rfl, rfl, rfl, rfl⟩ rfl rfl rfl rfl rfl (by kernel_rfl) Try.func6 (by kernel_rfl)
    (of_decide_eq_true (by kernel_rfl)) (by unfold Func.isWrapper; first | (rw [if_pos (by decide +kernel)]; kernel_rfl) | (rw [if_neg (by decide +kernel)]; exact ⟨rfl, rfl⟩))
    (fun os started H enc _ => assignBest_lifted os started H enc)

theorem assignBest_holds : Rows.AssignBestSaid := assignBest_over
#print axioms assignBest_holds

end Go.Proofs.Yteckijkmcafpaaa
