/- AssignSolve: for every input the call returns true, and each argument reads afterwards as it read before. No conditions. -/
import Derived.Test.YteckijkmcafpaaaLaw39A
import Derived.Test.YteckijkmcafpaaaRSol39
namespace Go.Proofs.Yteckijkmcafpaaa
open Go.RowKit Go.ChangeShapes Go.WideShapes Go.ChangeAt

theorem solve_len (b : Int) (l : List Claim) (ws : List Wish) : (solveF b l ws).1.length ≤ l.length := by
  unfold solveF slotsOf
  split
  · rw [List.length_zipWith]; exact Nat.min_le_left _ _
  · simp

set_option maxHeartbeats 4000000 in
theorem assignSolve_walk (w : World) (b : Int) (_hb : I64 b) (A : Option Addr) (n c : Nat) (l : List Claim) (R : RowS 2 Claim.cell w w.heap.size A n l ∧ n ≤ 9223372036854775807) (B : Option Addr) (m d : Nat) (ws : List Wish) (Rb : RowS 3 Wish.cell w w.heap.size B m ws ∧ m ≤ 9223372036854775807) :
    Calls Try.prog 5 #[.int .i64 b, .slice A n c, .slice B m d] w fun e w' => e = .returned (.bool true) ∧ Below w.heap.size w w' := by
  have L0 := Lib.hid R.1
  have M0 := Lib.hid Rb.1
  have Hlen := Eqn.mk R.1.1
  have B0 : Hid (Below w.heap.size w w) := Lib.hid (Below.refl _ _)
  clear R Rb
  by_cases h1 : n ≤ 20
  · have d1 : ¬ (20 : Int) < (n : Int) := by omega
    by_cases h2 : m ≤ 100
    · have d2 : ¬ (100 : Int) < (m : Int) := by omega
      cases hf : fewF b n with
      | true =>
        have HFW := Eqn.mk hf
        have hlen : (solveF b l ws).1.length ≤ 20 := Nat.le_trans (solve_len b l ws) (by rw [Hlen.out]; omega)
        obtain ⟨x, hx⟩ : ∃ x, solveF b l ws = x := ⟨_, rfl⟩
        rw [hx] at hlen
        obtain ⟨xs, x1, x2⟩ := x
        have HX := Eqn.mk hx
        dsimp only at hlen
        have t1 : (x1 == x1) = true := by simp
        have t2 : (x2 == x2) = true := by simp
        clear hx hf
        go_enter Try.func5, Try.ntmps5
        go_wp2_with fail
        refine (few_any b A n c _ (by omega)).mono ?_
        rw [HFW.out]
        rintro e w5 ⟨rfl, rfl⟩
        go_wp2_with fail
        refine (psolve_any b A B n c m d _ l ws (by omega) (by omega) L0.out M0.out).mono ?_
        rw [HX.out]
        rintro e w1 ⟨X1, e1, rfl, hr1, hb1⟩
        have R1 := Lib.hid hr1
        have L1 := Lib.hid (L0.out.keep hb1)
        have M1 := Lib.hid (M0.out.keep hb1)
        have B1 : Hid (Below w.heap.size w w1) := Lib.hid (B0.out.trans (hb1.mono B0.out.size))
        clear hr1 hb1 L0 M0 B0
        go_wp2_with fail
        refine (rsolve_any b A B n c m d _ l ws (by omega) (by omega) L1.out M1.out).mono ?_
        rw [HX.out]
        rintro e w2 ⟨X2, e2, rfl, hr2, hb2⟩
        have R2 := Lib.hid hr2
        have R12 := Lib.hid (R1.out.keep hb2)
        have B2 : Hid (Below w.heap.size w w2) := Lib.hid (B1.out.trans (hb2.mono B1.out.size))
        clear hr2 hb2 L1 M1 B1 R1
        go_wp2_with fail
        refine (sameS_any X1 X2 _ e1 e2 _ _ xs (by omega) (by exact R12.out) (by exact R2.out)).mono ?_
        rintro e w3 ⟨rfl, hb3⟩
        have B3 : Hid (Below w.heap.size w w3) := Lib.hid (B2.out.trans (hb3.mono B2.out.size))
        clear hb3
        go_wp2_with fail
        refine (known_any _).mono ?_
        rintro e wz ⟨rfl, hbz⟩
        have BZ := B3.out.trans (hbz.mono B3.out.size)
        clear hbz
        go_wp2_with fail
        go_ret
        exact ⟨rfl, BZ⟩
      | false =>
        have HFW := Eqn.mk hf
        clear hf
        go_enter Try.func5, Try.ntmps5
        go_wp2_with fail
        refine (few_any b A n c _ (by omega)).mono ?_
        rw [HFW.out]
        rintro e w5 ⟨rfl, rfl⟩
        go_wp2_with fail
        refine (known_any _).mono ?_
        rintro e wz ⟨rfl, hbz⟩
        have BZ := hbz
        clear hbz
        go_wp2_with fail
        go_ret
        exact ⟨rfl, BZ⟩
    · have d2 : (100 : Int) < (m : Int) := by omega
      go_enter Try.func5, Try.ntmps5
      go_wp2_with fail
      refine (known_any _).mono ?_
      rintro e wz ⟨rfl, hbz⟩
      have BZ := hbz
      clear hbz
      go_wp2_with fail
      go_ret
      exact ⟨rfl, BZ⟩
  · have d1 : (20 : Int) < (n : Int) := by omega
    go_enter Try.func5, Try.ntmps5
    go_wp2_with fail
    refine (known_any _).mono ?_
    rintro e wz ⟨rfl, hbz⟩
    have BZ := hbz
    clear hbz
    go_wp2_with fail
    go_ret
    exact ⟨rfl, BZ⟩

set_option maxRecDepth 100000 in
theorem assignSolve_lifted (os : Os) (started : os.Started) (H : Type) (enc : TypeId × Value → H) :
    ReturnsInHanded {} Try.checked os 5 .any (Rows.assignSolveSpec.pre6 enc Try.prog Try.f5 Rows.assignSolveRow.domain false) (Rows.assignSolveSpec.post enc Try.prog Try.f5 false true false false) := by
  refine returnsInHanded_of_change (C := Try.checked) own started (by kernel_rfl) Try.func5
    (ChangeSpec.witness6 (enc := enc) (C := Try.checked) false ⟨#[], #[.int .i64 0, .slice none 0 0, .slice none 0 0], []⟩ 8 (by kernel_rfl) (by kernel_rfl) (by kernel_rfl) (by kernel_rfl)) ?_
  intro W base args ds gs before hval0 hW hcnd _
  have hval : ∀ (j : Nat) t v, Try.f5.params[j]? = some t → args[j]? = some v → Value.okWide Try.prog W .any base t v := hval0
  have hW' := hW
  obtain ⟨p, q, hA0, hV, rfl, hfz, hnd⟩ := hW
  have hA : DataW.TrodAll enc Try.prog W 0 (fun _ => true) true Try.f5.params.toList args.toList ds p := hA0
  rw [Try.params5] at hA hval
  obtain ⟨v0, vs0, d0, ds0, p0, q0, hargs, rfl, rfl, h0, r0⟩ := trodAll_cons hA
  obtain ⟨v1, vs1, d1, ds1, p1, q1, rfl, rfl, rfl, h1, r1⟩ := trodAll_cons r0
  obtain ⟨v2, vs2, d2, ds2, p2, q2, rfl, rfl, rfl, h2, r2⟩ := trodAll_cons r1
  obtain ⟨rfl, rfl, rfl⟩ := trodAll_nil r2
  obtain rfl : args = #[v0, v1, v2] := by cases args; simp_all
  obtain ⟨rfl, rfl⟩ := trodVars_none hV
  have k0 := h0
  have lt0 : ∀ x ∈ p0, x.block < W.heap.size := by obtain ⟨m, hm⟩ := k0; exact DataW.trod_lt m _ _ _ hm
  have k1 := h1
  have lt1 : ∀ x ∈ p1, x.block < W.heap.size := by obtain ⟨m, hm⟩ := k1; exact DataW.trod_lt m _ _ _ hm
  have k2 := h2
  have lt2 : ∀ x ∈ p2, x.block < W.heap.size := by obtain ⟨m, hm⟩ := k2; exact DataW.trod_lt m _ _ _ hm
  obtain ⟨x0, rfl, b0⟩ := arg_int Try.underlying3 (hval 0 3 _ rfl rfl) h0
  obtain ⟨A1, n1, c1, xs1, rfl, R1⟩ := arg_claims (hval 1 22 _ rfl rfl) h1
  obtain ⟨A2, n2, c2, xs2, rfl, R2⟩ := arg_wishes (hval 2 23 _ rfl rfl) h2
  clear hA0 hval0
  refine (assignSolve_walk W x0 b0 A1 n1 c1 xs1 R1 A2 n2 c2 xs2 R2).mono fun e W' ⟨he, bel⟩ => ?_
  subst he
  exact ⟨_, rfl, _, _, _, [], _, [], hW', trodAll_mk1 (shut_bool Try.underlying4 _), (trodAll_cons_mk (Below.trod laidOut (by kernel_rfl) (of_decide_eq_true (by kernel_rfl)) k0 bel lt0) (trodAll_cons_mk (Below.trod laidOut (by kernel_rfl) (of_decide_eq_true (by kernel_rfl)) k1 bel lt1) (trodAll_cons_mk (Below.trod laidOut (by kernel_rfl) (of_decide_eq_true (by kernel_rfl)) k2 bel lt2) trodAll_mk0))), rfl, bel.frame _, fun h => by cases h⟩

theorem assignSolve_over : Rows.assignSolveRow.holds Try.pinned (OpenSpec.ofChange Rows.assignSolveSpec) :=
  OpenClaim.holds_of_wide 5 Try.f5 rfl rfl rfl rfl rfl rfl rfl ⟨rfl, rfl, rfl, rfl, rfl⟩ rfl rfl rfl rfl rfl (by kernel_rfl) Try.func5 (by kernel_rfl)
    (of_decide_eq_true (by kernel_rfl)) (by unfold Func.isWrapper; first | (rw [if_pos (by decide +kernel)]; kernel_rfl) | (rw [if_neg (by decide +kernel)]; exact ⟨rfl, rfl⟩))
    (fun os started H enc _ => assignSolve_lifted os started H enc)

theorem assignSolve_holds : Rows.AssignSolveSaid := assignSolve_over
#print axioms assignSolve_holds
end Go.Proofs.Yteckijkmcafpaaa
