/- AssignValue: for every input the call returns true, and each argument reads afterwards as it read before. No conditions. -/
import Derived.Test.YteckijkmcafpaaaOpen39
import Derived.Test.YteckijkmcafpaaaKnown39
import Derived.Test.YteckijkmcafpaaaVal239
namespace Go.Proofs.Yteckijkmcafpaaa
open Go.RowKit Go.ChangeShapes Go.WideShapes Go.ChangeAt

set_option maxHeartbeats 4000000 in
theorem assignValue_walk (w : World) (b : Int) (_hb : I64 b) (A : Option Addr) (n c : Nat) (l : List Claim) (R : RowS 2 Claim.cell w w.heap.size A n l ∧ n ≤ 9223372036854775807) (B : Option Addr) (m d : Nat) (ws : List Wish) (Rb : RowS 3 Wish.cell w w.heap.size B m ws ∧ m ≤ 9223372036854775807) (C : Option Addr) (k0 e0 : Nat) (sl : List Slot) (Rs : RowS 3 Slot.cell w w.heap.size C k0 sl ∧ k0 ≤ 9223372036854775807) (W : Option Addr) (p pc : Nat) (wn : List Int) (Rw : Row1 intV w w.heap.size W p wn) (_hwb : ∀ x ∈ wn, I64 x) (_hwm : p ≤ 9223372036854775807) :
    Calls Try.prog 9 #[.int .i64 b, .slice A n c, .slice B m d, .slice C k0 e0, .slice W p pc] w fun e w' => e = .returned (.bool true) ∧ Below w.heap.size w w' := by
  have L0 := Lib.hid R.1
  have M0 := Lib.hid Rb.1
  have S0 := Lib.hid Rs.1
  have P0 := Lib.hid Rw
  have B0 : Hid (Below w.heap.size w w) := Lib.hid (Below.refl _ _)
  clear R Rb Rs Rw _hwb
  by_cases h1 : n ≤ 20
  · have d1 : ¬ (20 : Int) < (n : Int) := by omega
    by_cases h2 : m ≤ 100
    · have d2 : ¬ (100 : Int) < (m : Int) := by omega
      by_cases h4 : k0 ≤ 20
      · have d4 : ¬ (20 : Int) < (k0 : Int) := by omega
        by_cases h3 : p ≤ 20
        · have d3 : ¬ (20 : Int) < (p : Int) := by omega
          obtain ⟨x, hx⟩ : ∃ x, valueF b l ws sl wn = x := ⟨_, rfl⟩
          obtain ⟨x1, x2⟩ := x
          have HX : Eqn (v2 (valueF b l ws sl wn)) (.tuple #[.int .i64 x1, .int .i64 x2]) := by rw [Eqn, hx]; rfl
          have t1 : (x1 == x1) = true := by simp
          have t2 : (x2 == x2) = true := by simp
          clear hx
          go_enter Try.func9, Try.ntmps9
          go_wp2_with fail
          refine (value_any b A B C W n c m d k0 e0 p pc _ l ws sl wn (by omega) (by omega) (by omega) (by omega) L0.out M0.out S0.out P0.out).mono ?_
          rw [HX.out]
          rintro e w1 ⟨rfl, hb1⟩
          have L1 := Lib.hid (L0.out.keep hb1)
          have M1 := Lib.hid (M0.out.keep hb1)
          have S1 := Lib.hid (S0.out.keep hb1)
          have P1 := Lib.hid (P0.out.keep hb1)
          have B1 : Hid (Below w.heap.size w w1) := Lib.hid (B0.out.trans (hb1.mono B0.out.size))
          clear hb1 L0 M0 S0 P0 B0
          go_wp2_with fail
          refine (rvalue_any b A B C W n c m d k0 e0 p pc _ l ws sl wn (by omega) (by omega) (by omega) (by omega) L1.out M1.out S1.out P1.out).mono ?_
          rw [HX.out]
          rintro e w2 ⟨rfl, hb2⟩
          have L2 := Lib.hid (L1.out.keep hb2)
          have M2 := Lib.hid (M1.out.keep hb2)
          have S2 := Lib.hid (S1.out.keep hb2)
          have P2 := Lib.hid (P1.out.keep hb2)
          have B2 : Hid (Below w.heap.size w w2) := Lib.hid (B1.out.trans (hb2.mono B1.out.size))
          clear hb2 L1 M1 S1 P1 B1
          go_wp2_with fail
          refine (known_any _).mono ?_
          rintro e wz ⟨rfl, hbz⟩
          have BZ := B2.out.trans (hbz.mono B2.out.size)
          clear hbz
          go_wp2_with fail
          go_ret
          exact ⟨rfl, BZ⟩
        · have d3 : (20 : Int) < (p : Int) := by omega
          go_enter Try.func9, Try.ntmps9
          go_wp2_with fail
          refine (known_any _).mono ?_
          rintro e wz ⟨rfl, hbz⟩
          have BZ := hbz
          clear hbz
          go_wp2_with fail
          go_ret
          exact ⟨rfl, BZ⟩
      · have d4 : (20 : Int) < (k0 : Int) := by omega
        go_enter Try.func9, Try.ntmps9
        go_wp2_with fail
        refine (known_any _).mono ?_
        rintro e wz ⟨rfl, hbz⟩
        have BZ := hbz
        clear hbz
        go_wp2_with fail
        go_ret
        exact ⟨rfl, BZ⟩
    · have d2 : (100 : Int) < (m : Int) := by omega
      go_enter Try.func9, Try.ntmps9
      go_wp2_with fail
      refine (known_any _).mono ?_
      rintro e wz ⟨rfl, hbz⟩
      have BZ := hbz
      clear hbz
      go_wp2_with fail
      go_ret
      exact ⟨rfl, BZ⟩
  · have d1 : (20 : Int) < (n : Int) := by omega
    go_enter Try.func9, Try.ntmps9
    go_wp2_with fail
    refine (known_any _).mono ?_
    rintro e wz ⟨rfl, hbz⟩
    have BZ := hbz
    clear hbz
    go_wp2_with fail
    go_ret
    exact ⟨rfl, BZ⟩

set_option maxRecDepth 100000 in
theorem assignValue_lifted (os : Os) (started : os.Started) (H : Type) (enc : TypeId × Value → H) :
    ReturnsInHanded {} Try.checked os 9 .any (Rows.assignValueSpec.pre6 enc Try.prog Try.f9 Rows.assignValueRow.domain false) (Rows.assignValueSpec.post enc Try.prog Try.f9 false true false false) := by
  refine returnsInHanded_of_change (C := Try.checked) own started (by kernel_rfl) Try.func9
    (ChangeSpec.witness6 (enc := enc) (C := Try.checked) false ⟨#[], #[.int .i64 0, .slice none 0 0, .slice none 0 0, .slice none 0 0, .slice none 0 0], []⟩ 8 (by kernel_rfl) (by kernel_rfl) (by kernel_rfl) (by kernel_rfl)) ?_
  intro W base args ds gs before hval0 hW hcnd _
  have hval : ∀ (j : Nat) t v, Try.f9.params[j]? = some t → args[j]? = some v → Value.okWide Try.prog W .any base t v := hval0
  have hW' := hW
  obtain ⟨p, q, hA0, hV, rfl, hfz, hnd⟩ := hW
  have hA : DataW.TrodAll enc Try.prog W 0 (fun _ => true) true Try.f9.params.toList args.toList ds p := hA0
  rw [Try.params9] at hA hval
  obtain ⟨v0, vs0, d0, ds0, p0, q0, hargs, rfl, rfl, h0, r0⟩ := trodAll_cons hA
  obtain ⟨v1, vs1, d1, ds1, p1, q1, rfl, rfl, rfl, h1, r1⟩ := trodAll_cons r0
  obtain ⟨v2, vs2, d2, ds2, p2, q2, rfl, rfl, rfl, h2, r2⟩ := trodAll_cons r1
  obtain ⟨v3, vs3, d3, ds3, p3, q3, rfl, rfl, rfl, h3, r3⟩ := trodAll_cons r2
  obtain ⟨v4, vs4, d4, ds4, p4, q4, rfl, rfl, rfl, h4, r4⟩ := trodAll_cons r3
  obtain ⟨rfl, rfl, rfl⟩ := trodAll_nil r4
  obtain rfl : args = #[v0, v1, v2, v3, v4] := by cases args; simp_all
  obtain ⟨rfl, rfl⟩ := trodVars_none hV
  have k0 := h0
  have lt0 : ∀ x ∈ p0, x.block < W.heap.size := by obtain ⟨m, hm⟩ := k0; exact DataW.trod_lt m _ _ _ hm
  have k1 := h1
  have lt1 : ∀ x ∈ p1, x.block < W.heap.size := by obtain ⟨m, hm⟩ := k1; exact DataW.trod_lt m _ _ _ hm
  have k2 := h2
  have lt2 : ∀ x ∈ p2, x.block < W.heap.size := by obtain ⟨m, hm⟩ := k2; exact DataW.trod_lt m _ _ _ hm
  have k3 := h3
  have lt3 : ∀ x ∈ p3, x.block < W.heap.size := by obtain ⟨m, hm⟩ := k3; exact DataW.trod_lt m _ _ _ hm
  have k4 := h4
  have lt4 : ∀ x ∈ p4, x.block < W.heap.size := by obtain ⟨m, hm⟩ := k4; exact DataW.trod_lt m _ _ _ hm
  obtain ⟨x0, rfl, b0⟩ := arg_int Try.underlying3 (hval 0 3 _ rfl rfl) h0
  obtain ⟨A1, n1, c1, xs1, rfl, R1⟩ := arg_claims (hval 1 22 _ rfl rfl) h1
  obtain ⟨A2, n2, c2, xs2, rfl, R2⟩ := arg_wishes (hval 2 23 _ rfl rfl) h2
  obtain ⟨A3, n3, c3, xs3, rfl, R3⟩ := arg_slots (hval 3 35 _ rfl rfl) h3
  obtain ⟨A4, n4, c4, xs4, rfl, R4, b4, m4⟩ := arg_ints Try.underlying27 Try.underlying3 (by kernel_rfl) (hval 4 27 _ rfl rfl) h4
  clear hA0 hval0
  refine (assignValue_walk W x0 b0 A1 n1 c1 xs1 R1 A2 n2 c2 xs2 R2 A3 n3 c3 xs3 R3 A4 n4 c4 xs4 R4 b4 m4).mono fun e W' ⟨he, bel⟩ => ?_
  subst he
  exact ⟨_, rfl, _, _, _, [], _, [], hW', trodAll_mk1 (shut_bool Try.underlying4 _), (trodAll_cons_mk (Below.trod laidOut (by kernel_rfl) (of_decide_eq_true (by kernel_rfl)) k0 bel lt0) (trodAll_cons_mk (Below.trod laidOut (by kernel_rfl) (of_decide_eq_true (by kernel_rfl)) k1 bel lt1) (trodAll_cons_mk (Below.trod laidOut (by kernel_rfl) (of_decide_eq_true (by kernel_rfl)) k2 bel lt2) (trodAll_cons_mk (Below.trod laidOut (by kernel_rfl) (of_decide_eq_true (by kernel_rfl)) k3 bel lt3) (trodAll_cons_mk (Below.trod laidOut (by kernel_rfl) (of_decide_eq_true (by kernel_rfl)) k4 bel lt4) trodAll_mk0))))), rfl, bel.frame _, fun h => by cases h⟩

theorem assignValue_over : Rows.assignValueRow.holds Try.pinned (OpenSpec.ofChange Rows.assignValueSpec) :=
  OpenClaim.holds_of_wide 9 Try.f9 rfl rfl rfl rfl rfl rfl rfl ⟨rfl, rfl, rfl, rfl, rfl⟩ rfl rfl rfl rfl rfl (by kernel_rfl) Try.func9 (by kernel_rfl)
    (of_decide_eq_true (by kernel_rfl)) (by unfold Func.isWrapper; first | (rw [if_pos (by decide +kernel)]; kernel_rfl) | (rw [if_neg (by decide +kernel)]; exact ⟨rfl, rfl⟩))
    (fun os started H enc _ => assignValue_lifted os started H enc)

theorem assignValue_holds : Rows.AssignValueSaid := assignValue_over
#print axioms assignValue_holds
end Go.Proofs.Yteckijkmcafpaaa
