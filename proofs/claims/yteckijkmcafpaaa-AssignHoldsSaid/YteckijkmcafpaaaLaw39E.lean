/- AssignStarts: for every input the call returns true, and each argument reads afterwards as it read before. No conditions. -/
import Derived.Test.YteckijkmcafpaaaLaw39A
import Derived.Test.YteckijkmcafpaaaRSt39
namespace Go.Proofs.Yteckijkmcafpaaa
open Go.RowKit Go.ChangeShapes Go.WideShapes Go.ChangeAt Go.Deep Go.Joins

section
variable {H : Type} {enc : TypeId × Value → H} {w : World} {base b0 : Nat} {spare : Nat → Bool} {held : Bool} {r : Reach}
theorem arg_claimsC {v : Value} {d : DataW H} {p : List MemPlace} (hv : Value.okWide Try.prog w r b0 22 v) (h : DataW.Trod enc Try.prog w base spare held 22 v d p) :
    ∃ A n c xs, v = .slice A n c ∧ RowS 2 Claim.cell w w.heap.size A n xs ∧ n ≤ c ∧ c ≤ 9223372036854775807 := by
  obtain ⟨A, n, c, xs, rfl, h1, _⟩ := arg_claims hv h
  refine ⟨A, n, c, xs, rfl, h1, ?_⟩
  obtain ⟨fuel, hf⟩ := h
  rcases DataW.trod_slice Try.underlying22 (by simpa [Value.cells] using hf) with ⟨hcs, _⟩ | ⟨a, len, cap, elems, rest, m, _, hcs, _, _, hl, hm, _⟩
  · simp at hcs
    obtain ⟨_, rfl, rfl⟩ := hcs
    exact ⟨Nat.le_refl _, by omega⟩
  · simp at hcs
    obtain ⟨_, rfl, rfl⟩ := hcs
    exact ⟨hl, by unfold maxLen at hm; omega⟩
end

theorem starts_len (b : Int) (l : List Claim) (x : Int) : (startsF b l x).1.length ≤ 1000 := by
  unfold startsF
  split
  · rename_i hv
    have h := validF_all hv
    split
    · simp
    · exact Nat.le_trans (startsL_len _ _ _ _ _) (by omega)
  · simp

set_option maxHeartbeats 4000000 in
theorem assignStarts_walk (w : World) (b : Int) (_hb : I64 b) (A : Option Addr) (n c : Nat) (l : List Claim) (R : RowS 2 Claim.cell w w.heap.size A n l ∧ n ≤ c ∧ c ≤ 9223372036854775807) (x : Int) (_hx : I64 x) :
    Calls Try.prog 4 #[.int .i64 b, .slice A n c, .int .i64 x] w fun e w' => e = .returned (.bool true) ∧ Below w.heap.size w w' := by
  have L0 := Lib.hid R.1
  have hnc := R.2.1
  have hcm := R.2.2
  have B0 : Hid (Below w.heap.size w w) := Lib.hid (Below.refl _ _)
  clear R
  by_cases h1 : n ≤ 20
  · have d1 : ¬ (20 : Int) < (n : Int) := by omega
    cases hf : fewF b n with
    | true =>
      have HFW := Eqn.mk hf
      have hlen := starts_len b l x
      obtain ⟨y, hy⟩ : ∃ y, startsF b l x = y := ⟨_, rfl⟩
      rw [hy] at hlen
      obtain ⟨xs, x1⟩ := y
      have HX := Eqn.mk hy
      dsimp only at hlen
      have t1 : (x1 == x1) = true := by simp
      clear hy hf
      go_enter Try.func4, Try.ntmps4
      go_wp2_with fail
      refine (few_any b A n c _ (by omega)).mono ?_
      rw [HFW.out]
      rintro e w5 ⟨rfl, rfl⟩
      go_wp2_with fail
      refine (starts_any b x A n c _ l (by omega) L0.out).mono ?_
      rw [HX.out]
      rintro e w1 ⟨v1, rfl, hr1, hb1⟩
      obtain ⟨X1, e1, rfl, hq1⟩ := row1_of_own hr1
      have R1 := Lib.hid hq1
      have L1 := Lib.hid (L0.out.keep hb1)
      have B1 : Hid (Below w.heap.size w w1) := Lib.hid (B0.out.trans (hb1.mono B0.out.size))
      clear hr1 hq1 hb1 L0 B0
      go_wp2_with fail
      refine (rstarts_any b x A n c _ l (by omega) hnc hcm L1.out).mono ?_
      rw [HX.out]
      rintro e w2 ⟨v2, rfl, hr2, hb2⟩
      obtain ⟨X2, e2, rfl, hq2⟩ := row1_of_own hr2
      have R2 := Lib.hid hq2
      have R12 := Lib.hid (R1.out.keep hb2)
      have B2 : Hid (Below w.heap.size w w2) := Lib.hid (B1.out.trans (hb2.mono B1.out.size))
      clear hr2 hq2 hb2 L1 B1 R1
      go_wp2_with fail
      refine (sameI_any X1 X2 _ e1 e2 _ _ xs hlen (by exact R12.out) (by exact R2.out)).mono ?_
      rintro e w3 ⟨rfl, hb3⟩
      have B3 : Hid (Below w.heap.size w w3) := Lib.hid (B2.out.trans (hb3.mono B2.out.size))
      clear hb3
      go_wp2_with fail
      refine (known_any _).mono ?_
      rintro e wz ⟨rfl, hbz⟩
      have BZ := B3.out.trans (hbz.mono B3.out.size)
      clear hbz
      go_wp2_with fail
      go_ret
      exact ⟨rfl, BZ⟩
    | false =>
      have HFW := Eqn.mk hf
      clear hf
      go_enter Try.func4, Try.ntmps4
      go_wp2_with fail
      refine (few_any b A n c _ (by omega)).mono ?_
      rw [HFW.out]
      rintro e w5 ⟨rfl, rfl⟩
      go_wp2_with fail
      refine (known_any _).mono ?_
      rintro e wz ⟨rfl, hbz⟩
      have BZ := hbz
      clear hbz
      go_wp2_with fail
      go_ret
      exact ⟨rfl, BZ⟩
  · have d1 : (20 : Int) < (n : Int) := by omega
    go_enter Try.func4, Try.ntmps4
    go_wp2_with fail
    refine (known_any _).mono ?_
    rintro e wz ⟨rfl, hbz⟩
    have BZ := hbz
    clear hbz
    go_wp2_with fail
    go_ret
    exact ⟨rfl, BZ⟩

set_option maxRecDepth 100000 in
theorem assignStarts_lifted (os : Os) (started : os.Started) (H : Type) (enc : TypeId × Value → H) :
    ReturnsInHanded {} Try.checked os 4 .any (Rows.assignStartsSpec.pre6 enc Try.prog Try.f4 Rows.assignStartsRow.domain false) (Rows.assignStartsSpec.post enc Try.prog Try.f4 false true false false) := by
  refine returnsInHanded_of_change (C := Try.checked) own started (by kernel_rfl) Try.func4
    (ChangeSpec.witness6 (enc := enc) (C := Try.checked) false ⟨#[], #[.int .i64 0, .slice none 0 0, .int .i64 0], []⟩ 8 (by kernel_rfl) (by kernel_rfl) (by kernel_rfl) (by kernel_rfl)) ?_
  intro W base args ds gs before hval0 hW hcnd _
  have hval : ∀ (j : Nat) t v, Try.f4.params[j]? = some t → args[j]? = some v → Value.okWide Try.prog W .any base t v := hval0
  have hW' := hW
  obtain ⟨p, q, hA0, hV, rfl, hfz, hnd⟩ := hW
  have hA : DataW.TrodAll enc Try.prog W 0 (fun _ => true) true Try.f4.params.toList args.toList ds p := hA0
  rw [Try.params4] at hA hval
  obtain ⟨v0, vs0, d0, ds0, p0, q0, hargs, rfl, rfl, h0, r0⟩ := trodAll_cons hA
  obtain ⟨v1, vs1, d1, ds1, p1, q1, rfl, rfl, rfl, h1, r1⟩ := trodAll_cons r0
  obtain ⟨v2, vs2, d2, ds2, p2, q2, rfl, rfl, rfl, h2, r2⟩ := trodAll_cons r1
  obtain ⟨rfl, rfl, rfl⟩ := trodAll_nil r2
  obtain rfl : args = #[v0, v1, v2] := by cases args; simp_all
  obtain ⟨rfl, rfl⟩ := trodVars_none hV
  have k0 := h0
  have lt0 : ∀ x ∈ p0, x.block < W.heap.size := by obtain ⟨m, hm⟩ := k0; exact DataW.trod_lt m _ _ _ hm
  have k1 := h1
  have lt1 : ∀ x ∈ p1, x.block < W.heap.size := by obtain ⟨m, hm⟩ := k1; exact DataW.trod_lt m _ _ _ hm
  have k2 := h2
  have lt2 : ∀ x ∈ p2, x.block < W.heap.size := by obtain ⟨m, hm⟩ := k2; exact DataW.trod_lt m _ _ _ hm
  obtain ⟨x0, rfl, b0⟩ := arg_int Try.underlying3 (hval 0 3 _ rfl rfl) h0
  obtain ⟨A1, n1, c1, xs1, rfl, R1⟩ := arg_claimsC (hval 1 22 _ rfl rfl) h1
  obtain ⟨x2, rfl, b2⟩ := arg_int Try.underlying3 (hval 2 3 _ rfl rfl) h2
  clear hA0 hval0
  refine (assignStarts_walk W x0 b0 A1 n1 c1 xs1 R1 x2 b2).mono fun e W' ⟨he, bel⟩ => ?_
  subst he
  exact ⟨_, rfl, _, _, _, [], _, [], hW', trodAll_mk1 (shut_bool Try.underlying4 _), (trodAll_cons_mk (Below.trod laidOut (by kernel_rfl) (of_decide_eq_true (by kernel_rfl)) k0 bel lt0) (trodAll_cons_mk (Below.trod laidOut (by kernel_rfl) (of_decide_eq_true (by kernel_rfl)) k1 bel lt1) (trodAll_cons_mk (Below.trod laidOut (by kernel_rfl) (of_decide_eq_true (by kernel_rfl)) k2 bel lt2) trodAll_mk0))), rfl, bel.frame _, fun h => by cases h⟩

theorem assignStarts_over : Rows.assignStartsRow.holds Try.pinned (OpenSpec.ofChange Rows.assignStartsSpec) :=
  OpenClaim.holds_of_wide 4 Try.f4 rfl rfl rfl rfl rfl rfl rfl ⟨rfl, rfl, rfl, rfl, rfl⟩ rfl rfl rfl rfl rfl (by kernel_rfl) Try.func4 (by kernel_rfl)
    (of_decide_eq_true (by kernel_rfl)) (by unfold Func.isWrapper; first | (rw [if_pos (by decide +kernel)]; kernel_rfl) | (rw [if_neg (by decide +kernel)]; exact ⟨rfl, rfl⟩))
    (fun os started H enc _ => assignStarts_lifted os started H enc)

theorem assignStarts_holds : Rows.AssignStartsSaid := assignStarts_over
#print axioms assignStarts_holds
end Go.Proofs.Yteckijkmcafpaaa
