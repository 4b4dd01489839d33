/- DemandValid, DemandUnits, DemandBidders, DemandExcess, DemandChange, DemandCarry, DemandBids: for every input the call returns true, and each argument reads afterwards as it read before. No conditions. -/
import Derived.Test.YtoafkphcfhbnmaaRows
import Derived.Test.YtoafkphcfhbnmaaOpenP
import Derived.Test.YtoafkphcfhbnmaaKnown34
import Derived.Test.YtoafkphcfhbnmaaRChange
import Derived.Test.YtoafkphcfhbnmaaRCarry
namespace Go.Proofs.Ytoafkphcfhbnmaa
open Go.RowKit Go.ChangeShapes Go.WideShapes Go.ChangeAt

theorem own : ownKnob Try.prog.godebug = none := by kernel_rfl
theorem laidOut : laidOutB Try.prog = true := by kernel_rfl

def fewB (n m q : Nat) : Bool := decide (n ≤ 140) && decide (m ≤ 140) && decide (q ≤ 140)
theorem few_any (A B Q : Option Addr) (n c m d q e : Nat) (w : World) :
    Calls Try.prog 11 #[.slice A n c, .slice B m d, .slice Q q e] w fun e w' => e = .returned (.bool (fewB n m q)) ∧ w = w' := by
  by_cases h1 : n ≤ 140
  · have g1 : (n : Int) ≤ 140 := by omega
    by_cases h2 : m ≤ 140
    · have g2 : (m : Int) ≤ 140 := by omega
      by_cases h3 : q ≤ 140
      · have g3 : (q : Int) ≤ 140 := by omega
        have HF : Eqn (fewB n m q) true := by simp [fewB, Eqn, h1, h2, h3]
        go_enter Try.func11, Try.ntmps11
        go_wp2
        go_ret
        exact ⟨ret_bool (by rw [HF.out]), rfl⟩
      · have g3 : ¬ (q : Int) ≤ 140 := by omega
        have HF : Eqn (fewB n m q) false := by simp [fewB, Eqn, h3]
        go_enter Try.func11, Try.ntmps11
        go_wp2
        go_ret
        exact ⟨ret_bool (by rw [HF.out]), rfl⟩
    · have g2 : ¬ (m : Int) ≤ 140 := by omega
      have HF : Eqn (fewB n m q) false := by simp [fewB, Eqn, h2]
      go_enter Try.func11, Try.ntmps11
      go_wp2
      go_ret
      exact ⟨ret_bool (by rw [HF.out]), rfl⟩
  · have g1 : ¬ (n : Int) ≤ 140 := by omega
    have HF : Eqn (fewB n m q) false := by simp [fewB, Eqn, h1]
    go_enter Try.func11, Try.ntmps11
    go_wp2
    go_ret
    exact ⟨ret_bool (by rw [HF.out]), rfl⟩

theorem fewB_true {n m q : Nat} (h : fewB n m q = true) : n ≤ 140 ∧ m ≤ 140 ∧ q ≤ 140 := by
  simp only [fewB, Bool.and_eq_true, decide_eq_true_eq] at h; omega

set_option maxRecDepth 100000 in
set_option maxHeartbeats 2000000 in
theorem demandValid_walk (w : World) (A : Option Addr) (n c : Nat) (l : List Prod) (R : RowS 5 Prod.cell w w.heap.size A n l ∧ n ≤ 9223372036854775807) (B : Option Addr) (m d : Nat) (bs : List Int) (Rb : Row1 (fun z => .int .i64 z) w w.heap.size B m bs) (_ : ∀ z ∈ bs, I64 z) (_ : m ≤ 9223372036854775807) :
    Calls Try.prog 3 #[.slice A n c, .slice B m d] w fun e w' => e = .returned (.bool true) ∧ Below w.heap.size w w' := by
  obtain ⟨hl, hnn⟩ := R
  have Hl := Lib.hid hl
  have Hb : Hid (Row1 intV w w.heap.size B m bs) := Rb
  clear hl Rb
  have B0 : Hid (Below w.heap.size w w) := Below.refl _ _
  cases hf : fewB n m 0 with
  | false =>
    have HFW := Eqn.mk hf
    clear hf
    go_enter Try.func3, Try.ntmps3
    go_wp2_with fail
    refine (few_any A B none n c m d 0 0 _).mono ?_
    rw [HFW.out]
    rintro e w' ⟨rfl, rfl⟩
    go_wp2_with fail
    refine (known_any _).mono ?_
    rintro e wk ⟨rfl, hbk⟩
    go_wp2
    go_ret
    exact ⟨rfl, hbk⟩
  | true =>
    have HFW := Eqn.mk hf
    obtain ⟨hn1, hn2, hn3⟩ := fewB_true hf
    clear hf
    generalize hv : dValid l bs = vv
    have HV := Eqn.mk hv
    clear hv
    have t1 : (vv == vv) = true := by simp
    go_enter Try.func3, Try.ntmps3
    go_wp2_with fail
    refine (few_any A B none n c m d 0 0 _).mono ?_
    rw [HFW.out]
    rintro e w' ⟨rfl, rfl⟩
    go_wp2_with fail
    refine (dValid_any A B n c m d _ l bs hn1 Hl.out Hb.out).mono ?_
    rw [HV.out]
    rintro e w1 ⟨rfl, hb1⟩
    have B1 : Hid (Below w.heap.size w w1) := B0.out.trans (hb1.mono B0.out.size)
    clear hb1
    go_wp2_with fail
    refine (rdValid_any A B n c m d _ l bs hn1 (by exact Hl.out.keep B1.out) (by exact Hb.out.keep B1.out)).mono ?_
    rw [HV.out]
    rintro e w2 ⟨rfl, hb2⟩
    have B2 : Hid (Below w.heap.size w w2) := B1.out.trans (hb2.mono B1.out.size)
    clear hb2
    go_wp2_with fail
    refine (known_any _).mono ?_
    rintro e wk ⟨rfl, hbk⟩
    go_wp2
    go_ret
    exact ⟨rfl, B2.out.trans (hbk.mono B2.out.size)⟩

set_option maxRecDepth 100000 in
theorem demandValid_lifted (os : Os) (started : os.Started) (H : Type) (enc : TypeId × Value → H) :
    ReturnsInHanded {} Try.checked os 3 .any (Rows.demandValidSpec.pre6 enc Try.prog Try.f3 Rows.demandValidRow.domain false) (Rows.demandValidSpec.post enc Try.prog Try.f3 false true false false) := by
  refine returnsInHanded_of_change (C := Try.checked) own started (by kernel_rfl) Try.func3
    (ChangeSpec.witness6 (enc := enc) (C := Try.checked) false ⟨#[], #[.slice none 0 0, .slice none 0 0], []⟩ 8 (by kernel_rfl) (by kernel_rfl) (by kernel_rfl) (by kernel_rfl)) ?_
  intro W base args ds gs before hval0 hW hcnd _
  have hval : ∀ (j : Nat) t v, Try.f3.params[j]? = some t → args[j]? = some v → Value.okWide Try.prog W .any base t v := hval0
  have hW' := hW
  obtain ⟨p, q, hA0, hV, rfl, hfz, hnd⟩ := hW
  have hA : DataW.TrodAll enc Try.prog W 0 (fun _ => true) true Try.f3.params.toList args.toList ds p := hA0
  rw [Try.params3] at hA hval
  obtain ⟨v0, vs0, d0, ds0, p0, q0, hargs, rfl, rfl, h0, r0⟩ := trodAll_cons hA
  obtain ⟨v1, vs1, d1, ds1, p1, q1, rfl, rfl, rfl, h1, r1⟩ := trodAll_cons r0
  obtain ⟨rfl, rfl, rfl⟩ := trodAll_nil r1
  obtain rfl : args = #[v0, v1] := by cases args; simp_all
  obtain ⟨rfl, rfl⟩ := trodVars_none hV
  have k0 := h0
  have lt0 : ∀ x ∈ p0, x.block < W.heap.size := by obtain ⟨m, hm⟩ := k0; exact DataW.trod_lt m _ _ _ hm
  have k1 := h1
  have lt1 : ∀ x ∈ p1, x.block < W.heap.size := by obtain ⟨m, hm⟩ := k1; exact DataW.trod_lt m _ _ _ hm
  obtain ⟨A0, n0, c0, xs0, rfl, R0⟩ := arg_prods (hval 0 22 _ rfl rfl) h0
  obtain ⟨A1, n1, c1, xs1, rfl, R1, b1, m1⟩ := arg_ints Try.underlying23 Try.underlying3 (by kernel_rfl) (hval 1 23 _ rfl rfl) h1
  clear hA0 hval0
  refine (demandValid_walk W A0 n0 c0 xs0 R0 A1 n1 c1 xs1 R1 b1 m1).mono fun e W' ⟨he, bel⟩ => ?_
  subst he
  exact ⟨_, rfl, _, _, _, [], _, [], hW', trodAll_mk1 (shut_bool Try.underlying4 _), (trodAll_cons_mk (Below.trod laidOut (by kernel_rfl) (of_decide_eq_true (by kernel_rfl)) k0 bel lt0) (trodAll_cons_mk (Below.trod laidOut (by kernel_rfl) (of_decide_eq_true (by kernel_rfl)) k1 bel lt1) trodAll_mk0)), rfl, bel.frame _, fun h => by cases h⟩

theorem demandValid_over : Rows.demandValidRow.holds Try.pinned (OpenSpec.ofChange Rows.demandValidSpec) :=
  OpenClaim.holds_of_wide 3 Try.f3 rfl rfl rfl rfl rfl rfl rfl ⟨rfl, rfl, rfl, rfl, rfl⟩ rfl rfl rfl rfl rfl (by kernel_rfl) Try.func3 (by kernel_rfl)
    (of_decide_eq_true (by kernel_rfl)) (by unfold Func.isWrapper; first | (rw [if_pos (by decide +kernel)]; kernel_rfl) | (rw [if_neg (by decide +kernel)]; exact ⟨rfl, rfl⟩))
    (fun os started H enc _ => demandValid_lifted os started H enc)

theorem demandValid_holds : Rows.DemandValidSaid := demandValid_over
#print axioms demandValid_holds

set_option maxRecDepth 100000 in
set_option maxHeartbeats 2000000 in
theorem demandUnits_walk (w : World) (A : Option Addr) (n c : Nat) (l : List Prod) (R : RowS 5 Prod.cell w w.heap.size A n l ∧ n ≤ 9223372036854775807) (Q : Option Addr) (q e : Nat) (ps : List Int) (Rp : Row1 (fun z => .int .i64 z) w w.heap.size Q q ps) (_ : ∀ z ∈ ps, I64 z) (_ : q ≤ 9223372036854775807) (B : Option Addr) (m d : Nat) (bs : List Int) (Rb : Row1 (fun z => .int .i64 z) w w.heap.size B m bs) (_ : ∀ z ∈ bs, I64 z) (_ : m ≤ 9223372036854775807) :
    Calls Try.prog 4 #[.slice A n c, .slice Q q e, .slice B m d] w fun e w' => e = .returned (.bool true) ∧ Below w.heap.size w w' := by
  obtain ⟨hl, hnn⟩ := R
  have Hl := Lib.hid hl
  have Hb : Hid (Row1 intV w w.heap.size B m bs) := Rb
  have Hp : Hid (Row1 intV w w.heap.size Q q ps) := Rp
  clear hl Rb Rp
  have B0 : Hid (Below w.heap.size w w) := Below.refl _ _
  cases hf : fewB n q m with
  | false =>
    have HFW := Eqn.mk hf
    clear hf
    go_enter Try.func4, Try.ntmps4
    go_wp2_with fail
    refine (few_any A Q B n c q e m d _).mono ?_
    rw [HFW.out]
    rintro e w' ⟨rfl, rfl⟩
    go_wp2_with fail
    refine (known_any _).mono ?_
    rintro e wk ⟨rfl, hbk⟩
    go_wp2
    go_ret
    exact ⟨rfl, hbk⟩
  | true =>
    have HFW := Eqn.mk hf
    obtain ⟨hn1, hn2, hn3⟩ := fewB_true hf
    clear hf
    obtain ⟨u1, u2, hu⟩ : ∃ u1 u2, dUnits l bs = .tuple #[.int .i64 u1, .int .i64 u2] := by unfold dUnits; split <;> exact ⟨_, _, rfl⟩
    have HU := Eqn.mk hu
    clear hu
    generalize hc : costF l ps bs = cc
    obtain ⟨k1, k2⟩ := cc
    have HC : Eqn (v2' (costF l ps bs)) (.tuple #[.int .i64 k1, .int .i64 k2]) := by rw [hc]; rfl
    clear hc
    have tu1 : (u1 == u1) = true := by simp
    have tu2 : (u2 == u2) = true := by simp
    have tk1 : (k1 == k1) = true := by simp
    have tk2 : (k2 == k2) = true := by simp
    go_enter Try.func4, Try.ntmps4
    go_wp2_with fail
    refine (few_any A Q B n c q e m d _).mono ?_
    rw [HFW.out]
    rintro e w' ⟨rfl, rfl⟩
    go_wp2_with fail
    refine (dUnits_any A B n c m d _ l bs hn1 Hl.out Hb.out).mono ?_
    rw [HU.out]
    rintro e w1 ⟨rfl, hb1⟩
    have B1 : Hid (Below w.heap.size w w1) := B0.out.trans (hb1.mono B0.out.size)
    clear hb1
    go_wp2_with fail
    refine (rUnits_any A B n c m d _ l bs hn1 (by exact Hl.out.keep B1.out) (by exact Hb.out.keep B1.out)).mono ?_
    rw [HU.out]
    rintro e w2 ⟨rfl, hb2⟩
    have B2 : Hid (Below w.heap.size w w2) := B1.out.trans (hb2.mono B1.out.size)
    clear hb2
    go_wp2_with fail
    refine (cost_any A Q B n c m d q e _ l ps bs hn1 (by omega) (by exact Hl.out.keep B2.out) (by exact Hp.out.keep B2.out) (by exact Hb.out.keep B2.out)).mono ?_
    rw [HC.out]
    rintro e w3 ⟨rfl, hb3⟩
    have B3 : Hid (Below w.heap.size w w3) := B2.out.trans (hb3.mono B2.out.size)
    clear hb3
    go_wp2_with fail
    refine (rcost_any A Q B n c m d q e _ l ps bs hn1 (by omega) (by exact Hl.out.keep B3.out) (by exact Hp.out.keep B3.out) (by exact Hb.out.keep B3.out)).mono ?_
    rw [HC.out]
    rintro e w4 ⟨rfl, hb4⟩
    have B4 : Hid (Below w.heap.size w w4) := B3.out.trans (hb4.mono B3.out.size)
    clear hb4
    go_wp2_with fail
    refine (known_any _).mono ?_
    rintro e wk ⟨rfl, hbk⟩
    go_wp2
    go_ret
    exact ⟨rfl, B4.out.trans (hbk.mono B4.out.size)⟩

set_option maxRecDepth 100000 in
theorem demandUnits_lifted (os : Os) (started : os.Started) (H : Type) (enc : TypeId × Value → H) :
    ReturnsInHanded {} Try.checked os 4 .any (Rows.demandUnitsSpec.pre6 enc Try.prog Try.f4 Rows.demandUnitsRow.domain false) (Rows.demandUnitsSpec.post enc Try.prog Try.f4 false true false false) := by
  refine returnsInHanded_of_change (C := Try.checked) own started (by kernel_rfl) Try.func4
    (ChangeSpec.witness6 (enc := enc) (C := Try.checked) false ⟨#[], #[.slice none 0 0, .slice none 0 0, .slice none 0 0], []⟩ 8 (by kernel_rfl) (by kernel_rfl) (by kernel_rfl) (by kernel_rfl)) ?_
  intro W base args ds gs before hval0 hW hcnd _
  have hval : ∀ (j : Nat) t v, Try.f4.params[j]? = some t → args[j]? = some v → Value.okWide Try.prog W .any base t v := hval0
  have hW' := hW
  obtain ⟨p, q, hA0, hV, rfl, hfz, hnd⟩ := hW
  have hA : DataW.TrodAll enc Try.prog W 0 (fun _ => true) true Try.f4.params.toList args.toList ds p := hA0
  rw [Try.params4] at hA hval
  obtain ⟨v0, vs0, d0, ds0, p0, q0, hargs, rfl, rfl, h0, r0⟩ := trodAll_cons hA
  obtain ⟨v1, vs1, d1, ds1, p1, q1, rfl, rfl, rfl, h1, r1⟩ := trodAll_cons r0
  obtain ⟨v2, vs2, d2, ds2, p2, q2, rfl, rfl, rfl, h2, r2⟩ := trodAll_cons r1
  obtain ⟨rfl, rfl, rfl⟩ := trodAll_nil r2
  obtain rfl : args = #[v0, v1, v2] := by cases args; simp_all
  obtain ⟨rfl, rfl⟩ := trodVars_none hV
  have k0 := h0
  have lt0 : ∀ x ∈ p0, x.block < W.heap.size := by obtain ⟨m, hm⟩ := k0; exact DataW.trod_lt m _ _ _ hm
  have k1 := h1
  have lt1 : ∀ x ∈ p1, x.block < W.heap.size := by obtain ⟨m, hm⟩ := k1; exact DataW.trod_lt m _ _ _ hm
  have k2 := h2
  have lt2 : ∀ x ∈ p2, x.block < W.heap.size := by obtain ⟨m, hm⟩ := k2; exact DataW.trod_lt m _ _ _ hm
  obtain ⟨A0, n0, c0, xs0, rfl, R0⟩ := arg_prods (hval 0 22 _ rfl rfl) h0
  obtain ⟨A1, n1, c1, xs1, rfl, R1, b1, m1⟩ := arg_ints Try.underlying23 Try.underlying3 (by kernel_rfl) (hval 1 23 _ rfl rfl) h1
  obtain ⟨A2, n2, c2, xs2, rfl, R2, b2, m2⟩ := arg_ints Try.underlying23 Try.underlying3 (by kernel_rfl) (hval 2 23 _ rfl rfl) h2
  clear hA0 hval0
  refine (demandUnits_walk W A0 n0 c0 xs0 R0 A1 n1 c1 xs1 R1 b1 m1 A2 n2 c2 xs2 R2 b2 m2).mono fun e W' ⟨he, bel⟩ => ?_
  subst he
  exact ⟨_, rfl, _, _, _, [], _, [], hW', trodAll_mk1 (shut_bool Try.underlying4 _), (trodAll_cons_mk (Below.trod laidOut (by kernel_rfl) (of_decide_eq_true (by kernel_rfl)) k0 bel lt0) (trodAll_cons_mk (Below.trod laidOut (by kernel_rfl) (of_decide_eq_true (by kernel_rfl)) k1 bel lt1) (trodAll_cons_mk (Below.trod laidOut (by kernel_rfl) (of_decide_eq_true (by kernel_rfl)) k2 bel lt2) trodAll_mk0))), rfl, bel.frame _, fun h => by cases h⟩

theorem demandUnits_over : Rows.demandUnitsRow.holds Try.pinned (OpenSpec.ofChange Rows.demandUnitsSpec) :=
  OpenClaim.holds_of_wide 4 Try.f4 rfl rfl rfl rfl rfl rfl rfl ⟨rfl, rfl, rfl, rfl, rfl⟩ rfl rfl rfl rfl rfl (by kernel_rfl) Try.func4 (by kernel_rfl)
    (of_decide_eq_true (by kernel_rfl)) (by unfold Func.isWrapper; first | (rw [if_pos (by decide +kernel)]; kernel_rfl) | (rw [if_neg (by decide +kernel)]; exact ⟨rfl, rfl⟩))
    (fun os started H enc _ => demandUnits_lifted os started H enc)

theorem demandUnits_holds : Rows.DemandUnitsSaid := demandUnits_over
#print axioms demandUnits_holds

set_option maxRecDepth 100000 in
set_option maxHeartbeats 2000000 in
theorem demandBidders_walk (w : World) (A : Option Addr) (n c : Nat) (l : List Prod) (R : RowS 5 Prod.cell w w.heap.size A n l ∧ n ≤ 9223372036854775807) (B : Option Addr) (m d : Nat) (bs : List Bidr) (Rb : BidsAt w w.heap.size B m bs ∧ m ≤ 9223372036854775807) :
    Calls Try.prog 5 #[.slice A n c, .slice B m d] w fun e w' => e = .returned (.bool true) ∧ Below w.heap.size w w' := by
  obtain ⟨hl, hnn⟩ := R
  obtain ⟨hb, hmm⟩ := Rb
  have Hl := Lib.hid hl
  have Hb := Lib.hid hb
  have Hll := Eqn.mk hl.1
  clear hl hb
  have B0 : Hid (Below w.heap.size w w) := Below.refl _ _
  by_cases h1 : 140 < n
  · have d1 : (140 : Int) < (n : Int) := by omega
    go_enter Try.func5, Try.ntmps5
    go_wp2_with fail
    refine (known_any _).mono ?_
    rintro e wk ⟨rfl, hbk⟩
    go_wp2
    go_ret
    exact ⟨rfl, hbk⟩
  · by_cases h2 : 40 < m
    · have d1 : ¬ (140 : Int) < (n : Int) := by omega
      have d2 : (40 : Int) < (m : Int) := by omega
      go_enter Try.func5, Try.ntmps5
      go_wp2_with fail
      refine (known_any _).mono ?_
      rintro e wk ⟨rfl, hbk⟩
      go_wp2
      go_ret
      exact ⟨rfl, hbk⟩
    · have d1 : ¬ (140 : Int) < (n : Int) := by omega
      have d2 : ¬ (40 : Int) < (m : Int) := by omega
      have hn1 : n ≤ 140 := by omega
      have hm1 : m ≤ 140 := by omega
      have hlen : (totF l bs).1.length ≤ 1000 := by unfold totF; split; (rw [totS_len, Hll.out]; omega); simp
      generalize ht : totF l bs = tt at hlen
      obtain ⟨xs, er⟩ := tt
      have HT := Eqn.mk ht
      generalize hv : vBidders l bs = vv
      have HV := Eqn.mk hv
      clear ht hv
      have HS : Eqn (sameF xs xs) true := (sameF_iff xs xs).2 rfl
      have t1 : (vv == vv) = true := by simp
      have t2 : (er == er) = true := by simp
      dsimp only at hlen
      go_enter Try.func5, Try.ntmps5
      go_wp2_with fail
      refine (total_any A B n c m d _ l bs hn1 hm1 Hl.out Hb.out).mono ?_
      rw [HT.out]
      rintro e w1 ⟨v1, rfl, ho1, hb1⟩
      obtain ⟨A1, c1, rfl, hr1, _⟩ := own_form ho1
      have R1 := Lib.hid hr1
      clear ho1 hr1
      have B1 : Hid (Below w.heap.size w w1) := B0.out.trans (hb1.mono B0.out.size)
      clear hb1
      go_wp2_with fail
      refine (rtotal_any A B n c m d _ l bs hn1 hm1 (by exact Hl.out.keep B1.out) (by exact Hb.out.keep B1.out)).mono ?_
      rw [HT.out]
      rintro e w2 ⟨v2, rfl, ho2, hb2⟩
      obtain ⟨A2, c2, rfl, hr2, _⟩ := own_form ho2
      have R2 := Lib.hid hr2
      clear ho2 hr2
      have R1 := Lib.hid (R1.out.keep hb2)
      have B2 : Hid (Below w.heap.size w w2) := B1.out.trans (hb2.mono B1.out.size)
      clear hb2
      go_wp2_with fail
      refine (vBidders_any A B n c m d _ l bs hn1 (by omega) (by exact Hl.out.keep B2.out) (by exact Hb.out.keep B2.out)).mono ?_
      rw [HV.out]
      rintro e w3 ⟨rfl, hb3⟩
      have R1 := Lib.hid (R1.out.keep hb3)
      have R2 := Lib.hid (R2.out.keep hb3)
      have B3 : Hid (Below w.heap.size w w3) := B2.out.trans (hb3.mono B2.out.size)
      clear hb3
      go_wp2_with fail
      refine (rBidders_any A B n c m d _ l bs hn1 hm1 (by exact Hl.out.keep B3.out) (by exact Hb.out.keep B3.out)).mono ?_
      rw [HV.out]
      rintro e w4 ⟨rfl, hb4⟩
      have R1 := Lib.hid (R1.out.keep hb4)
      have R2 := Lib.hid (R2.out.keep hb4)
      have B4 : Hid (Below w.heap.size w w4) := B3.out.trans (hb4.mono B3.out.size)
      clear hb4
      go_wp2_with fail
      refine (same_any A1 A2 _ c1 _ c2 _ w4.heap.size xs xs hlen R1.out R2.out).mono ?_
      rw [HS.out]
      rintro e w5 ⟨rfl, hb5⟩
      have B5 : Hid (Below w.heap.size w w5) := B4.out.trans (hb5.mono B4.out.size)
      clear hb5
      go_wp2_with fail
      refine (known_any _).mono ?_
      rintro e wk ⟨rfl, hbk⟩
      go_wp2
      go_ret
      exact ⟨rfl, B5.out.trans (hbk.mono B5.out.size)⟩

set_option maxRecDepth 100000 in
theorem demandBidders_lifted (os : Os) (started : os.Started) (H : Type) (enc : TypeId × Value → H) :
    ReturnsInHanded {} Try.checked os 5 .any (Rows.demandBiddersSpec.pre6 enc Try.prog Try.f5 Rows.demandBiddersRow.domain false) (Rows.demandBiddersSpec.post enc Try.prog Try.f5 false true false false) := by
  refine returnsInHanded_of_change (C := Try.checked) own started (by kernel_rfl) Try.func5
    (ChangeSpec.witness6 (enc := enc) (C := Try.checked) false ⟨#[], #[.slice none 0 0, .slice none 0 0], []⟩ 8 (by kernel_rfl) (by kernel_rfl) (by kernel_rfl) (by kernel_rfl)) ?_
  intro W base args ds gs before hval0 hW hcnd _
  have hval : ∀ (j : Nat) t v, Try.f5.params[j]? = some t → args[j]? = some v → Value.okWide Try.prog W .any base t v := hval0
  have hW' := hW
  obtain ⟨p, q, hA0, hV, rfl, hfz, hnd⟩ := hW
  have hA : DataW.TrodAll enc Try.prog W 0 (fun _ => true) true Try.f5.params.toList args.toList ds p := hA0
  rw [Try.params5] at hA hval
  obtain ⟨v0, vs0, d0, ds0, p0, q0, hargs, rfl, rfl, h0, r0⟩ := trodAll_cons hA
  obtain ⟨v1, vs1, d1, ds1, p1, q1, rfl, rfl, rfl, h1, r1⟩ := trodAll_cons r0
  obtain ⟨rfl, rfl, rfl⟩ := trodAll_nil r1
  obtain rfl : args = #[v0, v1] := by cases args; simp_all
  obtain ⟨rfl, rfl⟩ := trodVars_none hV
  have k0 := h0
  have lt0 : ∀ x ∈ p0, x.block < W.heap.size := by obtain ⟨m, hm⟩ := k0; exact DataW.trod_lt m _ _ _ hm
  have k1 := h1
  have lt1 : ∀ x ∈ p1, x.block < W.heap.size := by obtain ⟨m, hm⟩ := k1; exact DataW.trod_lt m _ _ _ hm
  obtain ⟨A0, n0, c0, xs0, rfl, R0⟩ := arg_prods (hval 0 22 _ rfl rfl) h0
  obtain ⟨A1, n1, c1, xs1, rfl, R1⟩ := arg_bidrs (hval 1 34 _ rfl rfl) h1
  clear hA0 hval0
  refine (demandBidders_walk W A0 n0 c0 xs0 R0 A1 n1 c1 xs1 R1).mono fun e W' ⟨he, bel⟩ => ?_
  subst he
  exact ⟨_, rfl, _, _, _, [], _, [], hW', trodAll_mk1 (shut_bool Try.underlying4 _), (trodAll_cons_mk (Below.trod laidOut (by kernel_rfl) (of_decide_eq_true (by kernel_rfl)) k0 bel lt0) (trodAll_cons_mk (Below.trod laidOut (by kernel_rfl) (of_decide_eq_true (by kernel_rfl)) k1 bel lt1) trodAll_mk0)), rfl, bel.frame _, fun h => by cases h⟩

theorem demandBidders_over : Rows.demandBiddersRow.holds Try.pinned (OpenSpec.ofChange Rows.demandBiddersSpec) :=
  OpenClaim.holds_of_wide 5 Try.f5 rfl rfl rfl rfl rfl rfl rfl ⟨rfl, rfl, rfl, rfl, rfl⟩ rfl rfl rfl rfl rfl (by kernel_rfl) Try.func5 (by kernel_rfl)
    (of_decide_eq_true (by kernel_rfl)) (by unfold Func.isWrapper; first | (rw [if_pos (by decide +kernel)]; kernel_rfl) | (rw [if_neg (by decide +kernel)]; exact ⟨rfl, rfl⟩))
    (fun os started H enc _ => demandBidders_lifted os started H enc)

theorem demandBidders_holds : Rows.DemandBiddersSaid := demandBidders_over
#print axioms demandBidders_holds

set_option maxRecDepth 100000 in
set_option maxHeartbeats 2000000 in
theorem demandExcess_walk (w : World) (A : Option Addr) (n c : Nat) (l : List Prod) (R : RowS 5 Prod.cell w w.heap.size A n l ∧ n ≤ 9223372036854775807) (B : Option Addr) (m d : Nat) (bs : List Int) (Rb : Row1 (fun z => .int .i64 z) w w.heap.size B m bs) (_ : ∀ z ∈ bs, I64 z) (_ : m ≤ 9223372036854775807) :
    Calls Try.prog 6 #[.slice A n c, .slice B m d] w fun e w' => e = .returned (.bool true) ∧ Below w.heap.size w w' := by
  obtain ⟨hl, hnn⟩ := R
  have Hl := Lib.hid hl
  have Hb : Hid (Row1 intV w w.heap.size B m bs) := Rb
  have Hll := Eqn.mk hl.1
  clear hl Rb
  have B0 : Hid (Below w.heap.size w w) := Below.refl _ _
  cases hf : fewB n m 0 with
  | false =>
    have HFW := Eqn.mk hf
    clear hf
    go_enter Try.func6, Try.ntmps6
    go_wp2_with fail
    refine (few_any A B none n c m d 0 0 _).mono ?_
    rw [HFW.out]
    rintro e w' ⟨rfl, rfl⟩
    go_wp2_with fail
    refine (known_any _).mono ?_
    rintro e wk ⟨rfl, hbk⟩
    go_wp2
    go_ret
    exact ⟨rfl, hbk⟩
  | true =>
    have HFW := Eqn.mk hf
    obtain ⟨hn1, hn2, hn3⟩ := fewB_true hf
    clear hf
    have hlen : (excF l bs).1.length ≤ 1000 := by unfold excF; split; (rename_i h; rw [excL_len _ _ h.2.1, Hll.out]; omega); simp
    generalize ht : excF l bs = tt at hlen
    obtain ⟨xs, er⟩ := tt
    have HT := Eqn.mk ht
    clear ht
    have HS : Eqn (sameF xs xs) true := (sameF_iff xs xs).2 rfl
    have t2 : (er == er) = true := by simp
    dsimp only at hlen
    go_enter Try.func6, Try.ntmps6
    go_wp2_with fail
    refine (few_any A B none n c m d 0 0 _).mono ?_
    rw [HFW.out]
    rintro e w' ⟨rfl, rfl⟩
    go_wp2_with fail
    refine (excess_any A B n c m d _ l bs hn1 Hl.out Hb.out).mono ?_
    rw [HT.out]
    rintro e w1 ⟨v1, rfl, ho1, hb1⟩
    obtain ⟨A1, c1, rfl, hr1, _⟩ := own_form ho1
    have R1 := Lib.hid hr1
    clear ho1 hr1
    have B1 : Hid (Below w.heap.size w w1) := B0.out.trans (hb1.mono B0.out.size)
    clear hb1
    go_wp2_with fail
    refine (rexcess_any A B n c m d _ l bs hn1 (by exact Hl.out.keep B1.out) (by exact Hb.out.keep B1.out)).mono ?_
    rw [HT.out]
    rintro e w2 ⟨v2, rfl, ho2, hb2⟩
    obtain ⟨A2, c2, rfl, hr2, _⟩ := own_form ho2
    have R2 := Lib.hid hr2
    clear ho2 hr2
    have R1 := Lib.hid (R1.out.keep hb2)
    have B2 : Hid (Below w.heap.size w w2) := B1.out.trans (hb2.mono B1.out.size)
    clear hb2
    go_wp2_with fail
    refine (same_any A1 A2 _ c1 _ c2 _ w2.heap.size xs xs hlen R1.out R2.out).mono ?_
    rw [HS.out]
    rintro e w3 ⟨rfl, hb3⟩
    have B3 : Hid (Below w.heap.size w w3) := B2.out.trans (hb3.mono B2.out.size)
    clear hb3
    go_wp2_with fail
    refine (known_any _).mono ?_
    rintro e wk ⟨rfl, hbk⟩
    go_wp2
    go_ret
    exact ⟨rfl, B3.out.trans (hbk.mono B3.out.size)⟩

set_option maxRecDepth 100000 in
theorem demandExcess_lifted (os : Os) (started : os.Started) (H : Type) (enc : TypeId × Value → H) :
    ReturnsInHanded {} Try.checked os 6 .any (Rows.demandExcessSpec.pre6 enc Try.prog Try.f6 Rows.demandExcessRow.domain false) (Rows.demandExcessSpec.post enc Try.prog Try.f6 false true false false) := by
  refine returnsInHanded_of_change (C := Try.checked) own started (by kernel_rfl) Try.func6
    (ChangeSpec.witness6 (enc := enc) (C := Try.checked) false ⟨#[], #[.slice none 0 0, .slice none 0 0], []⟩ 8 (by kernel_rfl) (by kernel_rfl) (by kernel_rfl) (by kernel_rfl)) ?_
  intro W base args ds gs before hval0 hW hcnd _
  have hval : ∀ (j : Nat) t v, Try.f6.params[j]? = some t → args[j]? = some v → Value.okWide Try.prog W .any base t v := hval0
  have hW' := hW
  obtain ⟨p, q, hA0, hV, rfl, hfz, hnd⟩ := hW
  have hA : DataW.TrodAll enc Try.prog W 0 (fun _ => true) true Try.f6.params.toList args.toList ds p := hA0
  rw [Try.params6] at hA hval
  obtain ⟨v0, vs0, d0, ds0, p0, q0, hargs, rfl, rfl, h0, r0⟩ := trodAll_cons hA
  obtain ⟨v1, vs1, d1, ds1, p1, q1, rfl, rfl, rfl, h1, r1⟩ := trodAll_cons r0
  obtain ⟨rfl, rfl, rfl⟩ := trodAll_nil r1
  obtain rfl : args = #[v0, v1] := by cases args; simp_all
  obtain ⟨rfl, rfl⟩ := trodVars_none hV
  have k0 := h0
  have lt0 : ∀ x ∈ p0, x.block < W.heap.size := by obtain ⟨m, hm⟩ := k0; exact DataW.trod_lt m _ _ _ hm
  have k1 := h1
  have lt1 : ∀ x ∈ p1, x.block < W.heap.size := by obtain ⟨m, hm⟩ := k1; exact DataW.trod_lt m _ _ _ hm
  obtain ⟨A0, n0, c0, xs0, rfl, R0⟩ := arg_prods (hval 0 22 _ rfl rfl) h0
  obtain ⟨A1, n1, c1, xs1, rfl, R1, b1, m1⟩ := arg_ints Try.underlying23 Try.underlying3 (by kernel_rfl) (hval 1 23 _ rfl rfl) h1
  clear hA0 hval0
  refine (demandExcess_walk W A0 n0 c0 xs0 R0 A1 n1 c1 xs1 R1 b1 m1).mono fun e W' ⟨he, bel⟩ => ?_
  subst he
  exact ⟨_, rfl, _, _, _, [], _, [], hW', trodAll_mk1 (shut_bool Try.underlying4 _), (trodAll_cons_mk (Below.trod laidOut (by kernel_rfl) (of_decide_eq_true (by kernel_rfl)) k0 bel lt0) (trodAll_cons_mk (Below.trod laidOut (by kernel_rfl) (of_decide_eq_true (by kernel_rfl)) k1 bel lt1) trodAll_mk0)), rfl, bel.frame _, fun h => by cases h⟩

theorem demandExcess_over : Rows.demandExcessRow.holds Try.pinned (OpenSpec.ofChange Rows.demandExcessSpec) :=
  OpenClaim.holds_of_wide 6 Try.f6 rfl rfl rfl rfl rfl rfl rfl ⟨rfl, rfl, rfl, rfl, rfl⟩ rfl rfl rfl rfl rfl (by kernel_rfl) Try.func6 (by kernel_rfl)
    (of_decide_eq_true (by kernel_rfl)) (by unfold Func.isWrapper; first | (rw [if_pos (by decide +kernel)]; kernel_rfl) | (rw [if_neg (by decide +kernel)]; exact ⟨rfl, rfl⟩))
    (fun os started H enc _ => demandExcess_lifted os started H enc)

theorem demandExcess_holds : Rows.DemandExcessSaid := demandExcess_over
#print axioms demandExcess_holds

set_option maxRecDepth 100000 in
set_option maxHeartbeats 2000000 in
theorem demandCarry_walk (w : World) (A : Option Addr) (n c : Nat) (l : List Prod) (R : RowS 5 Prod.cell w w.heap.size A n l ∧ n ≤ 9223372036854775807) (T : Option Addr) (q e : Nat) (to : List Prod) (R2 : RowS 5 Prod.cell w w.heap.size T q to ∧ q ≤ 9223372036854775807) (B : Option Addr) (m d : Nat) (bs : List Int) (Rb : Row1 (fun z => .int .i64 z) w w.heap.size B m bs) (_ : ∀ z ∈ bs, I64 z) (_ : m ≤ 9223372036854775807) :
    Calls Try.prog 8 #[.slice A n c, .slice T q e, .slice B m d] w fun e w' => e = .returned (.bool true) ∧ Below w.heap.size w w' := by
  obtain ⟨hl, hnn⟩ := R
  obtain ⟨hl2, hqq⟩ := R2
  have Hl := Lib.hid hl
  have Ht := Lib.hid hl2
  have Hb : Hid (Row1 intV w w.heap.size B m bs) := Rb
  have Htl := Eqn.mk hl2.1
  clear hl hl2 Rb
  have B0 : Hid (Below w.heap.size w w) := Below.refl _ _
  cases hf : fewB n m 0 with
  | false =>
    have HFW := Eqn.mk hf
    clear hf
    go_enter Try.func8, Try.ntmps8
    go_wp2_with fail
    refine (few_any A B none n c m d 0 0 _).mono ?_
    rw [HFW.out]
    rintro e w' ⟨rfl, rfl⟩
    go_wp2_with fail
    refine (known_any _).mono ?_
    rintro e wk ⟨rfl, hbk⟩
    go_wp2
    go_ret
    exact ⟨rfl, hbk⟩
  | true =>
    have HFW := Eqn.mk hf
    obtain ⟨hn1, hn2, hn3⟩ := fewB_true hf
    clear hf
    by_cases hq : 140 < q
    · have d1 : (140 : Int) < (q : Int) := by omega
      go_enter Try.func8, Try.ntmps8
      go_wp2_with fail
      refine (few_any A B none n c m d 0 0 _).mono ?_
      rw [HFW.out]
      rintro e w' ⟨rfl, rfl⟩
      go_wp2_with fail
      refine (known_any _).mono ?_
      rintro e wk ⟨rfl, hbk⟩
      go_wp2
      go_ret
      exact ⟨rfl, hbk⟩
    · have d1 : ¬ (140 : Int) < (q : Int) := by omega
      have hlen : (carF l to bs).1.length ≤ 1000 := by unfold carF; split; (rw [List.length_map, Htl.out]; omega); simp
      generalize ht : carF l to bs = tt at hlen
      obtain ⟨xs, er⟩ := tt
      have HT := Eqn.mk ht
      clear ht
      have HS : Eqn (sameF xs xs) true := (sameF_iff xs xs).2 rfl
      have t2 : (er == er) = true := by simp
      dsimp only at hlen
      go_enter Try.func8, Try.ntmps8
      go_wp2_with fail
      refine (few_any A B none n c m d 0 0 _).mono ?_
      rw [HFW.out]
      rintro e w' ⟨rfl, rfl⟩
      go_wp2_with fail
      refine (carry_any A T B n c m d q e _ l to bs hn1 (by omega) Hl.out Ht.out Hb.out).mono ?_
      rw [HT.out]
      rintro e w1 ⟨v1, rfl, ho1, hb1⟩
      obtain ⟨A1, c1, rfl, hr1, _⟩ := own_form ho1
      have R1 := Lib.hid hr1
      clear ho1 hr1
      have B1 : Hid (Below w.heap.size w w1) := B0.out.trans (hb1.mono B0.out.size)
      clear hb1
      go_wp2_with fail
      refine (rcarry_any A T B n c m d q e _ l to bs hn1 (by omega) (by exact Hl.out.keep B1.out) (by exact Ht.out.keep B1.out) (by exact Hb.out.keep B1.out)).mono ?_
      rw [HT.out]
      rintro e w2 ⟨v2, rfl, ho2, hb2⟩
      obtain ⟨A2, c2, rfl, hr2, _⟩ := own_form ho2
      have R2 := Lib.hid hr2
      clear ho2 hr2
      have R1 := Lib.hid (R1.out.keep hb2)
      have B2 : Hid (Below w.heap.size w w2) := B1.out.trans (hb2.mono B1.out.size)
      clear hb2
      go_wp2_with fail
      refine (same_any A1 A2 _ c1 _ c2 _ w2.heap.size xs xs hlen R1.out R2.out).mono ?_
      rw [HS.out]
      rintro e w3 ⟨rfl, hb3⟩
      have B3 : Hid (Below w.heap.size w w3) := B2.out.trans (hb3.mono B2.out.size)
      clear hb3
      go_wp2_with fail
      refine (known_any _).mono ?_
      rintro e wk ⟨rfl, hbk⟩
      go_wp2
      go_ret
      exact ⟨rfl, B3.out.trans (hbk.mono B3.out.size)⟩

set_option maxRecDepth 100000 in
theorem demandCarry_lifted (os : Os) (started : os.Started) (H : Type) (enc : TypeId × Value → H) :
    ReturnsInHanded {} Try.checked os 8 .any (Rows.demandCarrySpec.pre6 enc Try.prog Try.f8 Rows.demandCarryRow.domain false) (Rows.demandCarrySpec.post enc Try.prog Try.f8 false true false false) := by
  refine returnsInHanded_of_change (C := Try.checked) own started (by kernel_rfl) Try.func8
    (ChangeSpec.witness6 (enc := enc) (C := Try.checked) false ⟨#[], #[.slice none 0 0, .slice none 0 0, .slice none 0 0], []⟩ 8 (by kernel_rfl) (by kernel_rfl) (by kernel_rfl) (by kernel_rfl)) ?_
  intro W base args ds gs before hval0 hW hcnd _
  have hval : ∀ (j : Nat) t v, Try.f8.params[j]? = some t → args[j]? = some v → Value.okWide Try.prog W .any base t v := hval0
  have hW' := hW
  obtain ⟨p, q, hA0, hV, rfl, hfz, hnd⟩ := hW
  have hA : DataW.TrodAll enc Try.prog W 0 (fun _ => true) true Try.f8.params.toList args.toList ds p := hA0
  rw [Try.params8] at hA hval
  obtain ⟨v0, vs0, d0, ds0, p0, q0, hargs, rfl, rfl, h0, r0⟩ := trodAll_cons hA
  obtain ⟨v1, vs1, d1, ds1, p1, q1, rfl, rfl, rfl, h1, r1⟩ := trodAll_cons r0
  obtain ⟨v2, vs2, d2, ds2, p2, q2, rfl, rfl, rfl, h2, r2⟩ := trodAll_cons r1
  obtain ⟨rfl, rfl, rfl⟩ := trodAll_nil r2
  obtain rfl : args = #[v0, v1, v2] := by cases args; simp_all
  obtain ⟨rfl, rfl⟩ := trodVars_none hV
  have k0 := h0
  have lt0 : ∀ x ∈ p0, x.block < W.heap.size := by obtain ⟨m, hm⟩ := k0; exact DataW.trod_lt m _ _ _ hm
  have k1 := h1
  have lt1 : ∀ x ∈ p1, x.block < W.heap.size := by obtain ⟨m, hm⟩ := k1; exact DataW.trod_lt m _ _ _ hm
  have k2 := h2
  have lt2 : ∀ x ∈ p2, x.block < W.heap.size := by obtain ⟨m, hm⟩ := k2; exact DataW.trod_lt m _ _ _ hm
  obtain ⟨A0, n0, c0, xs0, rfl, R0⟩ := arg_prods (hval 0 22 _ rfl rfl) h0
  obtain ⟨A1, n1, c1, xs1, rfl, R1⟩ := arg_prods (hval 1 22 _ rfl rfl) h1
  obtain ⟨A2, n2, c2, xs2, rfl, R2, b2, m2⟩ := arg_ints Try.underlying23 Try.underlying3 (by kernel_rfl) (hval 2 23 _ rfl rfl) h2
  clear hA0 hval0
  refine (demandCarry_walk W A0 n0 c0 xs0 R0 A1 n1 c1 xs1 R1 A2 n2 c2 xs2 R2 b2 m2).mono fun e W' ⟨he, bel⟩ => ?_
  subst he
  exact ⟨_, rfl, _, _, _, [], _, [], hW', trodAll_mk1 (shut_bool Try.underlying4 _), (trodAll_cons_mk (Below.trod laidOut (by kernel_rfl) (of_decide_eq_true (by kernel_rfl)) k0 bel lt0) (trodAll_cons_mk (Below.trod laidOut (by kernel_rfl) (of_decide_eq_true (by kernel_rfl)) k1 bel lt1) (trodAll_cons_mk (Below.trod laidOut (by kernel_rfl) (of_decide_eq_true (by kernel_rfl)) k2 bel lt2) trodAll_mk0))), rfl, bel.frame _, fun h => by cases h⟩

theorem demandCarry_over : Rows.demandCarryRow.holds Try.pinned (OpenSpec.ofChange Rows.demandCarrySpec) :=
  OpenClaim.holds_of_wide 8 Try.f8 rfl rfl rfl rfl rfl rfl rfl ⟨rfl, rfl, rfl, rfl, rfl⟩ rfl rfl rfl rfl rfl (by kernel_rfl) Try.func8 (by kernel_rfl)
    (of_decide_eq_true (by kernel_rfl)) (by unfold Func.isWrapper; first | (rw [if_pos (by decide +kernel)]; kernel_rfl) | (rw [if_neg (by decide +kernel)]; exact ⟨rfl, rfl⟩))
    (fun os started H enc _ => demandCarry_lifted os started H enc)

theorem demandCarry_holds : Rows.DemandCarrySaid := demandCarry_over
#print axioms demandCarry_holds

set_option maxRecDepth 100000 in
set_option maxHeartbeats 2000000 in
theorem demandChange_walk (w : World) (A : Option Addr) (n c : Nat) (l : List Prod) (R : RowS 5 Prod.cell w w.heap.size A n l ∧ n ≤ 9223372036854775807) (B : Option Addr) (m d : Nat) (bs : List Int) (Rb : Row1 (fun z => .int .i64 z) w w.heap.size B m bs) (_ : ∀ z ∈ bs, I64 z) (_ : m ≤ 9223372036854775807) (i : Int) (_ : I64 i) (ch : Int) (hch : I64 ch) :
    Calls Try.prog 7 #[.slice A n c, .slice B m d, .int .i64 i, .int .i64 ch] w fun e w' => e = .returned (.bool true) ∧ Below w.heap.size w w' := by
  obtain ⟨i0, hi0, hz0, hz1, hz2⟩ := info_parts int_info
  obtain ⟨hl, hnn⟩ := R
  have Hl := Lib.hid hl
  have Hb : Hid (Row1 intV w w.heap.size B m bs) := Rb
  have Hbl : Eqn bs.length m := Rb.1
  clear hl Rb
  cases hf : fewB n m 0 with
  | false =>
    have HFW := Eqn.mk hf
    clear hf
    go_enter Try.func7, Try.ntmps7
    go_wp2_with fail
    refine (few_any A B none n c m d 0 0 _).mono ?_
    rw [HFW.out]
    rintro e w' ⟨rfl, rfl⟩
    go_wp2_with fail
    refine (known_any _).mono ?_
    rintro e wk ⟨rfl, hbk⟩
    go_wp2
    go_ret
    exact ⟨rfl, hbk⟩
  | true =>
    have HFW := Eqn.mk hf
    obtain ⟨hn1, hn2, hn3⟩ := fewB_true hf
    clear hf
    have hlen : (chF l bs i ch).1.length ≤ 1000 := by unfold chF; split; (split; simp; (rw [List.length_set, Hbl.out]; omega)); simp
    generalize ht : chF l bs i ch = tt at hlen
    obtain ⟨xs, er⟩ := tt
    have HT := Eqn.mk ht
    clear ht
    have HS : Eqn (sameF xs xs) true := (sameF_iff xs xs).2 rfl
    have HS2 : Eqn (sameF bs bs) true := (sameF_iff bs bs).2 rfl
    have t2 : (er == er) = true := by simp
    dsimp only at hlen
    have hch' := Lib.hid hch
    clear hch
    go_enter Try.func7, Try.ntmps7
    go_wp2_with fail
    refine (few_any A B none n c m d 0 0 _).mono ?_
    rw [HFW.out]
    rintro e w' ⟨rfl, rfl⟩
    go_wp2_with (at_builtin; refine wpList_append_row rfl _ _ 23 rfl intV_one w.heap.size 3 i0 (.int .i64 0) 8 Try.underlying23 hi0 hz0 hz1 hz2 rfl _ 0 [] rfl (World.ownsRow_nil _ _ _ _) B m d bs w.heap.size rfl (by exact Hb.out) (by unfold maxLen; omega) (by omega) (by exact Nat.le_refl _) ?_; intro v w0 hown hgrow hat; rw [Nat.zero_add, List.nil_append] at hown; obtain ⟨A0, c0, rfl, hr0, _⟩ := own_form hown; have B0 : Hid (Below w.heap.size w w0) := (Below.refl _ _).grown hgrow (Nat.le_refl _) (fun g hg => by cases hg); have R0 := Lib.hid hr0; clear hown hgrow hat hr0)
    go_wp2_with fail
    refine (change_any A A0 n c m c0 i ch _ l bs hch'.out hn1 (by exact Hl.out.keep B0.out) (by exact R0.out)).mono ?_
    rw [HT.out]
    rintro e w1 ⟨v1, rfl, ho1, hb1⟩
    obtain ⟨A1, c1, rfl, hr1, _⟩ := own_form ho1
    have R1 := Lib.hid hr1
    clear ho1 hr1
    have R0 := Lib.hid (R0.out.keep hb1)
    have B1 : Hid (Below w.heap.size w w1) := B0.out.trans (hb1.mono B0.out.size)
    clear hb1
    go_wp2_with fail
    refine (rchange_any A B n c m d i ch _ l bs hch'.out hn1 (by exact Hl.out.keep B1.out) (by exact Hb.out.keep B1.out)).mono ?_
    rw [HT.out]
    rintro e w2 ⟨v2, rfl, ho2, hb2⟩
    obtain ⟨A2, c2, rfl, hr2, _⟩ := own_form ho2
    have R2 := Lib.hid hr2
    clear ho2 hr2
    have R1 := Lib.hid (R1.out.keep hb2)
    have R0 := Lib.hid (R0.out.keep hb2)
    have B2 : Hid (Below w.heap.size w w2) := B1.out.trans (hb2.mono B1.out.size)
    clear hb2
    go_wp2_with fail
    refine (same_any A1 A2 _ c1 _ c2 _ w2.heap.size xs xs hlen R1.out R2.out).mono ?_
    rw [HS.out]
    rintro e w3 ⟨rfl, hb3⟩
    have R0 := Lib.hid (R0.out.keep hb3)
    have B3 : Hid (Below w.heap.size w w3) := B2.out.trans (hb3.mono B2.out.size)
    clear hb3
    go_wp2_with fail
    refine (same_any A0 B _ c0 m d _ w3.heap.size bs bs (by omega) R0.out (by exact Hb.out.keep B3.out)).mono ?_
    rw [HS2.out]
    rintro e w4 ⟨rfl, hb4⟩
    have B4 : Hid (Below w.heap.size w w4) := B3.out.trans (hb4.mono B3.out.size)
    clear hb4
    go_wp2_with fail
    refine (known_any _).mono ?_
    rintro e wk ⟨rfl, hbk⟩
    go_wp2
    go_ret
    exact ⟨rfl, B4.out.trans (hbk.mono B4.out.size)⟩

set_option maxRecDepth 100000 in
theorem demandChange_lifted (os : Os) (started : os.Started) (H : Type) (enc : TypeId × Value → H) :
    ReturnsInHanded {} Try.checked os 7 .any (Rows.demandChangeSpec.pre6 enc Try.prog Try.f7 Rows.demandChangeRow.domain false) (Rows.demandChangeSpec.post enc Try.prog Try.f7 false true false false) := by
  refine returnsInHanded_of_change (C := Try.checked) own started (by kernel_rfl) Try.func7
    (ChangeSpec.witness6 (enc := enc) (C := Try.checked) false ⟨#[], #[.slice none 0 0, .slice none 0 0, .int .i64 0, .int .i64 0], []⟩ 8 (by kernel_rfl) (by kernel_rfl) (by kernel_rfl) (by kernel_rfl)) ?_
  intro W base args ds gs before hval0 hW hcnd _
  have hval : ∀ (j : Nat) t v, Try.f7.params[j]? = some t → args[j]? = some v → Value.okWide Try.prog W .any base t v := hval0
  have hW' := hW
  obtain ⟨p, q, hA0, hV, rfl, hfz, hnd⟩ := hW
  have hA : DataW.TrodAll enc Try.prog W 0 (fun _ => true) true Try.f7.params.toList args.toList ds p := hA0
  rw [Try.params7] at hA hval
  obtain ⟨v0, vs0, d0, ds0, p0, q0, hargs, rfl, rfl, h0, r0⟩ := trodAll_cons hA
  obtain ⟨v1, vs1, d1, ds1, p1, q1, rfl, rfl, rfl, h1, r1⟩ := trodAll_cons r0
  obtain ⟨v2, vs2, d2, ds2, p2, q2, rfl, rfl, rfl, h2, r2⟩ := trodAll_cons r1
  obtain ⟨v3, vs3, d3, ds3, p3, q3, rfl, rfl, rfl, h3, r3⟩ := trodAll_cons r2
  obtain ⟨rfl, rfl, rfl⟩ := trodAll_nil r3
  obtain rfl : args = #[v0, v1, v2, v3] := by cases args; simp_all
  obtain ⟨rfl, rfl⟩ := trodVars_none hV
  have k0 := h0
  have lt0 : ∀ x ∈ p0, x.block < W.heap.size := by obtain ⟨m, hm⟩ := k0; exact DataW.trod_lt m _ _ _ hm
  have k1 := h1
  have lt1 : ∀ x ∈ p1, x.block < W.heap.size := by obtain ⟨m, hm⟩ := k1; exact DataW.trod_lt m _ _ _ hm
  have k2 := h2
  have lt2 : ∀ x ∈ p2, x.block < W.heap.size := by obtain ⟨m, hm⟩ := k2; exact DataW.trod_lt m _ _ _ hm
  have k3 := h3
  have lt3 : ∀ x ∈ p3, x.block < W.heap.size := by obtain ⟨m, hm⟩ := k3; exact DataW.trod_lt m _ _ _ hm
  obtain ⟨A0, n0, c0, xs0, rfl, R0⟩ := arg_prods (hval 0 22 _ rfl rfl) h0
  obtain ⟨A1, n1, c1, xs1, rfl, R1, b1, m1⟩ := arg_ints Try.underlying23 Try.underlying3 (by kernel_rfl) (hval 1 23 _ rfl rfl) h1
  obtain ⟨x2, rfl, b2⟩ := arg_int Try.underlying3 (hval 2 3 _ rfl rfl) h2
  obtain ⟨x3, rfl, b3⟩ := arg_int Try.underlying3 (hval 3 3 _ rfl rfl) h3
  clear hA0 hval0
  refine (demandChange_walk W A0 n0 c0 xs0 R0 A1 n1 c1 xs1 R1 b1 m1 x2 b2 x3 b3).mono fun e W' ⟨he, bel⟩ => ?_
  subst he
  exact ⟨_, rfl, _, _, _, [], _, [], hW', trodAll_mk1 (shut_bool Try.underlying4 _), (trodAll_cons_mk (Below.trod laidOut (by kernel_rfl) (of_decide_eq_true (by kernel_rfl)) k0 bel lt0) (trodAll_cons_mk (Below.trod laidOut (by kernel_rfl) (of_decide_eq_true (by kernel_rfl)) k1 bel lt1) (trodAll_cons_mk (Below.trod laidOut (by kernel_rfl) (of_decide_eq_true (by kernel_rfl)) k2 bel lt2) (trodAll_cons_mk (Below.trod laidOut (by kernel_rfl) (of_decide_eq_true (by kernel_rfl)) k3 bel lt3) trodAll_mk0)))), rfl, bel.frame _, fun h => by cases h⟩

theorem demandChange_over : Rows.demandChangeRow.holds Try.pinned (OpenSpec.ofChange Rows.demandChangeSpec) :=
  OpenClaim.holds_of_wide 7 Try.f7 rfl rfl rfl rfl rfl rfl rfl ⟨rfl, rfl, rfl, rfl, rfl⟩ rfl rfl rfl rfl rfl (by kernel_rfl) Try.func7 (by kernel_rfl)
    (of_decide_eq_true (by kernel_rfl)) (by unfold Func.isWrapper; first | (rw [if_pos (by decide +kernel)]; kernel_rfl) | (rw [if_neg (by decide +kernel)]; exact ⟨rfl, rfl⟩))
    (fun os started H enc _ => demandChange_lifted os started H enc)

theorem demandChange_holds : Rows.DemandChangeSaid := demandChange_over
#print axioms demandChange_holds

end Go.Proofs.Ytoafkphcfhbnmaa
