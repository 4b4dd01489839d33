/- BandRanges, BandChannels: for every input the call returns true, and each argument reads afterwards as it read before. No conditions. -/
import Derived.Test.YtpdhelhngdeoeaaRows
import Derived.Test.YtpdhelhngdeoeaaOpen
import Derived.Test.YtpdhelhngdeoeaaKn26
namespace Go.Proofs.Ytpdhelhngdeoeaa
open Go.RowKit Go.ChangeShapes Go.WideShapes Go.ChangeAt

theorem own : ownKnob Try.prog.godebug = none := by kernel_rfl
theorem laidOut : laidOutB Try.prog = true := by kernel_rfl

set_option maxHeartbeats 2000000 in
theorem bandRanges_walk (w : World) (x0 : Int) (_ : I64 x0) (x1 : Int) (_ : I64 x1) :
    Calls Try.prog 3 #[.int .i64 x0, .int .i64 x1] w fun e w' => e = .returned (.bool true) ∧ Below w.heap.size w w' := by
  have HOR := Lib.hid (fun c w => ofRef_any c w)
  have HOP := Lib.hid (fun c w => of26_any c w)
  rcases (show x0 = 1 ∨ x0 = 2 ∨ x0 = 3 ∨ (x0 < 1 ∨ 3 < x0) by omega) with hn | hn | hn | hn
  · subst hn
    have R1 : Hid (∀ w, Calls Try.prog 7 #[.int .i64 1] w fun e w' => e = .returned (.tuple #[.int .i64 2, .int .i64 6, .int .i64 0]) ∧ w = w') := Lib.hid (fun w => by have := range_any 1 w; rw [show rngF 1 = (2, 6, 0) by decide] at this; exact this)
    have O0 : Hid (∀ w, Calls Try.prog 9 #[.int .i64 2] w fun e w' => e = .returned (.int .i64 1) ∧ w = w') := Lib.hid (fun w => by have := ofRef_any 2 w; rw [show ofB 2 = 1 by decide] at this; exact this)
    have O1 : Hid (∀ w, Calls Try.prog 9 #[.int .i64 6] w fun e w' => e = .returned (.int .i64 1) ∧ w = w') := Lib.hid (fun w => by have := ofRef_any 6 w; rw [show ofB 6 = 1 by decide] at this; exact this)
    have O2 : Hid (∀ w, Calls Try.prog 9 #[.int .i64 1] w fun e w' => e = .returned (.int .i64 0) ∧ w = w') := Lib.hid (fun w => by have := ofRef_any 1 w; rw [show ofB 1 = 0 by decide] at this; exact this)
    have O3 : Hid (∀ w, Calls Try.prog 9 #[.int .i64 7] w fun e w' => e = .returned (.int .i64 2) ∧ w = w') := Lib.hid (fun w => by have := ofRef_any 7 w; rw [show ofB 7 = 2 by decide] at this; exact this)
    go_enter Try.func3, Try.ntmps3
    go_wp2_with fail
    refine (R1.out _).mono ?_
    rintro e w' ⟨rfl, rfl⟩
    go_wp2_with fail
    refine (HOP.out _ _).mono ?_
    rintro e w' ⟨rfl, rfl⟩
    unfold v2
    go_wp2_with fail
    refine (O0.out _).mono ?_
    rintro e w' ⟨rfl, rfl⟩
    go_wp2_with fail
    refine (O1.out _).mono ?_
    rintro e w' ⟨rfl, rfl⟩
    go_wp2_with fail
    refine (O2.out _).mono ?_
    rintro e w' ⟨rfl, rfl⟩
    go_wp2_with fail
    refine (O3.out _).mono ?_
    rintro e w' ⟨rfl, rfl⟩
    go_wp2_with fail
    refine (HOR.out _ _).mono ?_
    rintro e w' ⟨rfl, rfl⟩
    by_cases h0 : ofB x1 = 0
    · have HP : Eqn (ofP x1) (0, 2) := by rw [Eqn, ofP, if_pos h0]
      rw [HP.out, h0]
      dsimp only
      clear h0 HP
      go_wp2_with fail
      refine (known_any _).mono ?_
      rintro e w' ⟨rfl, hb1⟩
      go_wp2
      go_ret
      exact ⟨rfl, hb1⟩
    · have HP : Eqn (ofP x1) (ofB x1, 0) := by rw [Eqn, ofP, if_neg h0]
      rw [HP.out]
      dsimp only
      have hz : (ofB x1 == 0) = false := by simpa using h0
      have hy : (ofB x1 == ofB x1) = true := by simp
      clear h0 HP
      go_wp2_with fail
      refine (HOR.out _ _).mono ?_
      rintro e w' ⟨rfl, rfl⟩
      go_wp2_with fail
      refine (known_any _).mono ?_
      rintro e w' ⟨rfl, hb1⟩
      go_wp2
      go_ret
      exact ⟨rfl, hb1⟩
  · subst hn
    have R1 : Hid (∀ w, Calls Try.prog 7 #[.int .i64 2] w fun e w' => e = .returned (.tuple #[.int .i64 7, .int .i64 13, .int .i64 0]) ∧ w = w') := Lib.hid (fun w => by have := range_any 2 w; rw [show rngF 2 = (7, 13, 0) by decide] at this; exact this)
    have O0 : Hid (∀ w, Calls Try.prog 9 #[.int .i64 7] w fun e w' => e = .returned (.int .i64 2) ∧ w = w') := Lib.hid (fun w => by have := ofRef_any 7 w; rw [show ofB 7 = 2 by decide] at this; exact this)
    have O1 : Hid (∀ w, Calls Try.prog 9 #[.int .i64 13] w fun e w' => e = .returned (.int .i64 2) ∧ w = w') := Lib.hid (fun w => by have := ofRef_any 13 w; rw [show ofB 13 = 2 by decide] at this; exact this)
    have O2 : Hid (∀ w, Calls Try.prog 9 #[.int .i64 6] w fun e w' => e = .returned (.int .i64 1) ∧ w = w') := Lib.hid (fun w => by have := ofRef_any 6 w; rw [show ofB 6 = 1 by decide] at this; exact this)
    have O3 : Hid (∀ w, Calls Try.prog 9 #[.int .i64 14] w fun e w' => e = .returned (.int .i64 3) ∧ w = w') := Lib.hid (fun w => by have := ofRef_any 14 w; rw [show ofB 14 = 3 by decide] at this; exact this)
    go_enter Try.func3, Try.ntmps3
    go_wp2_with fail
    refine (R1.out _).mono ?_
    rintro e w' ⟨rfl, rfl⟩
    go_wp2_with fail
    refine (HOP.out _ _).mono ?_
    rintro e w' ⟨rfl, rfl⟩
    unfold v2
    go_wp2_with fail
    refine (O0.out _).mono ?_
    rintro e w' ⟨rfl, rfl⟩
    go_wp2_with fail
    refine (O1.out _).mono ?_
    rintro e w' ⟨rfl, rfl⟩
    go_wp2_with fail
    refine (O2.out _).mono ?_
    rintro e w' ⟨rfl, rfl⟩
    go_wp2_with fail
    refine (O3.out _).mono ?_
    rintro e w' ⟨rfl, rfl⟩
    go_wp2_with fail
    refine (HOR.out _ _).mono ?_
    rintro e w' ⟨rfl, rfl⟩
    by_cases h0 : ofB x1 = 0
    · have HP : Eqn (ofP x1) (0, 2) := by rw [Eqn, ofP, if_pos h0]
      rw [HP.out, h0]
      dsimp only
      clear h0 HP
      go_wp2_with fail
      refine (known_any _).mono ?_
      rintro e w' ⟨rfl, hb1⟩
      go_wp2
      go_ret
      exact ⟨rfl, hb1⟩
    · have HP : Eqn (ofP x1) (ofB x1, 0) := by rw [Eqn, ofP, if_neg h0]
      rw [HP.out]
      dsimp only
      have hz : (ofB x1 == 0) = false := by simpa using h0
      have hy : (ofB x1 == ofB x1) = true := by simp
      clear h0 HP
      go_wp2_with fail
      refine (HOR.out _ _).mono ?_
      rintro e w' ⟨rfl, rfl⟩
      go_wp2_with fail
      refine (known_any _).mono ?_
      rintro e w' ⟨rfl, hb1⟩
      go_wp2
      go_ret
      exact ⟨rfl, hb1⟩
  · subst hn
    have R1 : Hid (∀ w, Calls Try.prog 7 #[.int .i64 3] w fun e w' => e = .returned (.tuple #[.int .i64 14, .int .i64 51, .int .i64 0]) ∧ w = w') := Lib.hid (fun w => by have := range_any 3 w; rw [show rngF 3 = (14, 51, 0) by decide] at this; exact this)
    have O0 : Hid (∀ w, Calls Try.prog 9 #[.int .i64 14] w fun e w' => e = .returned (.int .i64 3) ∧ w = w') := Lib.hid (fun w => by have := ofRef_any 14 w; rw [show ofB 14 = 3 by decide] at this; exact this)
    have O1 : Hid (∀ w, Calls Try.prog 9 #[.int .i64 51] w fun e w' => e = .returned (.int .i64 3) ∧ w = w') := Lib.hid (fun w => by have := ofRef_any 51 w; rw [show ofB 51 = 3 by decide] at this; exact this)
    have O2 : Hid (∀ w, Calls Try.prog 9 #[.int .i64 13] w fun e w' => e = .returned (.int .i64 2) ∧ w = w') := Lib.hid (fun w => by have := ofRef_any 13 w; rw [show ofB 13 = 2 by decide] at this; exact this)
    have O3 : Hid (∀ w, Calls Try.prog 9 #[.int .i64 52] w fun e w' => e = .returned (.int .i64 0) ∧ w = w') := Lib.hid (fun w => by have := ofRef_any 52 w; rw [show ofB 52 = 0 by decide] at this; exact this)
    go_enter Try.func3, Try.ntmps3
    go_wp2_with fail
    refine (R1.out _).mono ?_
    rintro e w' ⟨rfl, rfl⟩
    go_wp2_with fail
    refine (HOP.out _ _).mono ?_
    rintro e w' ⟨rfl, rfl⟩
    unfold v2
    go_wp2_with fail
    refine (O0.out _).mono ?_
    rintro e w' ⟨rfl, rfl⟩
    go_wp2_with fail
    refine (O1.out _).mono ?_
    rintro e w' ⟨rfl, rfl⟩
    go_wp2_with fail
    refine (O2.out _).mono ?_
    rintro e w' ⟨rfl, rfl⟩
    go_wp2_with fail
    refine (O3.out _).mono ?_
    rintro e w' ⟨rfl, rfl⟩
    go_wp2_with fail
    refine (HOR.out _ _).mono ?_
    rintro e w' ⟨rfl, rfl⟩
    by_cases h0 : ofB x1 = 0
    · have HP : Eqn (ofP x1) (0, 2) := by rw [Eqn, ofP, if_pos h0]
      rw [HP.out, h0]
      dsimp only
      clear h0 HP
      go_wp2_with fail
      refine (known_any _).mono ?_
      rintro e w' ⟨rfl, hb1⟩
      go_wp2
      go_ret
      exact ⟨rfl, hb1⟩
    · have HP : Eqn (ofP x1) (ofB x1, 0) := by rw [Eqn, ofP, if_neg h0]
      rw [HP.out]
      dsimp only
      have hz : (ofB x1 == 0) = false := by simpa using h0
      have hy : (ofB x1 == ofB x1) = true := by simp
      clear h0 HP
      go_wp2_with fail
      refine (HOR.out _ _).mono ?_
      rintro e w' ⟨rfl, rfl⟩
      go_wp2_with fail
      refine (known_any _).mono ?_
      rintro e w' ⟨rfl, hb1⟩
      go_wp2
      go_ret
      exact ⟨rfl, hb1⟩
  · have R1 : Hid (∀ w, Calls Try.prog 7 #[.int .i64 x0] w fun e w' => e = .returned (.tuple #[.int .i64 0, .int .i64 0, .int .i64 2]) ∧ w = w') := Lib.hid (fun w => by have := range_any x0 w; rw [show rngF x0 = (0, 0, 2) by rw [rngF, if_neg (by omega), if_neg (by omega), if_neg (by omega)]] at this; exact this)
    go_enter Try.func3, Try.ntmps3
    by_cases hlt : x0 < 1
    · clear hn
      go_wp2_with fail
      refine (R1.out _).mono ?_
      rintro e w' ⟨rfl, rfl⟩
      go_wp2_with fail
      refine (HOP.out _ _).mono ?_
      rintro e w' ⟨rfl, rfl⟩
      unfold v2
      go_wp2_with fail
      refine (HOR.out _ _).mono ?_
      rintro e w' ⟨rfl, rfl⟩
      by_cases h0 : ofB x1 = 0
      · have HP : Eqn (ofP x1) (0, 2) := by rw [Eqn, ofP, if_pos h0]
        rw [HP.out, h0]
        dsimp only
        clear h0 HP
        go_wp2_with fail
        refine (known_any _).mono ?_
        rintro e w' ⟨rfl, hb1⟩
        go_wp2
        go_ret
        exact ⟨rfl, hb1⟩
      · have HP : Eqn (ofP x1) (ofB x1, 0) := by rw [Eqn, ofP, if_neg h0]
        rw [HP.out]
        dsimp only
        have hz : (ofB x1 == 0) = false := by simpa using h0
        have hy : (ofB x1 == ofB x1) = true := by simp
        clear h0 HP
        go_wp2_with fail
        refine (HOR.out _ _).mono ?_
        rintro e w' ⟨rfl, rfl⟩
        go_wp2_with fail
        refine (known_any _).mono ?_
        rintro e w' ⟨rfl, hb1⟩
        go_wp2
        go_ret
        exact ⟨rfl, hb1⟩
    · have hgt : 3 < x0 := by omega
      clear hn
      go_wp2_with fail
      refine (R1.out _).mono ?_
      rintro e w' ⟨rfl, rfl⟩
      go_wp2_with fail
      refine (HOP.out _ _).mono ?_
      rintro e w' ⟨rfl, rfl⟩
      unfold v2
      go_wp2_with fail
      refine (HOR.out _ _).mono ?_
      rintro e w' ⟨rfl, rfl⟩
      by_cases h0 : ofB x1 = 0
      · have HP : Eqn (ofP x1) (0, 2) := by rw [Eqn, ofP, if_pos h0]
        rw [HP.out, h0]
        dsimp only
        clear h0 HP
        go_wp2_with fail
        refine (known_any _).mono ?_
        rintro e w' ⟨rfl, hb1⟩
        go_wp2
        go_ret
        exact ⟨rfl, hb1⟩
      · have HP : Eqn (ofP x1) (ofB x1, 0) := by rw [Eqn, ofP, if_neg h0]
        rw [HP.out]
        dsimp only
        have hz : (ofB x1 == 0) = false := by simpa using h0
        have hy : (ofB x1 == ofB x1) = true := by simp
        clear h0 HP
        go_wp2_with fail
        refine (HOR.out _ _).mono ?_
        rintro e w' ⟨rfl, rfl⟩
        go_wp2_with fail
        refine (known_any _).mono ?_
        rintro e w' ⟨rfl, hb1⟩
        go_wp2
        go_ret
        exact ⟨rfl, hb1⟩

set_option maxRecDepth 100000 in
theorem bandRanges_lifted (os : Os) (started : os.Started) (H : Type) (enc : TypeId × Value → H) :
    ReturnsInHanded {} Try.checked os 3 .any (Rows.bandRangesSpec.pre6 enc Try.prog Try.f3 Rows.bandRangesRow.domain false) (Rows.bandRangesSpec.post enc Try.prog Try.f3 false true false false) := by
  refine returnsInHanded_of_change (C := Try.checked) own started (by kernel_rfl) Try.func3
    (ChangeSpec.witness6 (enc := enc) (C := Try.checked) false ⟨#[], #[.int .i64 0, .int .i64 0], []⟩ 8 (by kernel_rfl) (by kernel_rfl) (by kernel_rfl) (by kernel_rfl)) ?_
  intro W base args ds gs before hval0 hW hcnd _
  have hval : ∀ (j : Nat) t v, Try.f3.params[j]? = some t → args[j]? = some v → Value.okWide Try.prog W .any base t v := hval0
  have hW' := hW
  obtain ⟨p, q, hA0, hV, rfl, hfz, hnd⟩ := hW
  have hA : DataW.TrodAll enc Try.prog W 0 (fun _ => true) true Try.f3.params.toList args.toList ds p := hA0
  rw [Try.params3] at hA hval
  obtain ⟨v0, vs0, d0, ds0, p0, q0, hargs, rfl, rfl, h0, r0⟩ := trodAll_cons hA
  obtain ⟨v1, vs1, d1, ds1, p1, q1, rfl, rfl, rfl, h1, r1⟩ := trodAll_cons r0
  obtain ⟨rfl, rfl, rfl⟩ := trodAll_nil r1
  obtain rfl : args = #[v0, v1] := by cases args; simp_all
  obtain ⟨rfl, rfl⟩ := trodVars_none hV
  have k0 := h0
  have lt0 : ∀ x ∈ p0, x.block < W.heap.size := by obtain ⟨m, hm⟩ := k0; exact DataW.trod_lt m _ _ _ hm
  have k1 := h1
  have lt1 : ∀ x ∈ p1, x.block < W.heap.size := by obtain ⟨m, hm⟩ := k1; exact DataW.trod_lt m _ _ _ hm
  obtain ⟨x0, rfl, b0⟩ := arg_int Try.underlying3 (hval 0 3 _ rfl rfl) h0
  obtain ⟨x1, rfl, b1⟩ := arg_int Try.underlying3 (hval 1 3 _ rfl rfl) h1
  clear hA0 hval0
  refine (bandRanges_walk W x0 b0 x1 b1).mono fun e W' ⟨he, bel⟩ => ?_
  subst he
  exact ⟨_, rfl, _, _, _, [], _, [], hW', trodAll_mk1 (shut_bool Try.underlying4 _), (trodAll_cons_mk (Below.trod laidOut (by kernel_rfl) (of_decide_eq_true (by kernel_rfl)) k0 bel lt0) (trodAll_cons_mk (Below.trod laidOut (by kernel_rfl) (of_decide_eq_true (by kernel_rfl)) k1 bel lt1) trodAll_mk0)), rfl, bel.frame _, fun h => by cases h⟩

theorem bandRanges_over : Rows.bandRangesRow.holds Try.pinned (OpenSpec.ofChange Rows.bandRangesSpec) :=
  OpenClaim.holds_of_wide 3 Try.f3 rfl rfl rfl rfl rfl rfl rfl ⟨rfl, rfl, rfl, rfl, rfl⟩ rfl rfl rfl rfl rfl (by kernel_rfl) Try.func3 (by kernel_rfl)
    (of_decide_eq_true (by kernel_rfl)) (by unfold Func.isWrapper; first | (rw [if_pos (by decide +kernel)]; kernel_rfl) | (rw [if_neg (by decide +kernel)]; exact ⟨rfl, rfl⟩))
    (fun os started H enc _ => bandRanges_lifted os started H enc)

theorem bandRanges_holds : Rows.BandRangesSaid := bandRanges_over
#print axioms bandRanges_holds

set_option maxHeartbeats 2000000 in
theorem bandChannels_walk (w : World) (x0 : Int) (_ : I64 x0) (x1 : Int) (_ : I64 x1) :
    Calls Try.prog 5 #[.int .i64 x0, .int .i64 x1] w fun e w' => e = .returned (.bool true) ∧ Below w.heap.size w w' := by
  have HT := Lib.hid (fun n w => to_any n w)
  have HA := Lib.hid (fun n w => at_any n w)
  have HC := Lib.hid (channels_any x0 x1)
  have HCR := Lib.hid (channelsR_any x0 x1)
  by_cases hbad : x0 < 1 ∨ 3 < x0 ∨ vldT x1 = false
  · have hF : chF x0 x1 = ([], 2) := by rw [chF, if_pos hbad]
    rw [hF] at HC
    have HAt := Lib.hid (at_vld x1)
    clear hF HCR
    go_enter Try.func5, Try.ntmps5
    go_wp2_with fail
    refine (HT.out _ _).mono ?_
    rintro e Wa ⟨rfl, hba⟩
    go_wp2_with fail
    refine (HC.out _).mono ?_
    rintro e Wb ⟨v, rfl, hown, hbb⟩
    obtain ⟨A, c, rfl, _⟩ := row1_of_own hown
    dsimp only [List.length]
    have HB := Lib.hid (hba.trans (hbb.mono hba.size))
    clear hba hbb hown
    by_cases h1 : x0 < 1
    · clear hbad
      go_wp2_with fail
      refine (known_any _).mono ?_
      rintro e w' ⟨rfl, hb1⟩
      go_wp2
      go_ret
      exact ⟨rfl, HB.out.trans (hb1.mono HB.out.size)⟩
    · by_cases h3 : 3 < x0
      · clear hbad
        go_wp2_with fail
        refine (known_any _).mono ?_
        rintro e w' ⟨rfl, hb1⟩
        go_wp2
        go_ret
        exact ⟨rfl, HB.out.trans (hb1.mono HB.out.size)⟩
      · have hat : atF x1 < 0 := HAt.out.1 (hbad.elim (fun h => absurd h h1) (fun h => h.elim (fun h => absurd h h3) id))
        clear hbad
        go_wp2_with fail
        refine (HT.out _ _).mono ?_
        rintro e Wc ⟨rfl, hbc⟩
        go_wp2_with fail
        refine (HA.out _ _).mono ?_
        rintro e Wd ⟨rfl, hbd⟩
        have HB2 := Lib.hid (HB.out.trans ((hbc.trans (hbd.mono hbc.size)).mono HB.out.size))
        clear hbc hbd
        go_wp2_with fail
        refine (known_any _).mono ?_
        rintro e w' ⟨rfl, hb1⟩
        go_wp2
        go_ret
        exact ⟨rfl, HB2.out.trans (hb1.mono HB2.out.size)⟩
  · have h1 : ¬ x0 < 1 := fun h => hbad (.inl h)
    have h3 : ¬ 3 < x0 := fun h => hbad (.inr (.inl h))
    have hv : ¬ vldT x1 = false := fun h => hbad (.inr (.inr h))
    have hat : ¬ atF x1 < 0 := fun h => hv ((at_vld x1).2 h)
    have hF : chF x0 x1 = (chR x0 x1 50, 0) := by
      rw [ch_agree (by omega) (by omega) (by simpa using hv), chF, if_neg hbad]
    have hLl : (chR x0 x1 50).length ≤ 100000 := by
      have := chF_len x0 x1; rw [hF] at this; dsimp only at this; omega
    rw [hF] at HC
    clear hF
    generalize chR x0 x1 50 = L at *
    clear hbad hv
    go_enter Try.func5, Try.ntmps5
    go_wp2_with fail
    refine (HT.out _ _).mono ?_
    rintro e Wa ⟨rfl, hba⟩
    go_wp2_with fail
    refine (HC.out _).mono ?_
    rintro e Wb ⟨v, rfl, hown, hbb⟩
    obtain ⟨A, c, rfl, hr⟩ := row1_of_own hown
    have HR := Lib.hid hr
    have HB := Lib.hid (hba.trans (hbb.mono hba.size))
    clear hba hbb hown hr
    dsimp only at HR ⊢
    go_wp2_with fail
    refine (HT.out _ _).mono ?_
    rintro e Wc ⟨rfl, hbc⟩
    go_wp2_with fail
    refine (HA.out _ _).mono ?_
    rintro e Wd ⟨rfl, hbd⟩
    have HB2 := Lib.hid (hbc.trans (hbd.mono hbc.size))
    clear hbc hbd
    go_wp2_with fail
    refine (HT.out _ _).mono ?_
    rintro e We ⟨rfl, hbe⟩
    go_wp2_with fail
    refine (HCR.out _).mono ?_
    rintro e Wf ⟨v, rfl, hown, hbf⟩
    obtain ⟨A2, c2, rfl, hr2⟩ := row1_of_own hown
    have HB3 := Lib.hid (HB2.out.trans ((hbe.trans (hbf.mono hbe.size)).mono HB2.out.size))
    have HR2 := Lib.hid (HR.out.keep HB3.out)
    have HS := Lib.hid (sameInts_any A A2 _ c _ c2 Wf _ L L hLl HR2.out hr2)
    rw [sameL_refl] at HS
    have HB4 := Lib.hid (HB.out.trans (HB3.out.mono HB.out.size))
    clear hbe hbf hown hr2
    go_wp2_with fail
    refine HS.out.mono ?_
    rintro e Wg ⟨rfl, hbg⟩
    have HB5 := Lib.hid (HB4.out.trans (hbg.mono HB4.out.size))
    clear hbg
    go_wp2_with fail
    refine (known_any _).mono ?_
    rintro e w' ⟨rfl, hb1⟩
    go_wp2
    go_ret
    exact ⟨rfl, HB5.out.trans (hb1.mono HB5.out.size)⟩

set_option maxRecDepth 100000 in
theorem bandChannels_lifted (os : Os) (started : os.Started) (H : Type) (enc : TypeId × Value → H) :
    ReturnsInHanded {} Try.checked os 5 .any (Rows.bandChannelsSpec.pre6 enc Try.prog Try.f5 Rows.bandChannelsRow.domain false) (Rows.bandChannelsSpec.post enc Try.prog Try.f5 false true false false) := by
  refine returnsInHanded_of_change (C := Try.checked) own started (by kernel_rfl) Try.func5
    (ChangeSpec.witness6 (enc := enc) (C := Try.checked) false ⟨#[], #[.int .i64 0, .int .i64 0], []⟩ 8 (by kernel_rfl) (by kernel_rfl) (by kernel_rfl) (by kernel_rfl)) ?_
  intro W base args ds gs before hval0 hW hcnd _
  have hval : ∀ (j : Nat) t v, Try.f5.params[j]? = some t → args[j]? = some v → Value.okWide Try.prog W .any base t v := hval0
  have hW' := hW
  obtain ⟨p, q, hA0, hV, rfl, hfz, hnd⟩ := hW
  have hA : DataW.TrodAll enc Try.prog W 0 (fun _ => true) true Try.f5.params.toList args.toList ds p := hA0
  rw [Try.params5] at hA hval
  obtain ⟨v0, vs0, d0, ds0, p0, q0, hargs, rfl, rfl, h0, r0⟩ := trodAll_cons hA
  obtain ⟨v1, vs1, d1, ds1, p1, q1, rfl, rfl, rfl, h1, r1⟩ := trodAll_cons r0
  obtain ⟨rfl, rfl, rfl⟩ := trodAll_nil r1
  obtain rfl : args = #[v0, v1] := by cases args; simp_all
  obtain ⟨rfl, rfl⟩ := trodVars_none hV
  have k0 := h0
  have lt0 : ∀ x ∈ p0, x.block < W.heap.size := by obtain ⟨m, hm⟩ := k0; exact DataW.trod_lt m _ _ _ hm
  have k1 := h1
  have lt1 : ∀ x ∈ p1, x.block < W.heap.size := by obtain ⟨m, hm⟩ := k1; exact DataW.trod_lt m _ _ _ hm
  obtain ⟨x0, rfl, b0⟩ := arg_int Try.underlying3 (hval 0 3 _ rfl rfl) h0
  obtain ⟨x1, rfl, b1⟩ := arg_int Try.underlying3 (hval 1 3 _ rfl rfl) h1
  clear hA0 hval0
  refine (bandChannels_walk W x0 b0 x1 b1).mono fun e W' ⟨he, bel⟩ => ?_
  subst he
  exact ⟨_, rfl, _, _, _, [], _, [], hW', trodAll_mk1 (shut_bool Try.underlying4 _), (trodAll_cons_mk (Below.trod laidOut (by kernel_rfl) (of_decide_eq_true (by kernel_rfl)) k0 bel lt0) (trodAll_cons_mk (Below.trod laidOut (by kernel_rfl) (of_decide_eq_true (by kernel_rfl)) k1 bel lt1) trodAll_mk0)), rfl, bel.frame _, fun h => by cases h⟩

theorem bandChannels_over : Rows.bandChannelsRow.holds Try.pinned (OpenSpec.ofChange Rows.bandChannelsSpec) :=
  OpenClaim.holds_of_wide 5 Try.f5 rfl rfl rfl rfl rfl rfl rfl ⟨rfl, rfl, rfl, rfl, rfl⟩ rfl rfl rfl rfl rfl (by kernel_rfl) Try.func5 (by kernel_rfl)
    (of_decide_eq_true (by kernel_rfl)) (by unfold Func.isWrapper; first | (rw [if_pos (by decide +kernel)]; kernel_rfl) | (rw [if_neg (by decide +kernel)]; exact ⟨rfl, rfl⟩))
    (fun os started H enc _ => bandChannels_lifted os started H enc)

theorem bandChannels_holds : Rows.BandChannelsSaid := bandChannels_over
#print axioms bandChannels_holds
end Go.Proofs.Ytpdhelhngdeoeaa
