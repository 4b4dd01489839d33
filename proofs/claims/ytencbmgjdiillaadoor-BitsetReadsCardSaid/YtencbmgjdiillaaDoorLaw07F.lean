/- BitsetReads: for any string, the set of it or the error, and its text, are as the statement says. -/
import Derived.Test.YtencbmgjdiillaaDoorRf6
namespace Go.Proofs.YtencbmgjdiillaaDoor
open Go.RowKit Go.ChangeShapes Go.WideShapes Go.ChangeAt Go.Deep Go.Joins

theorem str_eta (s : ByteArray) : (⟨s.data.toList.toArray⟩ : ByteArray) = s := by cases s; simp

set_option maxHeartbeats 2000000 in
theorem readL_long (w : World) (hT : Tab w) (s : ByteArray) (hn : 300 < s.size) : Calls Tryd.prog 5 #[.string s] w fun e w' => e = .returned (.bool true) ∧ Below w.heap.size w w' := by
  have HK : Hid (∀ W, Below w.heap.size w W → Calls Tryd.prog 12 #[] W (RetPost (.bool true) W.heap.size W)) := Lib.hid (fun W hb => known_any W (hT.keep hb))
  have h1 : (300 : Int) < (s.size : Int) := by omega
  clear hT hn
  go_enter Tryd.func5, Tryd.ntmps5
  go_wp2_with fail
  have B0 : Hid (Below w.heap.size w w) := Lib.hid (Below.refl _ _)
  refine (HK.out _ B0.out).mono ?_
  rintro e W1 ⟨rfl, hw1⟩
  have C1 := Lib.hid (B0.out.trans (hw1.mono B0.out.size))
  clear hw1
  have B1 := C1
  clear C1
  go_wp2_with fail
  go_ret
  exact ⟨rfl, B1.out⟩

set_option maxRecDepth 100000 in
set_option maxHeartbeats 4000000 in
theorem readL_bad (w : World) (hT : Tab w) (s : ByteArray) (L : List Int) (hn : s.size ≤ 300) (hP : parseF s.data.toList = (0, 6)) (hR : parRF s.data.toList = (L, false)) : Calls Tryd.prog 5 #[.string s] w fun e w' => e = .returned (.bool true) ∧ Below w.heap.size w w' := by
  have HK : Hid (∀ W, Below w.heap.size w W → Calls Tryd.prog 12 #[] W (RetPost (.bool true) W.heap.size W)) := Lib.hid (fun W hb => known_any W (hT.keep hb))
  have h1 : (s.size : Int) ≤ 300 := by omega
  have HP : Hid (∀ W, Below w.heap.size w W → Calls Tryd.prog 18 #[.string s] W (RetPost (.tuple #[sV 0, .int .i64 6]) W.heap.size W)) := Lib.hid (fun W hb => by have := parse_any s.data.toList W (by simp; omega) (hT.keep hb); rw [hP, str_eta] at this; exact this)
  have HR : Hid (∀ W, Calls Tryd.prog 19 #[.string s] W (PairB (L, false) W)) := Lib.hid (fun W => by have := parseR_any s W (by omega); rw [hR] at this; exact this)
  have hze := z_eq
  rw [sV_zero] at hze HP
  clear hT hn hP hR
  go_enter Tryd.func5, Tryd.ntmps5
  go_wp2_with fail
  have B0 : Hid (Below w.heap.size w w) := Lib.hid (Below.refl _ _)
  refine (HP.out _ B0.out).mono ?_
  rintro e W1 ⟨rfl, hw1⟩
  have C1 := Lib.hid (B0.out.trans (hw1.mono B0.out.size))
  clear hw1
  go_wp2_with fail
  obtain ⟨V1, hV1⟩ : ∃ V, V = W1.alloc (.cells (sL 0).toArray 28) := ⟨_, rfl⟩
  have B1 : Hid (Below w.heap.size w V1) := Lib.hid (by rw [hV1]; exact C1.out.alloc (by have := C1.out.size; exact this) _)
  have hs1 : V1.heap.size = W1.heap.size + 1 := by rw [hV1]; simp
  have X3 : Hid (Blk V1 W1.heap.size 28 (tabL 8 (sC 0))) := Lib.hid (by rw [hV1, ← sL_tab]; exact blk_new _ _ _)
  rw [sL_zero] at hV1
  rw [← hV1]
  clear hV1 C1 hs1
  refine (HR.out _).mono ?_
  rintro e W2 ⟨v5, rfl, hown5, hw2⟩
  have C2 := Lib.hid (B1.out.trans (hw2.mono B1.out.size))
  have X3' := Lib.hid (X3.out.keep hw2)
  obtain ⟨A5, c5, rfl, hr5⟩ := row1_of_own hown5
  clear hown5 hr5
  clear hw2
  obtain ⟨x3_0, x3_1, x3_2, x3_3, x3_4, x3_5, x3_6, x3_7⟩ := X3'.out.eightA
  simp only [wd_zero] at x3_0 x3_1 x3_2 x3_3 x3_4 x3_5 x3_6 x3_7
  go_wp2_with fail
  clear x3_0 x3_1 x3_2 x3_3 x3_4 x3_5 x3_6 x3_7
  obtain ⟨V2, hV2⟩ : ∃ V, V = W2.alloc (.cells (sL 0).toArray 28) := ⟨_, rfl⟩
  have B2 : Hid (Below w.heap.size w V2) := Lib.hid (by rw [hV2]; exact C2.out.alloc (by have := C2.out.size; exact this) _)
  have hs2 : V2.heap.size = W2.heap.size + 1 := by rw [hV2]; simp
  replace X3 := Lib.hid (show Blk V2 _ _ _ by rw [hV2]; exact X3'.out.alloc _)
  clear X3'
  have X7 : Hid (Blk V2 W2.heap.size 28 (tabL 8 (sC 0))) := Lib.hid (by rw [hV2, ← sL_tab]; exact blk_new _ _ _)
  rw [sL_zero] at hV2
  rw [← hV2]
  clear hV2 C2 hs2
  refine (HK.out _ B2.out).mono ?_
  rintro e W3 ⟨rfl, hw3⟩
  have C3 := Lib.hid (B2.out.trans (hw3.mono B2.out.size))
  have X3' := Lib.hid (X3.out.keep hw3)
  have X7' := Lib.hid (X7.out.keep hw3)
  clear hw3
  have B3 := C3
  replace X3 := X3'
  clear X3'
  replace X7 := X7'
  clear X7'
  clear C3
  go_wp2_with fail
  go_ret
  exact ⟨rfl, B3.out⟩

set_option maxRecDepth 100000 in
set_option maxHeartbeats 8000000 in
theorem readL_main (w : World) (hT : Tab w) (s : ByteArray) (S : Nat) (hn : s.size ≤ 300) (hP : parseF s.data.toList = (S, 0)) (hR : parRF s.data.toList = (memI S, true)) (hF : Fit S) (hE : s.data.toList = textF S) : Calls Tryd.prog 5 #[.string s] w fun e w' => e = .returned (.bool true) ∧ Below w.heap.size w w' := by
  have HT := Lib.hid hT
  have HK : Hid (∀ W, Below w.heap.size w W → Calls Tryd.prog 12 #[] W (RetPost (.bool true) W.heap.size W)) := Lib.hid (fun W hb => known_any W (hT.keep hb))
  have h1 : (s.size : Int) ≤ 300 := by omega
  have HP : Hid (∀ W, Below w.heap.size w W → Calls Tryd.prog 18 #[.string s] W (RetPost (.tuple #[sV S, .int .i64 0]) W.heap.size W)) := Lib.hid (fun W hb => by have := parse_any s.data.toList W (by simp; omega) (hT.keep hb); rw [hP, str_eta] at this; exact this)
  have HR : Hid (∀ W, Calls Tryd.prog 19 #[.string s] W (PairB (memI S, true) W)) := Lib.hid (fun W => by have := parseR_any s W (by omega); rw [hR] at this; exact this)
  have HIS : Hid (∀ A' n' c' W, Tab W → Row1 intV W W.heap.size A' n' (memI S) → Calls Tryd.prog 17 #[sV S, .slice A' n' c'] W (RetPost (.bool true) W.heap.size W)) := Lib.hid (fun A' n' c' W h1 h2 => is_any S A' n' c' W hF h1 h2)
  have HTX : Hid (∀ W, Tab W → Calls Tryd.prog 20 #[sV S] W (RetPost (.string s) W.heap.size W)) := Lib.hid (fun W h => by have := text_any S W hF h; rw [← hE, str_eta] at this; exact this)
  unfold sV at HP HIS HTX
  clear hT hn hP hR hF hE
  go_enter Tryd.func5, Tryd.ntmps5
  go_wp2_with fail
  have B0 : Hid (Below w.heap.size w w) := Lib.hid (Below.refl _ _)
  refine (HP.out _ B0.out).mono ?_
  rintro e W1 ⟨rfl, hw1⟩
  have C1 := Lib.hid (B0.out.trans (hw1.mono B0.out.size))
  clear hw1
  go_wp2_with fail
  obtain ⟨V1, hV1⟩ : ∃ V, V = W1.alloc (.cells (sL S).toArray 28) := ⟨_, rfl⟩
  have B1 : Hid (Below w.heap.size w V1) := Lib.hid (by rw [hV1]; exact C1.out.alloc (by have := C1.out.size; exact this) _)
  have hs1 : V1.heap.size = W1.heap.size + 1 := by rw [hV1]; simp
  have X3 : Hid (Blk V1 W1.heap.size 28 (tabL 8 (sC S))) := Lib.hid (by rw [hV1, ← sL_tab]; exact blk_new _ _ _)
  unfold sL at hV1
  rw [← hV1]
  clear hV1 C1 hs1
  refine (HR.out _).mono ?_
  rintro e W2 ⟨v5, rfl, hown5, hw2⟩
  have C2 := Lib.hid (B1.out.trans (hw2.mono B1.out.size))
  have X3' := Lib.hid (X3.out.keep hw2)
  obtain ⟨A5, c5, rfl, hr5⟩ := row1_of_own hown5
  have R5' := Lib.hid hr5
  clear hown5 hr5
  clear hw2
  obtain ⟨x3_0, x3_1, x3_2, x3_3, x3_4, x3_5, x3_6, x3_7⟩ := X3'.out.eightA
  go_wp2_with fail
  clear x3_0 x3_1 x3_2 x3_3 x3_4 x3_5 x3_6 x3_7
  obtain ⟨V2, hV2⟩ : ∃ V, V = W2.alloc (.cells (sL 0).toArray 28) := ⟨_, rfl⟩
  have B2 : Hid (Below w.heap.size w V2) := Lib.hid (by rw [hV2]; exact C2.out.alloc (by have := C2.out.size; exact this) _)
  have hs2 : V2.heap.size = W2.heap.size + 1 := by rw [hV2]; simp
  replace X3 := Lib.hid (show Blk V2 _ _ _ by rw [hV2]; exact X3'.out.alloc _)
  clear X3'
  replace R5 := Lib.hid (show Row1 _ V2 V2.heap.size _ _ _ by rw [hV2]; exact R5'.out.allocK _)
  clear R5'
  have X7 : Hid (Blk V2 W2.heap.size 28 (tabL 8 (sC 0))) := Lib.hid (by rw [hV2, ← sL_tab]; exact blk_new _ _ _)
  rw [sL_zero] at hV2
  rw [← hV2]
  clear hV2 C2 hs2
  refine (HIS.out _ _ _ _ (HT.out.keep B2.out) R5.out).mono ?_
  rintro e W3 ⟨rfl, hw3⟩
  have C3 := Lib.hid (B2.out.trans (hw3.mono B2.out.size))
  have X3' := Lib.hid (X3.out.keep hw3)
  have X7' := Lib.hid (X7.out.keep hw3)
  have R5' := Lib.hid (R5.out.keep hw3)
  clear hw3
  have B3 := C3
  replace X3 := X3'
  clear X3'
  replace X7 := X7'
  clear X7'
  replace R5 := R5'
  clear R5'
  clear C3
  obtain ⟨x3_0, x3_1, x3_2, x3_3, x3_4, x3_5, x3_6, x3_7⟩ := X3.out.eight
  go_wp2_with fail
  clear x3_0 x3_1 x3_2 x3_3 x3_4 x3_5 x3_6 x3_7
  refine (HTX.out _ (HT.out.keep B3.out)).mono ?_
  rintro e W4 ⟨rfl, hw4⟩
  have C4 := Lib.hid (B3.out.trans (hw4.mono B3.out.size))
  have X3' := Lib.hid (X3.out.keep hw4)
  have X7' := Lib.hid (X7.out.keep hw4)
  have R5' := Lib.hid (R5.out.keep hw4)
  clear hw4
  have B4 := C4
  replace X3 := X3'
  clear X3'
  replace X7 := X7'
  clear X7'
  replace R5 := R5'
  clear R5'
  clear C4
  go_wp2_with fail
  refine (HK.out _ B4.out).mono ?_
  rintro e W5 ⟨rfl, hw5⟩
  have C5 := Lib.hid (B4.out.trans (hw5.mono B4.out.size))
  have X3' := Lib.hid (X3.out.keep hw5)
  have X7' := Lib.hid (X7.out.keep hw5)
  have R5' := Lib.hid (R5.out.keep hw5)
  clear hw5
  have B5 := C5
  replace X3 := X3'
  clear X3'
  replace X7 := X7'
  clear X7'
  replace R5 := R5'
  clear R5'
  clear C5
  go_wp2_with fail
  go_ret
  exact ⟨rfl, B5.out⟩

theorem bitsetReads_walk (w : World) (hT : Tab w) (s : ByteArray) (_ : True) : Calls Tryd.prog 5 #[.string s] w fun e w' => e = .returned (.bool true) ∧ Below w.heap.size w w' := by
  by_cases hn : s.size ≤ 300
  · cases hb : (parRF s.data.toList).2 with
    | false => exact readL_bad w hT s (parRF s.data.toList).1 hn (par_bad hb) (by rw [← hb])
    | true =>
      obtain ⟨S, h1, h2, h3, h4⟩ := par_good hb
      exact readL_main w hT s S hn h4 h2 h1 h3
  · exact readL_long w hT s (by omega)

theorem arg_string {H : Type} {enc : TypeId × Value → H} {w : World} {base b0 : Nat} {spare : Nat → Bool} {held : Bool} {r : Reach} {v : Value} {d : DataW H} {p : List MemPlace} (hv : Value.okWide Tryd.prog w r b0 9 v) (h : DataW.Trod enc Tryd.prog w base spare held 9 v d p) :
    ∃ y : ByteArray, v = .string y ∧ True := by
  obtain ⟨s, rfl, _⟩ := ChangeMaps.open_string Tryd.underlying9 hv h
  exact ⟨_, rfl, trivial⟩

set_option maxRecDepth 100000 in
theorem bitsetReads_lifted (os : Os) (started : os.Started) (H : Type) (enc : TypeId × Value → H) :
    ReturnsInHanded {} Tryd.checked os 5 .any (fun w args => (Rows.bitsetReadsSpec.pre enc Tryd.prog Tryd.f5 [] false w args ∧ laidMetH Tryd.prog laid07 w) ∧ sizedMet enc Tryd.prog Tryd.f5 (OpenSpec.ofChange Rows.bitsetReadsSpec) false w args) (Rows.bitsetReadsSpec.post enc Tryd.prog Tryd.f5 false true false false) := by
  refine handed_laid (C := Tryd.checked) (laid := laid07) own started (by kernel_rfl) Tryd.func5
    (ChangeSpec.witness_shaped (enc := enc) (C := Tryd.checked) (os := os) (X := fun w _ => laidMetH Tryd.prog laid07 w) false (World.laidAll Tryd.prog os laid07) #[.string (ByteArray.mk #[])] 8 (World.laidAll_os _ _ _) (World.shaped_of_ZipB (by kernel_rfl) (by kernel_rfl)) (by kernel_rfl) (by kernel_rfl) (by kernel_rfl) (laidHold os _)) ?_
  intro W base args ds gs before hval0 hW hL hsh
  have hTab := tab_of hL hsh
  have hval : ∀ (j : Nat) t v, Tryd.f5.params[j]? = some t → args[j]? = some v → Value.okWide Tryd.prog W .any base t v := hval0
  have hW' := hW
  obtain ⟨p, q, hA0, hV, rfl, hfz, hnd⟩ := hW
  have hA : DataW.TrodAll enc Tryd.prog W 0 (fun _ => true) true Tryd.f5.params.toList args.toList ds p := hA0
  rw [Tryd.params5] at hA hval
  obtain ⟨v0, vs0, d0, ds0, p0, q0, hargs, rfl, rfl, h0, r0⟩ := trodAll_cons hA
  obtain ⟨rfl, rfl, rfl⟩ := trodAll_nil r0
  obtain rfl : args = #[v0] := by cases args; simp_all
  obtain ⟨rfl, rfl⟩ := trodVars_none hV
  have k0 := h0
  have lt0 : ∀ x ∈ p0, x.block < W.heap.size := by obtain ⟨m, hm⟩ := k0; exact DataW.trod_lt m _ _ _ hm
  obtain ⟨y0, rfl, R0⟩ := arg_string (hval 0 9 _ rfl rfl) h0
  clear hA0 hval0
  refine (bitsetReads_walk W hTab y0 R0).mono fun e W' ⟨he, bel⟩ => ?_
  subst he
  exact ⟨_, rfl, _, _, _, [], _, [], hW', trodAll_mk1 (shut_bool Tryd.underlying4 _), (trodAll_cons_mk (Below.trod laidOut (by kernel_rfl) (of_decide_eq_true (by kernel_rfl)) k0 bel lt0) trodAll_mk0), rfl, bel.frame _, fun h => by cases h⟩

theorem bitsetReads_over : Rows.bitsetReadsRow.holds Tryd.pinned (OpenSpec.ofChange Rows.bitsetReadsSpec) :=
  OpenClaim.holds_of_wide 5 Tryd.f5 rfl rfl rfl rfl rfl rfl rfl ⟨rfl, rfl, rfl, rfl, rfl⟩ rfl rfl rfl rfl rfl (by kernel_rfl) Tryd.func5 (by kernel_rfl)
    (of_decide_eq_true (by kernel_rfl)) (by unfold Func.isWrapper; first | (rw [if_pos (by decide +kernel)]; kernel_rfl) | (rw [if_neg (by decide +kernel)]; exact ⟨rfl, rfl⟩))
    (fun os started H enc _ => bitsetReads_lifted os started H enc)

theorem bitsetReadsCard_holds : Rows.BitsetReadsCardSaid :=
  Claim7.holds_tied_plain_at .later [] [.data, .data, .data] true (true, "39aa42fe034a2cbedf78232cde6b0da1e7f2e4be5808576f250df2ef6185728f") false
    bitsetReads_over (fun _ h => by cases h) (by kernel_rfl) (fun _ h => by cases h) bitsetReads_row_tie rfl ⟨rfl, rfl⟩ (by kernel_rfl) rfl
    (fun f fn hf hfn => by
      obtain rfl : f = 5 := Option.some.inj ((show Tryd.prog.funcNamed "bandplan/bandplanlaw07.BitsetReads" = some 5 by kernel_rfl).symm.trans hf) |>.symm
      obtain rfl : fn = Tryd.f5 := (Option.some.inj (Tryd.func5.symm.trans hfn)).symm
      exact ⟨by kernel_rfl, fun j t ht => by
        rw [Tryd.params5] at ht
        rcases j with _ | j
        · obtain rfl : t = 9 := by simpa using ht.symm
          exact (show Tryd.prog.wantsStandIn 9 = false by kernel_rfl)
        · simp at ht⟩)
    (by kernel_rfl)
#print axioms bitsetReadsCard_holds
end Go.Proofs.YtencbmgjdiillaaDoor
