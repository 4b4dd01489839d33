/- DigraphNone: the results without a graph are as the statement says, whatever the number. -/
import Derived.Test.YtpaakgngoocjeaaDoorNon12
namespace Go.Proofs.YtpaakgngoocjeaaDoor
open Go.RowKit Go.ChangeShapes Go.WideShapes Go.ChangeAt Go.Deep Go.Joins

set_option maxRecDepth 100000 in
set_option maxHeartbeats 4000000 in
theorem digraphNone_walk (w : World) (hT : Tab w) (v : Int) (_ : I64 v) : Calls Tryd.prog 10 #[.int .i64 v] w fun e w' => e = .returned (.bool true) ∧ Below w.heap.size w w' := by
  have HK : Hid (∀ W, Below w.heap.size w W → Calls Tryd.prog 11 #[] W (RetPost (.bool true) W.heap.size W)) := Lib.hid (fun W hb => known_any W (hT.keep hb))
  have hP0 := ((Hp.start w).alloc [.bool false, .slice none 0 0, .int .i64 0] 67).alloc [.pointer none, .pointer (some ⟨w.heap.size, 0, none⟩)] 24
  rw [World.size_alloc] at hP0
  obtain ⟨W0, hW0⟩ : ∃ W0, W0 = (w.alloc (.cells #[.bool false, .slice none 0 0, .int .i64 0] 67)).alloc (.cells #[.pointer none, .pointer (some ⟨w.heap.size, 0, none⟩)] 24) := ⟨_, rfl⟩
  have HP0 : Hid (Hp w w W0 [.blk w.heap.size 67 [.bool false, .slice none 0 0, .int .i64 0], .blk (w.heap.size + 1) 24 [.pointer none, .pointer (some ⟨w.heap.size, 0, none⟩)]] []) := Lib.hid (by rw [hW0]; exact hP0)
  have HEM := Lib.hid (fun W => empty_any 0 fit_zero W)
  unfold sV at HEM
  rw [decide_eq_true rfl] at HEM
  clear hT hP0
  go_enter Tryd.func10, Tryd.ntmps10
  go_wp2_with fail
  rw [← hW0]
  clear hW0
  go_loopw [21] (fun i wr => ∃ k : Nat, k ≤ 2 ∧ i = .int .i64 k ∧ Hp w w wr [.blk w.heap.size 67 [.bool false, .slice none 0 0, .int .i64 0], .blk (w.heap.size + 1) 24 [.pointer none, .pointer (some ⟨w.heap.size, 0, none⟩)]] []) (fun i _ => 2 - (intOf i).toNat)
  case atStart => exact ⟨0, by omega, rfl, HP0.out⟩
  case round =>
    clear HP0
    obtain ⟨k, hk, rfl, hP⟩ := hrel
    have HP := Lib.hid hP
    by_cases hlt : k < 2
    · have j0 : (k : Int) < 2 := by omega
      obtain ⟨q, hq, hno⟩ : ∃ q, wr.cell? ⟨w.heap.size + 1, k, none⟩ = some (.pointer q) ∧ NoG wr (.pointer q) := by
        match k, hlt with
        | 0, _ => exact ⟨none, hP.c 1 0 rfl rfl, .inl rfl⟩
        | 1, _ => exact ⟨_, hP.c 1 1 rfl rfl, .inr ⟨_, rfl, hP.c 0 0 rfl rfl, hP.lt 0 rfl⟩⟩
      have HN := Lib.hid (fun W (hb : Below wr.heap.size wr W) => hno.keep hb)
      have l1 := hP.lt 1 rfl
      have HN1 := gnext_no (.pointer q) v wr hno
      unfold sV at HN1
      replace HN1 := Lib.hid HN1
      clear hP hno
      go_wp2_with fail
      refine HN1.out.mono ?_
      rintro e W1 ⟨rfl, hb1⟩
      obtain ⟨V1, hV1⟩ : ∃ V1, V1 = W1.alloc (.cells (sL 0).toArray 40) := ⟨_, rfl⟩
      have hP1 := ((Hp.start wr).keep hb1).allocS 0 40
      rw [← hV1] at hP1
      have HQ1 := Lib.hid hP1
      have HN2 := greachable_no (.pointer q) v V1 (HN.out _ hP1.below)
      unfold sV at HN2
      replace HN2 := Lib.hid HN2
      unfold sL at hV1
      clear hb1 hP1 HN1 hq l1
      go_wp2_with fail
      rw [← hV1]
      clear hV1
      refine HN2.out.mono ?_
      rintro e W2 ⟨rfl, hb2⟩
      obtain ⟨V2, hV2⟩ : ∃ V2, V2 = W2.alloc (.cells (sL 0).toArray 40) := ⟨_, rfl⟩
      have hP2 := (HQ1.out.keep hb2).allocS 0 40
      rw [← hV2] at hP2
      have HQ2 := Lib.hid hP2
      have HN3 := Lib.hid (gorder_no (.pointer q) V2 (HN.out _ hP2.below))
      have HN4 := Lib.hid (glongest_no (.pointer q) V2 (HN.out _ hP2.below))
      have HN5 := Lib.hid (greduce_no (.pointer q) V2 (HN.out _ hP2.below))
      have HN6 := Lib.hid (gadd_no (.pointer q) v 0 V2 (HN.out _ hP2.below))
      have HN7 := Lib.hid (ghasarc_no (.pointer q) v 0 V2 (HN.out _ hP2.below))
      have HN8 := Lib.hid (glen_no (.pointer q) V2 (HN.out _ hP2.below))
      have HN9 := Lib.hid (garcs_no (.pointer q) V2 (HN.out _ hP2.below))
      unfold sL at hV2
      clear hb2 hP2 HN2 HQ1
      go_wp2_with fail
      rw [← hV2]
      clear hV2
      generalize W1.heap.size = p6 at *
      generalize W2.heap.size = p8 at *
      refine HN3.out.mono ?_
      rintro e X ⟨rfl, rfl⟩
      go_wp2_with fail
      refine HN4.out.mono ?_
      rintro e X2 ⟨rfl, rfl⟩
      go_wp2_with fail
      refine HN5.out.mono ?_
      rintro e X3 ⟨rfl, rfl⟩
      go_wp2_with fail
      have hP2 := HQ2.out
      obtain ⟨c0_0, c0_1, c0_2, c0_3, c0_4, c0_5, c0_6, c0_7⟩ := (hP2.blk 0 rfl).eight; have f0 := hP2.f 0 rfl; have l0 := hP2.lt 0 rfl; obtain ⟨c1_0, c1_1, c1_2, c1_3, c1_4, c1_5, c1_6, c1_7⟩ := (hP2.blk 1 rfl).eight; have f1 := hP2.f 1 rfl; have l1 := hP2.lt 1 rfl
      clear hP2
      refine HN6.out.mono ?_
      rintro e Y1 ⟨rfl, rfl⟩
      go_wp2_with fail
      refine HN7.out.mono ?_
      rintro e Y2 ⟨rfl, rfl⟩
      go_wp2_with fail
      refine HN8.out.mono ?_
      rintro e Y3 ⟨rfl, rfl⟩
      go_wp2_with fail
      refine HN9.out.mono ?_
      rintro e Y4 ⟨rfl, rfl⟩
      go_wp2_with fail
      refine (HEM.out _).mono ?_
      rintro e W3 ⟨rfl, hb3⟩
      have hP3 := HQ2.out.keep hb3
      have HQ3 := Lib.hid hP3
      clear hb3 c0_0 c0_1 c0_2 c0_3 c0_4 c0_5 c0_6 c0_7 f0 l0 c1_0 c1_1 c1_2 c1_3 c1_4 c1_5 c1_6 c1_7 f1 l1
      obtain ⟨c1_0, c1_1, c1_2, c1_3, c1_4, c1_5, c1_6, c1_7⟩ := (hP3.blk 1 rfl).eight; have f1 := hP3.f 1 rfl; have l1 := hP3.lt 1 rfl
      clear hP3
      go_wp2_with fail
      refine (HEM.out _).mono ?_
      rintro e W4 ⟨rfl, hb4⟩
      have HQ4 := Lib.hid (HQ3.out.keep hb4)
      have HN10 := Lib.hid (gcomps_no (.pointer q) W4 (HN.out _ HQ4.out.below))
      clear hb4 c1_0 c1_1 c1_2 c1_3 c1_4 c1_5 c1_6 c1_7 f1 l1
      go_wp2_with fail
      refine HN10.out.mono ?_
      rintro e W5 ⟨rfl, hb5⟩
      have HQ5 := Lib.hid (HQ4.out.keep hb5)
      have HN11 := Lib.hid (gcopy_no (.pointer q) W5 (HN.out _ HQ5.out.below))
      clear hb5
      go_wp2_with fail
      refine HN11.out.mono ?_
      rintro e W6 ⟨rfl, rfl⟩
      go_wp2_with fail
      go_roundw
      case rel => exact ⟨k + 1, by omega, by go_num, HP.out.keep HQ5.out.below⟩
      case measure => simp [intOf]; omega
    · have hk2 : k = 2 := by omega
      subst hk2
      clear hP
      go_wp2_with fail
      refine (HK.out _ HP.out.below).mono ?_
      rintro e W7 ⟨rfl, hb7⟩
      have HB7 := Lib.hid (HP.out.below.trans (hb7.mono HP.out.below.size))
      clear hb7
      go_wp2_with fail
      go_ret
      exact ⟨rfl, HB7.out⟩

set_option maxRecDepth 100000 in
theorem digraphNone_lifted (os : Os) (started : os.Started) (H : Type) (enc : TypeId × Value → H) :
    ReturnsInHanded {} Tryd.checked os 10 .any (fun w args => (Rows.digraphNoneSpec.pre enc Tryd.prog Tryd.f10 [] false w args ∧ laidMetH Tryd.prog laid07 w) ∧ sizedMet enc Tryd.prog Tryd.f10 (OpenSpec.ofChange Rows.digraphNoneSpec) false w args) (Rows.digraphNoneSpec.post enc Tryd.prog Tryd.f10 false true false false) := by
  refine handed_laid (C := Tryd.checked) (laid := laid07) own started (by kernel_rfl) Tryd.func10
    (ChangeSpec.witness_shaped (enc := enc) (C := Tryd.checked) (os := os) (X := fun w _ => laidMetH Tryd.prog laid07 w) false (World.laidAll Tryd.prog os laid07) #[.int .i64 0] 8 (World.laidAll_os _ _ _) (World.shaped_of_ZipB (by kernel_rfl) (by kernel_rfl)) (by kernel_rfl) (by kernel_rfl) (by kernel_rfl) (laidHold os _)) ?_
  intro W base args ds gs before hval0 hW hL hsh
  have hTab := tab_of hL hsh
  have hval : ∀ (j : Nat) t v, Tryd.f10.params[j]? = some t → args[j]? = some v → Value.okWide Tryd.prog W .any base t v := hval0
  have hW' := hW
  obtain ⟨p, q, hA0, hV, rfl, hfz, hnd⟩ := hW
  have hA : DataW.TrodAll enc Tryd.prog W 0 (fun _ => true) true Tryd.f10.params.toList args.toList ds p := hA0
  rw [Tryd.params10] at hA hval
  obtain ⟨v0, vs0, d0, ds0, p0, q0, hargs, rfl, rfl, h0, r0⟩ := trodAll_cons hA
  obtain ⟨rfl, rfl, rfl⟩ := trodAll_nil r0
  obtain rfl : args = #[v0] := by cases args; simp_all
  obtain ⟨rfl, rfl⟩ := trodVars_none hV
  have k0 := h0
  have lt0 : ∀ x ∈ p0, x.block < W.heap.size := by obtain ⟨m, hm⟩ := k0; exact DataW.trod_lt m _ _ _ hm
  obtain ⟨x0, rfl, b0⟩ := arg_int Tryd.underlying3 (hval 0 3 _ rfl rfl) h0
  clear hA0 hval0
  refine (digraphNone_walk W hTab x0 b0).mono fun e W' ⟨he, bel⟩ => ?_
  subst he
  exact ⟨_, rfl, _, _, _, [], _, [], hW', trodAll_mk1 (shut_bool Tryd.underlying4 _), (trodAll_cons_mk (Below.trod laidOut (by kernel_rfl) (of_decide_eq_true (by kernel_rfl)) k0 bel lt0) trodAll_mk0), rfl, bel.frame _, fun h => by cases h⟩

theorem digraphNone_over : Rows.digraphNoneRow.holds Tryd.pinned (OpenSpec.ofChange Rows.digraphNoneSpec) :=
  OpenClaim.holds_of_wide 10 Tryd.f10 rfl rfl rfl rfl rfl rfl rfl ⟨rfl, rfl, rfl, rfl, rfl⟩ rfl rfl rfl rfl rfl (by kernel_rfl) Tryd.func10 (by kernel_rfl)
    (of_decide_eq_true (by kernel_rfl)) (by unfold Func.isWrapper; first | (rw [if_pos (by decide +kernel)]; kernel_rfl) | (rw [if_neg (by decide +kernel)]; exact ⟨rfl, rfl⟩))
    (fun os started H enc _ => digraphNone_lifted os started H enc)

theorem digraphNoneCard_holds : Rows.DigraphNoneCardSaid :=
  Claim7.holds_tied_plain_at .later [] [.data, .data, .data] true (true, "dec048aedef4f191fc220134fd400c69f28150d87cfbdac39091d757f58f0cd7") false
    digraphNone_over (fun _ h => by cases h) (by kernel_rfl) (fun _ h => by cases h) digraphNone_row_tie rfl ⟨rfl, rfl⟩ (by kernel_rfl) rfl
    (fun f fn hf hfn => by
      obtain rfl : f = 10 := Option.some.inj ((show Tryd.prog.funcNamed "bandplan/bandplanlaw09.DigraphNone" = some 10 by kernel_rfl).symm.trans hf) |>.symm
      obtain rfl : fn = Tryd.f10 := (Option.some.inj (Tryd.func10.symm.trans hfn)).symm
      exact ⟨by kernel_rfl, fun j t ht => by
        rw [Tryd.params10] at ht
        rcases j with _ | j
        · obtain rfl : t = 3 := by simpa using ht.symm
          exact (show Tryd.prog.wantsStandIn 3 = false by kernel_rfl)
        · simp at ht⟩)
    (by kernel_rfl)
#print axioms digraphNoneCard_holds
end Go.Proofs.YtpaakgngoocjeaaDoor
