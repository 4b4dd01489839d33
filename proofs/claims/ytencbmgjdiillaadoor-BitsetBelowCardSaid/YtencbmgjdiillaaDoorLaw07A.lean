/- BitsetBelow: the set of all numbers less than any number, or the error, is as the statement says, whatever the number. -/
import Derived.Test.YtencbmgjdiillaaDoorDoor07
namespace Go.Proofs.YtencbmgjdiillaaDoor
open Go.RowKit Go.ChangeShapes Go.WideShapes Go.ChangeAt Go.Deep Go.Joins

theorem mem_low {n : Nat} (hn : n ≤ 512) : mem (2 ^ n - 1) = List.range n := by
  refine sorted_ext (mem_sorted _) List.pairwise_lt_range (fun x => ?_)
  rw [mem_iff (low_fit hn), List.mem_range, Nat.testBit_two_pow_sub_one]
  simp
def upI (k : Nat) : List Int := (List.range k).map fun i : Nat => (i : Int)
theorem upI_succ (k : Nat) : upI (k + 1) = upI k ++ [(k : Int)] := by simp [upI, List.range_succ]
theorem upI_len (k : Nat) : (upI k).length = k := by simp [upI]
theorem memI_low {n : Nat} (hn : n ≤ 512) : memI (2 ^ n - 1) = upI n := by unfold memI upI; rw [mem_low hn]

set_option maxHeartbeats 2000000 in
theorem bitsetBelow_out (w : World) (hT : Tab w) (n : Int) (hn : ¬ (0 ≤ n ∧ n ≤ 512)) : Calls Tryd.prog 4 #[.int .i64 n] w fun e w' => e = .returned (.bool true) ∧ Below w.heap.size w w' := by
  have HC := Lib.hid (below_out n w hn)
  have HT := Lib.hid hT
  have HK : Hid (∀ W, Below w.heap.size w W → Calls Tryd.prog 12 #[] W (RetPost (.bool true) W.heap.size W)) := Lib.hid (fun W hb => known_any W (hT.keep hb))
  have hze := z_eq
  rw [sV_zero] at HC hze
  by_cases h0 : n < 0
  · clear hn hT
    go_enter Tryd.func4, Tryd.ntmps4
    go_wp2_with fail
    refine HC.out.mono ?_
    rintro e W1 ⟨rfl, hb1⟩
    have HB1 := Lib.hid hb1
    have hsz := hb1.size
    clear hb1
    go_wp2_with fail
    refine (HK.out _ ((HB1.out.alloc hsz _).alloc (by simp; omega) _)).mono ?_
    rintro e W2 ⟨rfl, hb2⟩
    go_wp2_with fail
    go_ret
    exact ⟨rfl, ((HB1.out.alloc hsz _).alloc (by simp; omega) _).trans (hb2.mono (by simp; omega))⟩
  · have h1 : 512 < n := by omega
    clear hn hT
    go_enter Tryd.func4, Tryd.ntmps4
    go_wp2_with fail
    refine HC.out.mono ?_
    rintro e W1 ⟨rfl, hb1⟩
    have HB1 := Lib.hid hb1
    have hsz := hb1.size
    clear hb1
    go_wp2_with fail
    refine (HK.out _ ((HB1.out.alloc hsz _).alloc (by simp; omega) _)).mono ?_
    rintro e W2 ⟨rfl, hb2⟩
    go_wp2_with fail
    go_ret
    exact ⟨rfl, ((HB1.out.alloc hsz _).alloc (by simp; omega) _).trans (hb2.mono (by simp; omega))⟩

set_option maxHeartbeats 2000000 in
theorem bitsetBelow_in (w : World) (hT : Tab w) (n : Nat) (hn : n ≤ 512) : Calls Tryd.prog 4 #[.int .i64 n] w fun e w' => e = .returned (.bool true) ∧ Below w.heap.size w w' := by
  obtain ⟨i0, hi, hz0, hz1, hz2⟩ := info_parts int_info
  have HC := Lib.hid (below_in n w hn)
  have HM := Eqn.mk (memI_low hn)
  have HF := Lib.hid (low_fit hn)
  have HT := Lib.hid hT
  generalize 2 ^ n - 1 = S at *
  have HIS : Hid (∀ W A c, Tab W → Row1 intV W W.heap.size A n (memI S) → Calls Tryd.prog 17 #[sV S, .slice A n c] W (RetPost (.bool true) W.heap.size W)) := Lib.hid (fun W A c h1 h2 => is_any S A n c W HF.out h1 h2)
  have HK : Hid (∀ W, Below w.heap.size w W → Calls Tryd.prog 12 #[] W (RetPost (.bool true) W.heap.size W)) := Lib.hid (fun W hb => known_any W (hT.keep hb))
  rw [HM.out] at HIS
  have h0 : ¬ (512 : Int) < (n : Int) := by omega
  clear hT HM
  unfold sV at HC HIS
  go_enter Tryd.func4, Tryd.ntmps4
  go_wp2_with fail
  refine HC.out.mono ?_
  rintro e W1 ⟨rfl, hb1⟩
  have HB1 := Lib.hid hb1
  have hsz := hb1.size
  clear hb1
  go_wp2_with fail
  obtain ⟨V, hV⟩ : ∃ V, V = (W1.alloc (.cells (sL S).toArray 28)).alloc (.cells (sL 0).toArray 28) := ⟨_, rfl⟩
  have hX : Blk V W1.heap.size 28 (tabL 8 (sC S)) := by rw [hV, ← sL_tab]; exact (blk_new _ _ _).alloc _
  have hBV : Below w.heap.size w V := by rw [hV]; exact (HB1.out.alloc hsz _).alloc (by simp; omega) _
  have hXl : W1.heap.size < V.heap.size := hX.lt
  rw [sL_zero] at hV
  unfold sL at hV
  rw [← hV]
  have H0 := Lib.hid (And.intro hX hBV)
  have hVs := hBV.size
  clear hV hX hBV
  go_loopw [6, 7] (fun v i wr => ∃ k : Nat, k ≤ n ∧ i = .int .i64 k ∧ wr.ownsRow V.heap.size 3 1 v (upI k).length ((upI k).map intV) ∧ Below V.heap.size V wr) (fun _ i _ => n - (intOf i).toNat)
  case atStart => exact ⟨0, Nat.zero_le _, rfl, World.ownsRow_nil _ _ _ _, Below.refl _ _⟩
  case round =>
    obtain ⟨k, hk, rfl, hO, hB⟩ := hrel
    obtain ⟨A1, c1, rfl, _⟩ := row1_of_own hO
    have hlen := upI_len k
    have hbs := hB.size
    have H1 := Lib.hid (And.intro hO hB)
    clear hO hB
    by_cases hlt : k < n
    · have j0 : (k : Int) < (n : Int) := by omega
      have HS := Eqn.mk (upI_succ k)
      generalize upI k = L at *
      go_wp2_with (at_builtin; refine wpList_append_own_at _ rfl _ _ 22 rfl V.heap.size 3 i0 (.int .i64 0) 1 8 Tryd.underlying22 hi hz0 hz1 hz2 rfl (by decide) _ _ _ rfl (H1.out.1.alloc _) ⟨wr.heap.size, 0, none⟩ 1 1 [.int .i64 (k : Int)] rfl rfl (cell_one_new _ _ _) (by simp [Value.oneCell']) (by unfold maxLen; omega) (by omega) (by simp; omega) ?_; intro v' w3 hown' hgrow hnil hat; have H3 : Hid (w3.ownsRow V.heap.size 3 1 v' (L.length + 1) (L.map intV ++ [.int .i64 (k : Int)]) ∧ Below V.heap.size V w3) := Lib.hid ⟨hown', (H1.out.2.alloc hbs _).grown hgrow (by simp; omega) (fun g hg => own_ge H1.out.1 g hg)⟩; clear hown' hgrow hnil hat)
      clear hlen
      go_roundw
      case rel => exact ⟨k + 1, by omega, by go_num, by rw [HS.out, List.length_append, List.map_append]; exact H3.out.1, H3.out.2⟩
      case measure => simp [intOf]; omega
    · obtain rfl : k = n := by omega
      obtain ⟨hO, hB⟩ := H1.out
      have hr := (row1_of_own hO)
      obtain ⟨A2, c2, he, hr⟩ := hr
      cases he
      rw [hlen] at hr ⊢
      have hX := H0.out.1.keep hB
      obtain ⟨x0, x1, x2, x3, x4, x5, x6, x7⟩ := hX.eight
      have hBw := H0.out.2.trans (hB.mono hVs)
      have H2 := Lib.hid (And.intro hr hBw)
      clear hO hB hX hr hBw H1 hlen
      go_wp2_with fail
      refine (HIS.out _ _ _ (HT.out.keep H2.out.2) H2.out.1).mono ?_
      rintro e W2 ⟨rfl, hb2⟩
      have HB2 := Lib.hid (H2.out.2.trans (hb2.mono H2.out.2.size))
      clear hb2 x0 x1 x2 x3 x4 x5 x6 x7
      go_wp2_with fail
      refine (HK.out _ HB2.out).mono ?_
      rintro e W3 ⟨rfl, hb3⟩
      go_wp2_with fail
      go_ret
      exact ⟨rfl, HB2.out.trans (hb3.mono HB2.out.size)⟩

theorem bitsetBelow_walk (w : World) (hT : Tab w) (n : Int) (_ : I64 n) : Calls Tryd.prog 4 #[.int .i64 n] w fun e w' => e = .returned (.bool true) ∧ Below w.heap.size w w' := by
  by_cases h : 0 ≤ n ∧ n ≤ 512
  · obtain ⟨k, rfl⟩ : ∃ k : Nat, n = k := ⟨n.toNat, by omega⟩
    exact bitsetBelow_in w hT k (by omega)
  · exact bitsetBelow_out w hT n h

set_option maxRecDepth 100000 in
theorem bitsetBelow_lifted (os : Os) (started : os.Started) (H : Type) (enc : TypeId × Value → H) :
    ReturnsInHanded {} Tryd.checked os 4 .any (fun w args => (Rows.bitsetBelowSpec.pre enc Tryd.prog Tryd.f4 [] false w args ∧ laidMetH Tryd.prog laid07 w) ∧ sizedMet enc Tryd.prog Tryd.f4 (OpenSpec.ofChange Rows.bitsetBelowSpec) false w args) (Rows.bitsetBelowSpec.post enc Tryd.prog Tryd.f4 false true false false) := by
  refine handed_laid (C := Tryd.checked) (laid := laid07) own started (by kernel_rfl) Tryd.func4
    (ChangeSpec.witness_shaped (enc := enc) (C := Tryd.checked) (os := os) (X := fun w _ => laidMetH Tryd.prog laid07 w) false (World.laidAll Tryd.prog os laid07) #[.int .i64 0] 8 (World.laidAll_os _ _ _) (World.shaped_of_ZipB (by kernel_rfl) (by kernel_rfl)) (by kernel_rfl) (by kernel_rfl) (by kernel_rfl) (laidHold os _)) ?_
  intro W base args ds gs before hval0 hW hL hsh
  have hTab := tab_of hL hsh
  have hval : ∀ (j : Nat) t v, Tryd.f4.params[j]? = some t → args[j]? = some v → Value.okWide Tryd.prog W .any base t v := hval0
  have hW' := hW
  obtain ⟨p, q, hA0, hV, rfl, hfz, hnd⟩ := hW
  have hA : DataW.TrodAll enc Tryd.prog W 0 (fun _ => true) true Tryd.f4.params.toList args.toList ds p := hA0
  rw [Tryd.params4] at hA hval
  obtain ⟨v0, vs0, d0, ds0, p0, q0, hargs, rfl, rfl, h0, r0⟩ := trodAll_cons hA
  obtain ⟨rfl, rfl, rfl⟩ := trodAll_nil r0
  obtain rfl : args = #[v0] := by cases args; simp_all
  obtain ⟨rfl, rfl⟩ := trodVars_none hV
  have k0 := h0
  have lt0 : ∀ x ∈ p0, x.block < W.heap.size := by obtain ⟨m, hm⟩ := k0; exact DataW.trod_lt m _ _ _ hm
  obtain ⟨x0, rfl, b0⟩ := arg_int Tryd.underlying3 (hval 0 3 _ rfl rfl) h0
  clear hA0 hval0
  refine (bitsetBelow_walk W hTab x0 b0).mono fun e W' ⟨he, bel⟩ => ?_
  subst he
  exact ⟨_, rfl, _, _, _, [], _, [], hW', trodAll_mk1 (shut_bool Tryd.underlying4 _), (trodAll_cons_mk (Below.trod laidOut (by kernel_rfl) (of_decide_eq_true (by kernel_rfl)) k0 bel lt0) trodAll_mk0), rfl, bel.frame _, fun h => by cases h⟩

theorem bitsetBelow_over : Rows.bitsetBelowRow.holds Tryd.pinned (OpenSpec.ofChange Rows.bitsetBelowSpec) :=
  OpenClaim.holds_of_wide 4 Tryd.f4 rfl rfl rfl rfl rfl rfl rfl ⟨rfl, rfl, rfl, rfl, rfl⟩ rfl rfl rfl rfl rfl (by kernel_rfl) Tryd.func4 (by kernel_rfl)
    (of_decide_eq_true (by kernel_rfl)) (by unfold Func.isWrapper; first | (rw [if_pos (by decide +kernel)]; kernel_rfl) | (rw [if_neg (by decide +kernel)]; exact ⟨rfl, rfl⟩))
    (fun os started H enc _ => bitsetBelow_lifted os started H enc)

theorem bitsetBelowCard_holds : Rows.BitsetBelowCardSaid :=
  Claim7.holds_tied_plain_at .later [] [.data, .data, .data] true (true, "39aa42fe034a2cbedf78232cde6b0da1e7f2e4be5808576f250df2ef6185728f") false
    bitsetBelow_over (fun _ h => by cases h) (by kernel_rfl) (fun _ h => by cases h) bitsetBelow_row_tie rfl ⟨rfl, rfl⟩ (by kernel_rfl) rfl
    (fun f fn hf hfn => by
      obtain rfl : f = 4 := Option.some.inj ((show Tryd.prog.funcNamed "bandplan/bandplanlaw07.BitsetBelow" = some 4 by kernel_rfl).symm.trans hf) |>.symm
      obtain rfl : fn = Tryd.f4 := (Option.some.inj (Tryd.func4.symm.trans hfn)).symm
      exact ⟨by kernel_rfl, fun j t ht => by
        rw [Tryd.params4] at ht
        rcases j with _ | j
        · obtain rfl : t = 3 := by simpa using ht.symm
          exact (show Tryd.prog.wantsStandIn 3 = false by kernel_rfl)
        · simp at ht⟩)
    (by kernel_rfl)
#print axioms bitsetBelowCard_holds
end Go.Proofs.YtencbmgjdiillaaDoor
