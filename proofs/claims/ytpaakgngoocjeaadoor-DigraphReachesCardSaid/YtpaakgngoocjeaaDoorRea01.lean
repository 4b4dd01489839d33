/- DigraphReaches: the vertices that are reachable from any vertex are as the statement says, whatever the number of vertices and the arcs. -/
import Derived.Test.YtpaakgngoocjeaaDoorDig16
namespace Go.Proofs.YtpaakgngoocjeaaDoor
open Go.RowKit Go.ChangeShapes Go.WideShapes Go.ChangeAt Go.Deep Go.Joins

theorem z8lit {W : World} {g t : Nat} (h : Blk W g t (tabL 8 (sC 0))) : W.cell? ⟨g, 0, none⟩ = some (.int .u64 0) ∧ W.cell? ⟨g, 1, none⟩ = some (.int .u64 0) ∧ W.cell? ⟨g, 2, none⟩ = some (.int .u64 0) ∧ W.cell? ⟨g, 3, none⟩ = some (.int .u64 0) ∧
    W.cell? ⟨g, 4, none⟩ = some (.int .u64 0) ∧ W.cell? ⟨g, 5, none⟩ = some (.int .u64 0) ∧ W.cell? ⟨g, 6, none⟩ = some (.int .u64 0) ∧ W.cell? ⟨g, 7, none⟩ = some (.int .u64 0) := by
  have := h.eight
  simpa [wd_zero] using this
set_option maxRecDepth 100000 in
set_option maxHeartbeats 1000000 in
theorem digraphReaches_in (w : World) (hT : Tab w) (n : Nat) (Al : Option Addr) (m c : Nat) (l : List (Int × Int)) (hl : RowS 2 arcV w w.heap.size Al m l) (v : Int) (hn : n ≤ 25) (hm : m ≤ 40) :
    Calls Tryd.prog 4 #[.int .i64 n, .slice Al m c, .int .i64 v] w fun e w' => e = .returned (.bool true) ∧ Below w.heap.size w w' := by
  have HT := Lib.hid hT
  have HB := Lib.hid (build_any n Al m c l w (by omega) (by omega) hl)
  have hAl := buildK_len n l l.length
  rw [show buildK n l l.length = buildA n l from rfl, hl.1] at hAl
  have j0 : ¬ ((n : Int) < 0) := by omega
  have j1 : ¬ ((25 : Int) < (n : Int)) := by omega
  have j2 : ¬ ((40 : Int) < (m : Int)) := by omega
  generalize buildA n l = B at *
  clear hT hl
  go_enter Tryd.func4, Tryd.ntmps4
  go_wp2_with fail
  refine HB.out.mono ?_
  rintro e W1 ⟨gb, rb, cap, ext, vA, rfl, hP⟩
  have HP1 := Lib.hid hP
  have hG := bE_gat hP (by omega)
  have HG := Lib.hid hG
  obtain ⟨Ad, cA, rfl, hrow⟩ := bE_row hP
  have HROW := Lib.hid hrow
  clear hP hrow HB
  by_cases hv : 0 ≤ v ∧ v < (n : Int)
  · obtain ⟨vn, rfl⟩ : ∃ vn : Nat, v = (vn : Int) := ⟨v.toNat, by omega⟩
    have k0 : ¬ ((vn : Int) < 0) := by omega
    have k1 : ¬ ((n : Int) ≤ (vn : Int)) := by omega
    have hvn : vn < n := by omega
    have HR := greachable_any vn W1 (HT.out.keep HP1.out.below) hG (graphOf_in n B) (by rw [graphOf_len]; exact hvn)
    have HRF := Lib.hid (reachM_fit (graphOf n B) vn)
    have HRR := Lib.hid (fun W hb => rreach_any n Ad B.length cA B vn W (by omega) (by omega) ((HROW.out.below hb).up hb.size) hvn)
    generalize reachM (graphOf n B) vn = rx at *
    unfold sV at HR
    replace HR := Lib.hid HR
    clear hv hG hvn HG
    go_wp2_with fail
    refine HR.out.mono ?_
    rintro e W2 ⟨rfl, hb2⟩
    obtain ⟨V2, hV2⟩ : ∃ V2, V2 = W2.alloc (.cells (sL rx).toArray 40) := ⟨_, rfl⟩
    have hQ2 := ((Hp.start W1).keep hb2).allocS rx 40
    rw [← hV2] at hQ2
    unfold sL at hV2
    have HQ2 := Lib.hid hQ2
    obtain ⟨c0_0, c0_1, c0_2, c0_3, c0_4, c0_5, c0_6, c0_7⟩ := (hQ2.blk 0 rfl).eight; have f0 := hQ2.f 0 rfl; have l0 := hQ2.lt 0 rfl
    have HB2 := Lib.hid (HP1.out.below.trans (hQ2.below.mono HP1.out.below.size))
    have HLI := list_any rx V2 HRF.out (HT.out.keep HB2.out)
    unfold sV at HLI
    replace HLI := Lib.hid HLI
    clear hb2 hQ2 HR
    go_upto_region 7 with fail
    rw [← hV2]
    clear hV2
    generalize W2.heap.size = p9 at *
    go_wp2_with fail
    refine HLI.out.mono ?_
    rintro e W3 ⟨v3, rfl, hown3, hb3⟩
    obtain ⟨A3, c3', rfl, hr3⟩ := row1_of_own hown3
    have HB3 := Lib.hid (HB2.out.trans (hb3.mono HB2.out.size))
    have hbw : Below W1.heap.size W1 W3 := HQ2.out.below.trans (hb3.mono HQ2.out.below.size)
    have HR4 := Lib.hid (HRR.out W3 hbw)
    have HR3 := Lib.hid hr3
    have hml : (memI rx).length ≤ 100000 := by have := mem_len rx; unfold memI; rw [List.length_map]; omega
    clear hb3 hown3 hr3 HLI c0_0 c0_1 c0_2 c0_3 c0_4 c0_5 c0_6 c0_7 f0 l0
    go_wp2_with fail
    refine HR4.out.mono ?_
    rintro e W4 ⟨v4, rfl, hown4, hb4⟩
    obtain ⟨A4, c4', rfl, hr4⟩ := row1_of_own hown4
    have HB4 := Lib.hid (HB3.out.trans (hb4.mono HB3.out.size))
    have HEQ := equal_any A3 A4 (memI rx).length c3' _ c4' W4 W4.heap.size (memI rx) (zs (mem rx)) hml ((HR3.out.below hb4).up hb4.size) hr4
    rw [show zs (mem rx) = memI rx from rfl, sameL_refl] at HEQ
    have HEQ := Lib.hid HEQ
    rw [show zs (mem rx) = memI rx from rfl]
    clear hb4 hown4 hr4 HR4 HR3
    go_wp2_with fail
    refine HEQ.out.mono ?_
    rintro e W5 ⟨rfl, hb5⟩
    have HB5 := Lib.hid (HB4.out.trans (hb5.mono HB4.out.size))
    clear hb5
    go_wp2_with fail
    refine (known_any _ (HT.out.keep HB5.out)).mono ?_
    rintro e W6 ⟨rfl, hb6⟩
    have HB6 := Lib.hid (HB5.out.trans (hb6.mono HB5.out.size))
    clear hb6
    go_wp2_with fail
    go_ret
    exact ⟨rfl, HB6.out⟩
  · have HRX := greachable_out v W1 hG (by rw [graphOf_len]; exact hv)
    have HEM := fun W => empty_any 0 fit_zero W
    rw [sV_zero] at HRX HEM
    replace HRX := Lib.hid HRX
    replace HEM := Lib.hid HEM
    by_cases hv0 : v < 0
    · have k0 : v < 0 := hv0
      clear hv hG
      go_wp2_with fail
      refine HRX.out.mono ?_
      rintro e W2 ⟨rfl, hb2⟩
      obtain ⟨V2, hV2⟩ : ∃ V2, V2 = W2.alloc (.cells (sL 0).toArray 40) := ⟨_, rfl⟩
      have hQ2 := ((Hp.start W1).keep hb2).allocS 0 40
      rw [← hV2] at hQ2
      have HQ2 := Lib.hid hQ2
      rw [sL_zero] at hV2
      obtain ⟨q00, q01, q02, q03, q04, q05, q06, q07⟩ := z8lit (hQ2.blk 0 rfl)
      have l0 := hQ2.lt 0 rfl
      have HB2 := Lib.hid (HP1.out.below.trans (hQ2.below.mono HP1.out.below.size))
      clear hb2 hQ2 HRX
      go_upto_region 7 with fail
      rw [← hV2]
      clear hV2
      generalize W2.heap.size = p9 at *
      go_wp2_with fail
      refine (HEM.out _).mono ?_
      rintro e W3 ⟨rfl, hb3⟩
      have HB3 := Lib.hid (HB2.out.trans (hb3.mono HB2.out.size))
      clear hb3 HEM
      go_wp2_with fail
      refine (known_any _ (HT.out.keep HB3.out)).mono ?_
      rintro e W6 ⟨rfl, hb6⟩
      have HB6 := Lib.hid (HB3.out.trans (hb6.mono HB3.out.size))
      clear hb6
      go_wp2_with fail
      go_ret
      exact ⟨rfl, HB6.out⟩
    · have k0 : ¬ v < 0 := hv0
      have k1 : (n : Int) ≤ v := by omega
      clear hv hG
      go_wp2_with fail
      refine HRX.out.mono ?_
      rintro e W2 ⟨rfl, hb2⟩
      obtain ⟨V2, hV2⟩ : ∃ V2, V2 = W2.alloc (.cells (sL 0).toArray 40) := ⟨_, rfl⟩
      have hQ2 := ((Hp.start W1).keep hb2).allocS 0 40
      rw [← hV2] at hQ2
      have HQ2 := Lib.hid hQ2
      rw [sL_zero] at hV2
      obtain ⟨q00, q01, q02, q03, q04, q05, q06, q07⟩ := z8lit (hQ2.blk 0 rfl)
      have l0 := hQ2.lt 0 rfl
      have HB2 := Lib.hid (HP1.out.below.trans (hQ2.below.mono HP1.out.below.size))
      clear hb2 hQ2 HRX
      go_upto_region 7 with fail
      rw [← hV2]
      clear hV2
      generalize W2.heap.size = p9 at *
      go_wp2_with fail
      refine (HEM.out _).mono ?_
      rintro e W3 ⟨rfl, hb3⟩
      have HB3 := Lib.hid (HB2.out.trans (hb3.mono HB2.out.size))
      clear hb3 HEM
      go_wp2_with fail
      refine (known_any _ (HT.out.keep HB3.out)).mono ?_
      rintro e W6 ⟨rfl, hb6⟩
      have HB6 := Lib.hid (HB3.out.trans (hb6.mono HB3.out.size))
      clear hb6
      go_wp2_with fail
      go_ret
      exact ⟨rfl, HB6.out⟩

set_option maxRecDepth 100000 in
theorem digraphReaches_out (w : World) (hT : Tab w) (n : Int) (A : Option Addr) (m c : Nat) (v : Int) (h : ¬ (0 ≤ n ∧ n ≤ 25 ∧ (m : Int) ≤ 40)) :
    Calls Tryd.prog 4 #[.int .i64 n, .slice A m c, .int .i64 v] w fun e w' => e = .returned (.bool true) ∧ Below w.heap.size w w' := by
  have HK := Lib.hid (known_any w hT)
  clear hT
  by_cases h0 : n < 0
  · clear h
    go_enter Tryd.func4, Tryd.ntmps4
    go_wp2_with fail
    refine HK.out.mono ?_
    rintro e W1 ⟨rfl, hb1⟩
    have HB1 := Lib.hid hb1
    clear hb1
    go_wp2_with fail
    go_ret
    exact ⟨rfl, HB1.out⟩
  · by_cases h1 : 25 < n
    · clear h
      go_enter Tryd.func4, Tryd.ntmps4
      go_wp2_with fail
      refine HK.out.mono ?_
      rintro e W1 ⟨rfl, hb1⟩
      have HB1 := Lib.hid hb1
      clear hb1
      go_wp2_with fail
      go_ret
      exact ⟨rfl, HB1.out⟩
    · have h2 : (40 : Int) < (m : Int) := by omega
      clear h
      go_enter Tryd.func4, Tryd.ntmps4
      go_wp2_with fail
      refine HK.out.mono ?_
      rintro e W1 ⟨rfl, hb1⟩
      have HB1 := Lib.hid hb1
      clear hb1
      go_wp2_with fail
      go_ret
      exact ⟨rfl, HB1.out⟩
theorem digraphReaches_walk (w : World) (hT : Tab w) (n : Int) (_ : I64 n) (A : Option Addr) (m c : Nat) (l : List (Int × Int)) (hl : RowS 2 arcV w w.heap.size A m l ∧ m ≤ 9223372036854775807) (v : Int) (_ : I64 v) :
    Calls Tryd.prog 4 #[.int .i64 n, .slice A m c, .int .i64 v] w fun e w' => e = .returned (.bool true) ∧ Below w.heap.size w w' := by
  by_cases h : 0 ≤ n ∧ n ≤ 25 ∧ (m : Int) ≤ 40
  · obtain ⟨k, rfl⟩ : ∃ k : Nat, n = (k : Int) := ⟨n.toNat, by omega⟩
    exact digraphReaches_in w hT k A m c l hl.1 v (by omega) (by omega)
  · exact digraphReaches_out w hT n A m c v h

set_option maxRecDepth 100000 in
theorem digraphReaches_lifted (os : Os) (started : os.Started) (H : Type) (enc : TypeId × Value → H) :
    ReturnsInHanded {} Tryd.checked os 4 .any (fun w args => (Rows.digraphReachesSpec.pre enc Tryd.prog Tryd.f4 [] false w args ∧ laidMetH Tryd.prog laid07 w) ∧ sizedMet enc Tryd.prog Tryd.f4 (OpenSpec.ofChange Rows.digraphReachesSpec) false w args) (Rows.digraphReachesSpec.post enc Tryd.prog Tryd.f4 false true false false) := by
  refine handed_laid (C := Tryd.checked) (laid := laid07) own started (by kernel_rfl) Tryd.func4
    (ChangeSpec.witness_shaped (enc := enc) (C := Tryd.checked) (os := os) (X := fun w _ => laidMetH Tryd.prog laid07 w) false (World.laidAll Tryd.prog os laid07) #[.int .i64 0, .slice none 0 0, .int .i64 0] 8 (World.laidAll_os _ _ _) (World.shaped_of_ZipB (by kernel_rfl) (by kernel_rfl)) (by kernel_rfl) (by kernel_rfl) (by kernel_rfl) (laidHold os _)) ?_
  intro W base args ds gs before hval0 hW hL hsh
  have hTab := tab_of hL hsh
  have hval : ∀ (j : Nat) t v, Tryd.f4.params[j]? = some t → args[j]? = some v → Value.okWide Tryd.prog W .any base t v := hval0
  have hW' := hW
  obtain ⟨p, q, hA0, hV, rfl, hfz, hnd⟩ := hW
  have hA : DataW.TrodAll enc Tryd.prog W 0 (fun _ => true) true Tryd.f4.params.toList args.toList ds p := hA0
  rw [Tryd.params4] at hA hval
  obtain ⟨v0, vs0, d0, ds0, p0, q0, hargs, rfl, rfl, h0, r0⟩ := trodAll_cons hA
  obtain ⟨v1, vs1, d1, ds1, p1, q1, rfl, rfl, rfl, h1, r1⟩ := trodAll_cons r0
  obtain ⟨v2, vs2, d2, ds2, p2, q2, rfl, rfl, rfl, h2, r2⟩ := trodAll_cons r1
  obtain ⟨rfl, rfl, rfl⟩ := trodAll_nil r2
  obtain rfl : args = #[v0, v1, v2] := by cases args; simp_all
  obtain ⟨rfl, rfl⟩ := trodVars_none hV
  have k0 := h0
  have lt0 : ∀ x ∈ p0, x.block < W.heap.size := by obtain ⟨m, hm⟩ := k0; exact DataW.trod_lt m _ _ _ hm
  have k1 := h1
  have lt1 : ∀ x ∈ p1, x.block < W.heap.size := by obtain ⟨m, hm⟩ := k1; exact DataW.trod_lt m _ _ _ hm
  have k2 := h2
  have lt2 : ∀ x ∈ p2, x.block < W.heap.size := by obtain ⟨m, hm⟩ := k2; exact DataW.trod_lt m _ _ _ hm
  obtain ⟨x0, rfl, b0⟩ := arg_int Tryd.underlying3 (hval 0 3 _ rfl rfl) h0
  obtain ⟨A1, n1, c1, xs1, rfl, R1⟩ := arg_arcs (hval 1 22 _ rfl rfl) h1
  obtain ⟨x2, rfl, b2⟩ := arg_int Tryd.underlying3 (hval 2 3 _ rfl rfl) h2
  clear hA0 hval0
  refine (digraphReaches_walk W hTab x0 b0 A1 n1 c1 xs1 R1 x2 b2).mono fun e W' ⟨he, bel⟩ => ?_
  subst he
  exact ⟨_, rfl, _, _, _, [], _, [], hW', trodAll_mk1 (shut_bool Tryd.underlying4 _), (trodAll_cons_mk (Below.trod laidOut (by kernel_rfl) (of_decide_eq_true (by kernel_rfl)) k0 bel lt0) (trodAll_cons_mk (Below.trod laidOut (by kernel_rfl) (of_decide_eq_true (by kernel_rfl)) k1 bel lt1) (trodAll_cons_mk (Below.trod laidOut (by kernel_rfl) (of_decide_eq_true (by kernel_rfl)) k2 bel lt2) trodAll_mk0))), rfl, bel.frame _, fun h => by cases h⟩

theorem digraphReaches_over : Rows.digraphReachesRow.holds Tryd.pinned (OpenSpec.ofChange Rows.digraphReachesSpec) :=
  OpenClaim.holds_of_wide 4 Tryd.f4 rfl rfl rfl rfl rfl rfl rfl ⟨rfl, rfl, rfl, rfl, rfl⟩ rfl rfl rfl rfl rfl (by kernel_rfl) Tryd.func4 (by kernel_rfl)
    (of_decide_eq_true (by kernel_rfl)) (by unfold Func.isWrapper; first | (rw [if_pos (by decide +kernel)]; kernel_rfl) | (rw [if_neg (by decide +kernel)]; exact ⟨rfl, rfl⟩))
    (fun os started H enc _ => digraphReaches_lifted os started H enc)

theorem digraphReachesCard_holds : Rows.DigraphReachesCardSaid :=
  Claim7.holds_tied_plain_at .later [] [.data, .data, .data] true (true, "dec048aedef4f191fc220134fd400c69f28150d87cfbdac39091d757f58f0cd7") false
    digraphReaches_over (fun _ h => by cases h) (by kernel_rfl) (fun _ h => by cases h) digraphReaches_row_tie rfl ⟨rfl, rfl⟩ (by kernel_rfl) rfl
    (fun f fn hf hfn => by
      obtain rfl : f = 4 := Option.some.inj ((show Tryd.prog.funcNamed "bandplan/bandplanlaw09.DigraphReaches" = some 4 by kernel_rfl).symm.trans hf) |>.symm
      obtain rfl : fn = Tryd.f4 := (Option.some.inj (Tryd.func4.symm.trans hfn)).symm
      exact ⟨by kernel_rfl, fun j t ht => by
        rw [Tryd.params4] at ht
        rcases j with _ | j
        · obtain rfl : t = 3 := by simpa using ht.symm
          exact (show Tryd.prog.wantsStandIn 3 = false by kernel_rfl)
        rcases j with _ | j
        · obtain rfl : t = 22 := by simpa using ht.symm
          exact (show Tryd.prog.wantsStandIn 22 = false by kernel_rfl)
        rcases j with _ | j
        · obtain rfl : t = 3 := by simpa using ht.symm
          exact (show Tryd.prog.wantsStandIn 3 = false by kernel_rfl)
        · simp at ht⟩)
    (by kernel_rfl)
#print axioms digraphReachesCard_holds
end Go.Proofs.YtpaakgngoocjeaaDoor
