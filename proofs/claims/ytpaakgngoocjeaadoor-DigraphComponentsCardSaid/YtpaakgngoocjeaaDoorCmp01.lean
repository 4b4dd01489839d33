/- DigraphComponents: the strongly connected components are those of the reference, in its order, whatever the number of vertices and the arcs. -/
import Derived.Test.YtpaakgngoocjeaaDoorDig16
namespace Go.Proofs.YtpaakgngoocjeaaDoor
open Go.RowKit Go.ChangeShapes Go.WideShapes Go.ChangeAt Go.Deep Go.Joins

/-- what the contracts ask of a graph of a list -/
theorem graph_rspec {n : Nat} {A : List (Int × Int)} (hn : n ≤ 512) (hA : VA n A) : RSpec (graphOf n A) A (compF (graphOf n A)) :=
  rspec_graph (graphOf_in n A) (by rw [graphOf_len]; exact hn) (graphOf_fit hn A) (okA_graph hA) (fun _ _ h => ed_arc h)
theorem compF_small {S : List Nat} (hI : InG S) (h512 : S.length ≤ 512) (hF : ∀ x ∈ S, Fit x) : (compF S).length ≤ 512 ∧ ∀ l ∈ (compF S).map zs, l.length ≤ 512 := by
  obtain ⟨G, h1, h2, h3, h4⟩ := compF_spec hI h512 hF
  have hc := leads_len S S.length
  refine ⟨by rw [h4, List.length_map, h3]; unfold cmN; omega, fun l hl => ?_⟩
  obtain ⟨p, hp, rfl⟩ := List.mem_map.1 hl
  rw [h4] at hp
  obtain ⟨j, _, rfl⟩ := List.mem_map.1 hp
  rw [zs_len]
  have h1 := mem_len (reachM S (ldr S j))
  have h2 := List.length_filter_le (fun w => (reachM S w).testBit (ldr S j)) (mem (reachM S (ldr S j)))
  unfold partL; omega

set_option maxRecDepth 100000 in
set_option maxHeartbeats 2000000 in
theorem digraphComponents_in (w : World) (hT : Tab w) (n : Nat) (Al : Option Addr) (m c : Nat) (l : List (Int × Int)) (hl : RowS 2 arcV w w.heap.size Al m l) (hn : n ≤ 10) (hm : m ≤ 25) :
    Calls Tryd.prog 5 #[.int .i64 n, .slice Al m c] w fun e w' => e = .returned (.bool true) ∧ Below w.heap.size w w' := by
  have HT := Lib.hid hT
  have HB := Lib.hid (build_any n Al m c l w (by omega) (by omega) hl)
  have hAl := buildK_len n l l.length
  have HVA := Lib.hid (va_build n l l.length)
  have HND := Lib.hid (nodup_build n l l.length)
  rw [show buildK n l l.length = buildA n l from rfl, hl.1] at hAl
  rw [show buildK n l l.length = buildA n l from rfl] at HVA HND
  have j0 : ¬ ((n : Int) < 0) := by omega
  have j1 : ¬ ((10 : Int) < (n : Int)) := by omega
  have j2 : ¬ ((25 : Int) < (m : Int)) := by omega
  generalize buildA n l = B at *
  clear hT hl
  go_enter Tryd.func5, Tryd.ntmps5
  go_wp2_with fail
  refine HB.out.mono ?_
  rintro e W1 ⟨gb, rb, cap, ext, vA, rfl, hP⟩
  have HP1 := Lib.hid hP
  have hG := bE_gat hP (by omega)
  have HG := Lib.hid hG
  obtain ⟨Ad, cA, rfl, hrow⟩ := bE_row hP
  have HROW := Lib.hid hrow
  clear hP hrow HB
  have HCS := Lib.hid (compF_small (graphOf_in n B) (by rw [graphOf_len]; omega) (graphOf_fit (by omega) B))
  have HC := Lib.hid (gcomps_any W1 (HT.out.keep HP1.out.below) hG (graphOf_in n B))
  have HRC := Lib.hid (fun W hb => rcomps_any n Ad B.length cA B (compF (graphOf n B)) W (by omega) (by omega) ((HROW.out.below hb).up hb.size) (graph_rspec (by omega) HVA.out) (by have := HCS.out.1; omega))
  generalize compF (graphOf n B) = R at *
  clear hG HG
  go_wp2_with fail
  refine HC.out.mono ?_
  rintro e W2 ⟨v2, rfl, hL2, hb2⟩
  have HL2 := Lib.hid hL2
  obtain ⟨A2, c2, _, rfl, _⟩ := hL2
  have HR2 := Lib.hid (HRC.out W2 hb2)
  have HB2 := Lib.hid (HP1.out.below.trans (hb2.mono HP1.out.below.size))
  clear hb2 HC HRC
  go_wp2_with fail
  refine HR2.out.mono ?_
  rintro e W3 ⟨v3, rfl, hL3, hb3⟩
  have HB3 := Lib.hid (HB2.out.trans (hb3.mono HB2.out.size))
  have HAL := (alike_yes (.slice A2 (R.map zs).length c2) v3 (R.map zs) W3 (by
    obtain ⟨A, c, vs, h1, h2, h3, h4⟩ := HL2.out
    exact ⟨A, c, vs, h1, (h2.below hb3).up hb3.size, h3, fun k x l hx hl => ((h4 k x l hx hl).below hb3).up hb3.size⟩) hL3 (by rw [List.length_map]; have := HCS.out.1; omega) (fun l hl => by have := HCS.out.2 l hl; omega))
  obtain ⟨A3, c3, _, rfl, _⟩ := hL3
  rw [List.length_map] at HAL
  replace HAL := Lib.hid HAL
  clear hb3 HR2 HL2
  go_wp2_with fail
  refine HAL.out.mono ?_
  rintro e W4 ⟨rfl, hb4⟩
  have HB4 := Lib.hid (HB3.out.trans (hb4.mono HB3.out.size))
  clear hb4 HAL
  go_wp2_with fail
  refine (known_any _ (HT.out.keep HB4.out)).mono ?_
  rintro e W6 ⟨rfl, hb6⟩
  have HB6 := Lib.hid (HB4.out.trans (hb6.mono HB4.out.size))
  clear hb6
  go_wp2_with fail
  go_ret
  exact ⟨rfl, HB6.out⟩
set_option maxRecDepth 100000 in
theorem digraphComponents_out (w : World) (hT : Tab w) (n : Int) (A : Option Addr) (m c : Nat) (h : ¬ (0 ≤ n ∧ n ≤ 10 ∧ (m : Int) ≤ 25)) :
    Calls Tryd.prog 5 #[.int .i64 n, .slice A m c] w fun e w' => e = .returned (.bool true) ∧ Below w.heap.size w w' := by
  have HK := Lib.hid (known_any w hT)
  clear hT
  by_cases h0 : n < 0
  · clear h
    go_enter Tryd.func5, Tryd.ntmps5
    go_wp2_with fail
    refine HK.out.mono ?_
    rintro e W1 ⟨rfl, hb1⟩
    have HB1 := Lib.hid hb1
    clear hb1
    go_wp2_with fail
    go_ret
    exact ⟨rfl, HB1.out⟩
  · by_cases h1 : 10 < n
    · clear h
      go_enter Tryd.func5, Tryd.ntmps5
      go_wp2_with fail
      refine HK.out.mono ?_
      rintro e W1 ⟨rfl, hb1⟩
      have HB1 := Lib.hid hb1
      clear hb1
      go_wp2_with fail
      go_ret
      exact ⟨rfl, HB1.out⟩
    · have h2 : (25 : Int) < (m : Int) := by omega
      clear h
      go_enter Tryd.func5, Tryd.ntmps5
      go_wp2_with fail
      refine HK.out.mono ?_
      rintro e W1 ⟨rfl, hb1⟩
      have HB1 := Lib.hid hb1
      clear hb1
      go_wp2_with fail
      go_ret
      exact ⟨rfl, HB1.out⟩
theorem digraphComponents_walk (w : World) (hT : Tab w) (n : Int) (_ : I64 n) (A : Option Addr) (m c : Nat) (l : List (Int × Int)) (hl : RowS 2 arcV w w.heap.size A m l ∧ m ≤ 9223372036854775807) :
    Calls Tryd.prog 5 #[.int .i64 n, .slice A m c] w fun e w' => e = .returned (.bool true) ∧ Below w.heap.size w w' := by
  by_cases h : 0 ≤ n ∧ n ≤ 10 ∧ (m : Int) ≤ 25
  · obtain ⟨k, rfl⟩ : ∃ k : Nat, n = (k : Int) := ⟨n.toNat, by omega⟩
    exact digraphComponents_in w hT k A m c l hl.1 (by omega) (by omega)
  · exact digraphComponents_out w hT n A m c h

set_option maxRecDepth 100000 in
theorem digraphComponents_lifted (os : Os) (started : os.Started) (H : Type) (enc : TypeId × Value → H) :
    ReturnsInHanded {} Tryd.checked os 5 .any (fun w args => (Rows.digraphComponentsSpec.pre enc Tryd.prog Tryd.f5 [] false w args ∧ laidMetH Tryd.prog laid07 w) ∧ sizedMet enc Tryd.prog Tryd.f5 (OpenSpec.ofChange Rows.digraphComponentsSpec) false w args) (Rows.digraphComponentsSpec.post enc Tryd.prog Tryd.f5 false true false false) := by
  refine handed_laid (C := Tryd.checked) (laid := laid07) own started (by kernel_rfl) Tryd.func5
    (ChangeSpec.witness_shaped (enc := enc) (C := Tryd.checked) (os := os) (X := fun w _ => laidMetH Tryd.prog laid07 w) false (World.laidAll Tryd.prog os laid07) #[.int .i64 0, .slice none 0 0] 8 (World.laidAll_os _ _ _) (World.shaped_of_ZipB (by kernel_rfl) (by kernel_rfl)) (by kernel_rfl) (by kernel_rfl) (by kernel_rfl) (laidHold os _)) ?_
  intro W base args ds gs before hval0 hW hL hsh
  have hTab := tab_of hL hsh
  have hval : ∀ (j : Nat) t v, Tryd.f5.params[j]? = some t → args[j]? = some v → Value.okWide Tryd.prog W .any base t v := hval0
  have hW' := hW
  obtain ⟨p, q, hA0, hV, rfl, hfz, hnd⟩ := hW
  have hA : DataW.TrodAll enc Tryd.prog W 0 (fun _ => true) true Tryd.f5.params.toList args.toList ds p := hA0
  rw [Tryd.params5] at hA hval
  obtain ⟨v0, vs0, d0, ds0, p0, q0, hargs, rfl, rfl, h0, r0⟩ := trodAll_cons hA
  obtain ⟨v1, vs1, d1, ds1, p1, q1, rfl, rfl, rfl, h1, r1⟩ := trodAll_cons r0
  obtain ⟨rfl, rfl, rfl⟩ := trodAll_nil r1
  obtain rfl : args = #[v0, v1] := by cases args; simp_all
  obtain ⟨rfl, rfl⟩ := trodVars_none hV
  have k0 := h0
  have lt0 : ∀ x ∈ p0, x.block < W.heap.size := by obtain ⟨m, hm⟩ := k0; exact DataW.trod_lt m _ _ _ hm
  have k1 := h1
  have lt1 : ∀ x ∈ p1, x.block < W.heap.size := by obtain ⟨m, hm⟩ := k1; exact DataW.trod_lt m _ _ _ hm
  obtain ⟨x0, rfl, b0⟩ := arg_int Tryd.underlying3 (hval 0 3 _ rfl rfl) h0
  obtain ⟨A1, n1, c1, xs1, rfl, R1⟩ := arg_arcs (hval 1 22 _ rfl rfl) h1
  clear hA0 hval0
  refine (digraphComponents_walk W hTab x0 b0 A1 n1 c1 xs1 R1).mono fun e W' ⟨he, bel⟩ => ?_
  subst he
  exact ⟨_, rfl, _, _, _, [], _, [], hW', trodAll_mk1 (shut_bool Tryd.underlying4 _), (trodAll_cons_mk (Below.trod laidOut (by kernel_rfl) (of_decide_eq_true (by kernel_rfl)) k0 bel lt0) (trodAll_cons_mk (Below.trod laidOut (by kernel_rfl) (of_decide_eq_true (by kernel_rfl)) k1 bel lt1) trodAll_mk0)), rfl, bel.frame _, fun h => by cases h⟩

theorem digraphComponents_over : Rows.digraphComponentsRow.holds Tryd.pinned (OpenSpec.ofChange Rows.digraphComponentsSpec) :=
  OpenClaim.holds_of_wide 5 Tryd.f5 rfl rfl rfl rfl rfl rfl rfl ⟨rfl, rfl, rfl, rfl, rfl⟩ rfl rfl rfl rfl rfl (by kernel_rfl) Tryd.func5 (by kernel_rfl)
    (of_decide_eq_true (by kernel_rfl)) (by unfold Func.isWrapper; first | (rw [if_pos (by decide +kernel)]; kernel_rfl) | (rw [if_neg (by decide +kernel)]; exact ⟨rfl, rfl⟩))
    (fun os started H enc _ => digraphComponents_lifted os started H enc)

theorem digraphComponentsCard_holds : Rows.DigraphComponentsCardSaid :=
  Claim7.holds_tied_plain_at .later [] [.data, .data, .data] true (true, "dec048aedef4f191fc220134fd400c69f28150d87cfbdac39091d757f58f0cd7") false
    digraphComponents_over (fun _ h => by cases h) (by kernel_rfl) (fun _ h => by cases h) digraphComponents_row_tie rfl ⟨rfl, rfl⟩ (by kernel_rfl) rfl
    (fun f fn hf hfn => by
      obtain rfl : f = 5 := Option.some.inj ((show Tryd.prog.funcNamed "bandplan/bandplanlaw09.DigraphComponents" = some 5 by kernel_rfl).symm.trans hf) |>.symm
      obtain rfl : fn = Tryd.f5 := (Option.some.inj (Tryd.func5.symm.trans hfn)).symm
      exact ⟨by kernel_rfl, fun j t ht => by
        rw [Tryd.params5] at ht
        rcases j with _ | j
        · obtain rfl : t = 3 := by simpa using ht.symm
          exact (show Tryd.prog.wantsStandIn 3 = false by kernel_rfl)
        rcases j with _ | j
        · obtain rfl : t = 22 := by simpa using ht.symm
          exact (show Tryd.prog.wantsStandIn 22 = false by kernel_rfl)
        · simp at ht⟩)
    (by kernel_rfl)
#print axioms digraphComponentsCard_holds
end Go.Proofs.YtpaakgngoocjeaaDoor
