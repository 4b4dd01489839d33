/- DemandBids: for every input the call returns true, and each argument reads afterwards as it read before. No conditions. -/
import Derived.Test.YtoafkphcfhbnmaaRows
import Derived.Test.YtoafkphcfhbnmaaOpenB
import Derived.Test.YtoafkphcfhbnmaaKnown34
import Derived.Test.YtoafkphcfhbnmaaRBids
namespace Go.Proofs.Ytoafkphcfhbnmaa
open Go.RowKit Go.ChangeShapes Go.WideShapes Go.ChangeAt

theorem own : ownKnob Try.prog.godebug = none := by kernel_rfl
theorem laidOut : laidOutB Try.prog = true := by kernel_rfl

set_option maxRecDepth 100000 in
set_option maxHeartbeats 2000000 in
theorem demandBids_walk (w : World) (A : Option Addr) (n c : Nat) (l : List Prod) (R : RowS 5 Prod.cell w w.heap.size A n l ∧ n ≤ 9223372036854775807) (B : Option Addr) (m d : Nat) (bs : List Bidr) (Rb : BidsAt w w.heap.size B m bs ∧ m ≤ 9223372036854775807) (X : Option Addr) (q e : Nat) (ds : List BidV) (Rx : RowS 7 BidV.cell w w.heap.size X q ds ∧ q ≤ 9223372036854775807) :
    Calls Try.prog 10 #[.slice A n c, .slice B m d, .slice X q e] w fun e w' => e = .returned (.bool true) ∧ Below w.heap.size w w' := by
  obtain ⟨hl, hnn⟩ := R
  obtain ⟨hb, hmm⟩ := Rb
  obtain ⟨hx, hqq⟩ := Rx
  have Hl := Lib.hid hl
  have Hb := Lib.hid hb
  have Hx := Lib.hid hx
  clear hl hb hx
  by_cases hall : n ≤ 40 ∧ m ≤ 40 ∧ q ≤ 140
  · obtain ⟨h1, h2, h3⟩ := hall
    have d1 : ¬ (40 : Int) < (n : Int) := by omega
    have d2 : ¬ (40 : Int) < (m : Int) := by omega
    have d3 : ¬ (140 : Int) < (q : Int) := by omega
    generalize hv : bidsF l bs ds = vv
    have HV := Eqn.mk hv
    have t1 : (vv == vv) = true := by simp
    clear hv
    go_enter Try.func10, Try.ntmps10
    go_wp2_with fail
    refine (bids_any A B X n c m d q e _ l bs ds (by omega) (by omega) h3 Hl.out Hb.out Hx.out).mono ?_
    rw [HV.out]
    rintro e w1 ⟨rfl, hb1⟩
    have B1 := Lib.hid hb1
    clear hb1
    go_wp2_with fail
    refine (rbids_any A B X n c m d q _ _ l bs ds (by omega) (by omega) h3 (by exact Hl.out.keep B1.out) (by exact Hb.out.keep B1.out) (by exact Hx.out.keep B1.out)).mono ?_
    rw [HV.out]
    rintro e w2 ⟨rfl, hb2⟩
    have B2 : Hid (Below w.heap.size w w2) := B1.out.trans (hb2.mono B1.out.size)
    clear hb2
    go_wp2_with fail
    refine (known_any _).mono ?_
    rintro e w3 ⟨rfl, hb3⟩
    go_wp2
    go_ret
    exact ⟨rfl, B2.out.trans (hb3.mono B2.out.size)⟩
  · by_cases h1 : 40 < n
    · have d1 : (40 : Int) < (n : Int) := by omega
      go_enter Try.func10, Try.ntmps10
      go_wp2_with fail
      refine (known_any _).mono ?_
      rintro e w3 ⟨rfl, hb3⟩
      go_wp2
      go_ret
      exact ⟨rfl, hb3⟩
    · have d1 : ¬ (40 : Int) < (n : Int) := by omega
      by_cases h2 : 40 < m
      · have d2 : (40 : Int) < (m : Int) := by omega
        go_enter Try.func10, Try.ntmps10
        go_wp2_with fail
        refine (known_any _).mono ?_
        rintro e w3 ⟨rfl, hb3⟩
        go_wp2
        go_ret
        exact ⟨rfl, hb3⟩
      · have d2 : ¬ (40 : Int) < (m : Int) := by omega
        have d3 : (140 : Int) < (q : Int) := by omega
        go_enter Try.func10, Try.ntmps10
        go_wp2_with fail
        refine (known_any _).mono ?_
        rintro e w3 ⟨rfl, hb3⟩
        go_wp2
        go_ret
        exact ⟨rfl, hb3⟩

set_option maxRecDepth 100000 in
theorem demandBids_lifted (os : Os) (started : os.Started) (H : Type) (enc : TypeId × Value → H) :
    ReturnsInHanded {} Try.checked os 10 .any (Rows.demandBidsSpec.pre6 enc Try.prog Try.f10 Rows.demandBidsRow.domain false) (Rows.demandBidsSpec.post enc Try.prog Try.f10 false true false false) := by
  refine returnsInHanded_of_change (C := Try.checked) own started (by kernel_rfl) Try.func10
    (ChangeSpec.witness6 (enc := enc) (C := Try.checked) false ⟨#[], #[.slice none 0 0, .slice none 0 0, .slice none 0 0], []⟩ 8 (by kernel_rfl) (by kernel_rfl) (by kernel_rfl) (by kernel_rfl)) ?_
  intro W base args ds gs before hval0 hW hcnd _
  have hval : ∀ (j : Nat) t v, Try.f10.params[j]? = some t → args[j]? = some v → Value.okWide Try.prog W .any base t v := hval0
  have hW' := hW
  obtain ⟨p, q, hA0, hV, rfl, hfz, hnd⟩ := hW
  have hA : DataW.TrodAll enc Try.prog W 0 (fun _ => true) true Try.f10.params.toList args.toList ds p := hA0
  rw [Try.params10] at hA hval
  obtain ⟨v0, vs0, d0, ds0, p0, q0, hargs, rfl, rfl, h0, r0⟩ := trodAll_cons hA
  obtain ⟨v1, vs1, d1, ds1, p1, q1, rfl, rfl, rfl, h1, r1⟩ := trodAll_cons r0
  obtain ⟨v2, vs2, d2, ds2, p2, q2, rfl, rfl, rfl, h2, r2⟩ := trodAll_cons r1
  obtain ⟨rfl, rfl, rfl⟩ := trodAll_nil r2
  obtain rfl : args = #[v0, v1, v2] := by cases args; simp_all
  obtain ⟨rfl, rfl⟩ := trodVars_none hV
  have k0 := h0
  have lt0 : ∀ x ∈ p0, x.block < W.heap.size := by obtain ⟨m, hm⟩ := k0; exact DataW.trod_lt m _ _ _ hm
  have k1 := h1
  have lt1 : ∀ x ∈ p1, x.block < W.heap.size := by obtain ⟨m, hm⟩ := k1; exact DataW.trod_lt m _ _ _ hm
  have k2 := h2
  have lt2 : ∀ x ∈ p2, x.block < W.heap.size := by obtain ⟨m, hm⟩ := k2; exact DataW.trod_lt m _ _ _ hm
  obtain ⟨A0, n0, c0, xs0, rfl, R0⟩ := arg_prods (hval 0 22 _ rfl rfl) h0
  obtain ⟨A1, n1, c1, xs1, rfl, R1⟩ := arg_bidrs (hval 1 34 _ rfl rfl) h1
  obtain ⟨A2, n2, c2, xs2, rfl, R2⟩ := arg_bids (hval 2 53 _ rfl rfl) h2
  clear hA0 hval0
  refine (demandBids_walk W A0 n0 c0 xs0 R0 A1 n1 c1 xs1 R1 A2 n2 c2 xs2 R2).mono fun e W' ⟨he, bel⟩ => ?_
  subst he
  exact ⟨_, rfl, _, _, _, [], _, [], hW', trodAll_mk1 (shut_bool Try.underlying4 _), (trodAll_cons_mk (Below.trod laidOut (by kernel_rfl) (of_decide_eq_true (by kernel_rfl)) k0 bel lt0) (trodAll_cons_mk (Below.trod laidOut (by kernel_rfl) (of_decide_eq_true (by kernel_rfl)) k1 bel lt1) (trodAll_cons_mk (Below.trod laidOut (by kernel_rfl) (of_decide_eq_true (by kernel_rfl)) k2 bel lt2) trodAll_mk0))), rfl, bel.frame _, fun h => by cases h⟩

theorem demandBids_over : Rows.demandBidsRow.holds Try.pinned (OpenSpec.ofChange Rows.demandBidsSpec) :=
  OpenClaim.holds_of_wide 10 Try.f10 rfl rfl rfl rfl rfl rfl rfl ⟨rfl, rfl, rfl, rfl, rfl⟩ rfl rfl rfl rfl rfl (by kernel_rfl) Try.func10 (by kernel_rfl)
    (of_decide_eq_true (by kernel_rfl)) (by unfold Func.isWrapper; first | (rw [if_pos (by decide +kernel)]; kernel_rfl) | (rw [if_neg (by decide +kernel)]; exact ⟨rfl, rfl⟩))
    (fun os started H enc _ => demandBids_lifted os started H enc)

theorem demandBids_holds : Rows.DemandBidsSaid := demandBids_over
#print axioms demandBids_holds

end Go.Proofs.Ytoafkphcfhbnmaa
