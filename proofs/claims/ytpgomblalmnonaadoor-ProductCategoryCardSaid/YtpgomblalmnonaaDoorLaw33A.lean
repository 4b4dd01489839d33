/- ProductCategory, ProductWorth, ProductFind: for every input the call returns true, and each argument reads afterwards as it read before. No conditions. -/
import Derived.Test.YtpgomblalmnonaaDoorDoor
import Derived.Test.YtpgomblalmnonaaDoorKnown33
import Derived.Test.YtpgomblalmnonaaDoorCat33
import Derived.Test.YtpgomblalmnonaaDoorFind33
namespace Go.Proofs.YtpgomblalmnonaaDoor
open Go.RowKit Go.ChangeShapes Go.WideShapes Go.ChangeAt

set_option maxRecDepth 100000 in
set_option maxHeartbeats 2000000 in
theorem productCategory_walk (w : World) (x : Int) (_hx : I64 x) (y : Int) (_hy : I64 y) : Calls Tryd.prog 3 #[.int .i64 x, .int .i64 y] w fun e w' => e = .returned (.bool true) ∧ Below w.heap.size w w' := by
  generalize h1 : catF x = a
  generalize h2 : uniF y = b
  obtain ⟨a1, a2⟩ := a
  obtain ⟨b1, b2⟩ := b
  have H1 := Eqn.mk h1
  have H2 := Eqn.mk h2
  have e1 : (a1 == a1) = true := by simp
  have e2 : (a2 == a2) = true := by simp
  have e3 : (b1 == b1) = true := by simp
  have e4 : (b2 == b2) = true := by simp
  clear h1 h2
  go_enter Tryd.func3, Tryd.ntmps3
  go_wp2_with fail
  refine (category_any x _).mono ?_
  rw [H1.out]
  rintro e w1 ⟨rfl, rfl⟩
  simp only [v2]
  go_wp2_with fail
  refine (rcategory_any x _).mono ?_
  rw [H1.out]
  rintro e w1 ⟨rfl, rfl⟩
  simp only [v2]
  go_wp2_with fail
  refine (units33_any y _).mono ?_
  rw [H2.out]
  rintro e w1 ⟨rfl, rfl⟩
  simp only [v2]
  go_wp2_with fail
  refine (runits33_any y _).mono ?_
  rw [H2.out]
  rintro e w1 ⟨rfl, rfl⟩
  simp only [v2]
  go_wp2_with fail
  refine (known_any _).mono ?_
  rintro e w1 ⟨rfl, hb1⟩
  go_wp2_with fail
  go_ret
  exact ⟨rfl, hb1⟩

set_option maxRecDepth 100000 in
theorem productCategory_lifted (os : Os) (started : os.Started) (H : Type) (enc : TypeId × Value → H) :
    ReturnsInHanded {} Tryd.checked os 3 .any (fun w args => (Rows.productCategorySpec.pre enc Tryd.prog Tryd.f3 [] false w args ∧ laidMetH Tryd.prog laid33 w) ∧ sizedMet enc Tryd.prog Tryd.f3 (OpenSpec.ofChange Rows.productCategorySpec) false w args) (Rows.productCategorySpec.post enc Tryd.prog Tryd.f3 false true false false) := by
  refine returnsInHanded_of_change_and (C := Tryd.checked) (X := fun w _ => laidMetH Tryd.prog laid33 w) (fun _ _ _ hh h => h.of_heap hh) own started (by kernel_rfl) Tryd.func3
    (ChangeSpec.witness_shaped (enc := enc) (C := Tryd.checked) (os := os) (X := fun w _ => laidMetH Tryd.prog laid33 w) false (World.laidAll Tryd.prog os laid33) #[.int .i64 0, .int .i64 0] 8 (World.laidAll_os _ _ _) (World.shaped_of_ZipB (by kernel_rfl) (by kernel_rfl)) (by kernel_rfl) (by kernel_rfl) (by kernel_rfl) (laidHold os _)) ?_
  intro W base args ds gs before hval0 hW hcnd _ _ _
  have hval : ∀ (j : Nat) t v, Tryd.f3.params[j]? = some t → args[j]? = some v → Value.okWide Tryd.prog W .any base t v := hval0
  have hW' := hW
  obtain ⟨p, q, hA0, hV, rfl, hfz, hnd⟩ := hW
  have hA : DataW.TrodAll enc Tryd.prog W 0 (fun _ => true) true Tryd.f3.params.toList args.toList ds p := hA0
  rw [Tryd.params3] at hA hval
  obtain ⟨v0, vs0, d0, ds0, p0, q0, hargs, rfl, rfl, h0, r0⟩ := trodAll_cons hA
  obtain ⟨v1, vs1, d1, ds1, p1, q1, rfl, rfl, rfl, h1, r1⟩ := trodAll_cons r0
  obtain ⟨rfl, rfl, rfl⟩ := trodAll_nil r1
  obtain rfl : args = #[v0, v1] := by cases args; simp_all
  obtain ⟨rfl, rfl⟩ := trodVars_none hV
  have k0 := h0
  have lt0 : ∀ x ∈ p0, x.block < W.heap.size := by obtain ⟨m, hm⟩ := k0; exact DataW.trod_lt m _ _ _ hm
  have k1 := h1
  have lt1 : ∀ x ∈ p1, x.block < W.heap.size := by obtain ⟨m, hm⟩ := k1; exact DataW.trod_lt m _ _ _ hm
  obtain ⟨x0, rfl, b0⟩ := arg_int Tryd.underlying3 (hval 0 3 _ rfl rfl) h0
  obtain ⟨x1, rfl, b1⟩ := arg_int Tryd.underlying3 (hval 1 3 _ rfl rfl) h1
  clear hA0 hval0
  refine (productCategory_walk W x0 b0 x1 b1).mono fun e W' ⟨he, bel⟩ => ?_
  subst he
  exact ⟨_, rfl, _, _, _, [], _, [], hW', trodAll_mk1 (shut_bool Tryd.underlying4 _), (trodAll_cons_mk (Below.trod laidOut (by kernel_rfl) (of_decide_eq_true (by kernel_rfl)) k0 bel lt0) (trodAll_cons_mk (Below.trod laidOut (by kernel_rfl) (of_decide_eq_true (by kernel_rfl)) k1 bel lt1) trodAll_mk0)), rfl, bel.frame _, fun h => by cases h⟩

theorem productCategory_over : Rows.productCategoryRow.holds Tryd.pinned (OpenSpec.ofChange Rows.productCategorySpec) :=
  OpenClaim.holds_of_wide 3 Tryd.f3 rfl rfl rfl rfl rfl rfl rfl ⟨rfl, rfl, rfl, rfl, rfl⟩ rfl rfl rfl rfl rfl (by kernel_rfl) Tryd.func3 (by kernel_rfl)
    (of_decide_eq_true (by kernel_rfl)) (by unfold Func.isWrapper; first | (rw [if_pos (by decide +kernel)]; kernel_rfl) | (rw [if_neg (by decide +kernel)]; exact ⟨rfl, rfl⟩))
    (fun os started H enc _ => productCategory_lifted os started H enc)

theorem productCategoryCard_holds : Rows.ProductCategoryCardSaid :=
  Claim7.holds_tied_plain_at .later [] [.data, .data, .data] true (true, "99b0a6eeb5f712185567425eb08b9b8cd25ece7f1515afd70c80bd1073e70de0") false
    productCategory_over (fun _ h => by cases h) (by kernel_rfl) (fun _ h => by cases h) productCategory_row_tie rfl ⟨rfl, rfl⟩ (by kernel_rfl) rfl
    (fun f fn hf hfn => by
      obtain rfl : f = 3 := Option.some.inj ((show Tryd.prog.funcNamed "bandplan/bandplanlaw33.ProductCategory" = some 3 by kernel_rfl).symm.trans hf) |>.symm
      obtain rfl : fn = Tryd.f3 := (Option.some.inj (Tryd.func3.symm.trans hfn)).symm
      exact ⟨by kernel_rfl, fun j t ht => by
        rw [Tryd.params3] at ht
        rcases j with _ | j
        · obtain rfl : t = 3 := by simpa using ht.symm
          exact (show Tryd.prog.wantsStandIn 3 = false by kernel_rfl)
        rcases j with _ | j
        · obtain rfl : t = 3 := by simpa using ht.symm
          exact (show Tryd.prog.wantsStandIn 3 = false by kernel_rfl)
        · simp at ht⟩)
    (by kernel_rfl)
#print axioms productCategoryCard_holds
end Go.Proofs.YtpgomblalmnonaaDoor
