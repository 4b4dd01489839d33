/- ActivityRoom: for every input the call returns true, and each argument reads afterwards as it read before. No conditions. -/
import Derived.Test.YtjbhflhlicefbaaRows
import Derived.Test.YtjbhflhlicefbaaOpenP
import Derived.Test.YtjbhflhlicefbaaKnown35
import Derived.Test.YtjbhflhlicefbaaActH
namespace Go.Proofs.Ytjbhflhlicefbaa
open Go.RowKit Go.ChangeShapes Go.WideShapes Go.ChangeAt

theorem own : ownKnob Try.prog.godebug = none := by kernel_rfl
theorem laidOut : laidOutB Try.prog = true := by kernel_rfl

theorem activityRoom_walk (w : World) (A : Option Addr) (n c : Nat) (l : List Prod) (R : RowS 5 Prod.cell w w.heap.size A n l ∧ n ≤ 9223372036854775807) (x : Bidr) (Rx : Row1 intV w w.heap.size x.adr x.len x.blocks ∧ x.len ≤ 9223372036854775807) (i : Int) (_ : I64 i) (ch : Int) (_ : I64 ch) :
    Calls Try.prog 6 #[.slice A n c, x.val, .int .i64 i, .int .i64 ch] w fun e w' => e = .returned (.bool true) ∧ Below w.heap.size w w' := by
  obtain ⟨hl, hn⟩ := R
  obtain ⟨hx, hxl⟩ := Rx
  have Hl := Lib.hid hl
  have Hx := Lib.hid hx
  clear hl hx
  have hL : Hid (Below w.heap.size w (w.alloc (.cells #[.int .i64 x.id, .int .i64 x.elig, .int .i64 x.waiv, .slice x.adr x.len x.cap] 40))) := (Below.refl _ _).alloc (Nat.le_refl _) _
  unfold Bidr.val
  by_cases h1 : 140 < n
  · have d1 : (140 : Int) < (n : Int) := by omega
    go_enter Try.func6, Try.ntmps6
    go_wp2_with fail
    refine (known_any _).mono ?_
    rintro e w1 ⟨rfl, hb1⟩
    go_wp2
    go_ret
    exact ⟨rfl, hL.out.trans (hb1.mono (by simp))⟩
  · by_cases h2 : 140 < x.len
    · have d1 : ¬ (140 : Int) < (n : Int) := by omega
      have d2 : (140 : Int) < (x.len : Int) := by omega
      go_enter Try.func6, Try.ntmps6
      go_wp2_with fail
      refine (known_any _).mono ?_
      rintro e w1 ⟨rfl, hb1⟩
      go_wp2
      go_ret
      exact ⟨rfl, hL.out.trans (hb1.mono (by simp))⟩
    · have d1 : ¬ (140 : Int) < (n : Int) := by omega
      have d2 : ¬ (140 : Int) < (x.len : Int) := by omega
      have hn2 : n ≤ 140 := by omega
      generalize hr : roomF l x i = rr
      generalize hm : limF l x i ch = mm
      obtain ⟨ra, rb⟩ := rr
      obtain ⟨ma, mb⟩ := mm
      have HR : Eqn (v2 (roomF l x i)) (.tuple #[.int .i64 ra, .int .i64 rb]) := by rw [Eqn, hr]; rfl
      have HM : Eqn (v2 (limF l x i ch)) (.tuple #[.int .i64 ma, .int .i64 mb]) := by rw [Eqn, hm]; rfl
      have t1 : (ra == ra) = true := by simp
      have t2 : (rb == rb) = true := by simp
      have t3 : (ma == ma) = true := by simp
      have t4 : (mb == mb) = true := by simp
      clear hr hm
      go_enter Try.func6, Try.ntmps6
      go_wp2_with fail
      refine (Room_any A n c i _ l x hn2 (by exact Hl.out.keep hL.out) (by exact Hx.out.keep hL.out)).mono ?_
      rw [HR.out]
      rintro e w1 ⟨rfl, hb1⟩
      have q1 := fun o => hb1.cell (p := ⟨w.heap.size, o, none⟩) (by simp)
      have B1 : Hid (Below w.heap.size w w1) := hL.out.trans (hb1.mono (by simp))
      have z1 : w.heap.size < w1.heap.size := by have := hb1.size; simp at this; omega
      clear hb1
      go_wp2_with fail
      refine (rRoom_any A n c i _ l x hn2 (by exact Hl.out.keep B1.out) (by exact Hx.out.keep B1.out)).mono ?_
      rw [HR.out]
      rintro e w2 ⟨rfl, hb2⟩
      have q2 := fun o => (hb2.cell (p := ⟨w.heap.size, o, none⟩) z1).trans (q1 o)
      have B2 : Hid (Below w.heap.size w w2) := B1.out.trans (hb2.mono B1.out.size)
      have z2 : w.heap.size < w2.heap.size := by have := hb2.size; omega
      clear hb2 q1
      go_wp2_with fail
      refine (Limit_any A n c i ch _ l x hn2 (by exact Hl.out.keep B2.out) (by exact Hx.out.keep B2.out)).mono ?_
      rw [HM.out]
      rintro e w3 ⟨rfl, hb3⟩
      have q3 := fun o => (hb3.cell (p := ⟨w.heap.size, o, none⟩) z2).trans (q2 o)
      have B3 : Hid (Below w.heap.size w w3) := B2.out.trans (hb3.mono B2.out.size)
      clear hb3 q2
      go_wp2_with fail
      refine (rLimit_any A n c i ch _ l x hn2 (by exact Hl.out.keep B3.out) (by exact Hx.out.keep B3.out)).mono ?_
      rw [HM.out]
      rintro e w4 ⟨rfl, hb4⟩
      have B4 : Hid (Below w.heap.size w w4) := B3.out.trans (hb4.mono B3.out.size)
      clear hb4 q3
      go_wp2_with fail
      refine (known_any _).mono ?_
      rintro e w5 ⟨rfl, hb5⟩
      go_wp2
      go_ret
      exact ⟨rfl, B4.out.trans (hb5.mono B4.out.size)⟩

set_option maxRecDepth 100000 in
theorem activityRoom_lifted (os : Os) (started : os.Started) (H : Type) (enc : TypeId × Value → H) :
    ReturnsInHanded {} Try.checked os 6 .any (Rows.activityRoomSpec.pre6 enc Try.prog Try.f6 Rows.activityRoomRow.domain false) (Rows.activityRoomSpec.post enc Try.prog Try.f6 false true false false) := by
  refine returnsInHanded_of_change (C := Try.checked) own started (by kernel_rfl) Try.func6
    (ChangeSpec.witness6 (enc := enc) (C := Try.checked) false ⟨#[], #[.slice none 0 0, .agg #[.int .i64 0, .int .i64 0, .int .i64 0, .slice none 0 0], .int .i64 0, .int .i64 0], []⟩ 8 (by kernel_rfl) (by kernel_rfl) (by kernel_rfl) (by kernel_rfl)) ?_
  intro W base args ds gs before hval0 hW hcnd _
  have hval : ∀ (j : Nat) t v, Try.f6.params[j]? = some t → args[j]? = some v → Value.okWide Try.prog W .any base t v := hval0
  have hW' := hW
  obtain ⟨p, q, hA0, hV, rfl, hfz, hnd⟩ := hW
  have hA : DataW.TrodAll enc Try.prog W 0 (fun _ => true) true Try.f6.params.toList args.toList ds p := hA0
  rw [Try.params6] at hA hval
  obtain ⟨v0, vs0, d0, ds0, p0, q0, hargs, rfl, rfl, h0, r0⟩ := trodAll_cons hA
  obtain ⟨v1, vs1, d1, ds1, p1, q1, rfl, rfl, rfl, h1, r1⟩ := trodAll_cons r0
  obtain ⟨v2, vs2, d2, ds2, p2, q2, rfl, rfl, rfl, h2, r2⟩ := trodAll_cons r1
  obtain ⟨v3, vs3, d3, ds3, p3, q3, rfl, rfl, rfl, h3, r3⟩ := trodAll_cons r2
  obtain ⟨rfl, rfl, rfl⟩ := trodAll_nil r3
  obtain rfl : args = #[v0, v1, v2, v3] := by cases args; simp_all
  obtain ⟨rfl, rfl⟩ := trodVars_none hV
  have k0 := h0
  have lt0 : ∀ x ∈ p0, x.block < W.heap.size := by obtain ⟨m, hm⟩ := k0; exact DataW.trod_lt m _ _ _ hm
  have k1 := h1
  have lt1 : ∀ x ∈ p1, x.block < W.heap.size := by obtain ⟨m, hm⟩ := k1; exact DataW.trod_lt m _ _ _ hm
  have k2 := h2
  have lt2 : ∀ x ∈ p2, x.block < W.heap.size := by obtain ⟨m, hm⟩ := k2; exact DataW.trod_lt m _ _ _ hm
  have k3 := h3
  have lt3 : ∀ x ∈ p3, x.block < W.heap.size := by obtain ⟨m, hm⟩ := k3; exact DataW.trod_lt m _ _ _ hm
  obtain ⟨A0, n0, c0, xs0, rfl, R0⟩ := arg_prods (hval 0 38 _ rfl rfl) h0
  obtain ⟨y1, rfl, R1⟩ := arg_bidr (hval 1 40 _ rfl rfl) h1
  obtain ⟨x2, rfl, b2⟩ := arg_int Try.underlying3 (hval 2 3 _ rfl rfl) h2
  obtain ⟨x3, rfl, b3⟩ := arg_int Try.underlying3 (hval 3 3 _ rfl rfl) h3
  clear hA0 hval0
  refine (activityRoom_walk W A0 n0 c0 xs0 R0 y1 R1 x2 b2 x3 b3).mono fun e W' ⟨he, bel⟩ => ?_
  subst he
  exact ⟨_, rfl, _, _, _, [], _, [], hW', trodAll_mk1 (shut_bool Try.underlying4 _), (trodAll_cons_mk (Below.trod laidOut (by kernel_rfl) (of_decide_eq_true (by kernel_rfl)) k0 bel lt0) (trodAll_cons_mk (Below.trod laidOut (by kernel_rfl) (of_decide_eq_true (by kernel_rfl)) k1 bel lt1) (trodAll_cons_mk (Below.trod laidOut (by kernel_rfl) (of_decide_eq_true (by kernel_rfl)) k2 bel lt2) (trodAll_cons_mk (Below.trod laidOut (by kernel_rfl) (of_decide_eq_true (by kernel_rfl)) k3 bel lt3) trodAll_mk0)))), rfl, bel.frame _, fun h => by cases h⟩

theorem activityRoom_over : Rows.activityRoomRow.holds Try.pinned (OpenSpec.ofChange Rows.activityRoomSpec) :=
  OpenClaim.holds_of_wide 6 Try.f6 rfl rfl rfl rfl rfl rfl rfl ⟨rfl, rfl, rfl, rfl, rfl⟩ rfl rfl rfl rfl rfl (by kernel_rfl) Try.func6 (by kernel_rfl)
    (of_decide_eq_true (by kernel_rfl)) (by unfold Func.isWrapper; first | (rw [if_pos (by decide +kernel)]; kernel_rfl) | (rw [if_neg (by decide +kernel)]; exact ⟨rfl, rfl⟩))
    (fun os started H enc _ => activityRoom_lifted os started H enc)

theorem activityRoom_holds : Rows.ActivityRoomSaid := activityRoom_over
#print axioms activityRoom_holds
end Go.Proofs.Ytjbhflhlicefbaa
