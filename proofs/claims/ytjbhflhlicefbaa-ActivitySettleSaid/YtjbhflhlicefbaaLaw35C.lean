/- ActivitySettle: for every input the call returns true, and each argument reads afterwards as it read before. No conditions. -/
import Derived.Test.YtjbhflhlicefbaaRows
import Derived.Test.YtjbhflhlicefbaaOpenP
import Derived.Test.YtjbhflhlicefbaaKnown35
import Derived.Test.YtjbhflhlicefbaaSameB
import Derived.Test.YtjbhflhlicefbaaRSet
namespace Go.Proofs.Ytjbhflhlicefbaa
open Go.RowKit Go.ChangeShapes Go.WideShapes Go.ChangeAt

theorem own : ownKnob Try.prog.godebug = none := by kernel_rfl
theorem laidOut : laidOutB Try.prog = true := by kernel_rfl

/-- the form of an owned slice of numbers -/
theorem own_form {w : World} {base e n : Nat} {v : Value} {xs : List Int} (h : w.ownsRow base e 1 v n (xs.map intV)) : ∃ A c, v = .slice A n c ∧ Row1 intV w w.heap.size A n xs ∧ (∀ a, A = some a → base ≤ a.block ∧ a.block < w.heap.size ∧ a.spot = none ∧ a.off = 0 ∧ w.frozen? a = false) := by
  obtain ⟨A, c, rfl, hr⟩ := row1_of_own h
  refine ⟨A, c, rfl, hr, ?_⟩
  rintro a rfl
  rcases h.2 with ⟨h1, _⟩ | ⟨g, cap, cur, h1, h2, h3, _⟩
  · cases h1
  · injection h1 with h1 _ _
    injection h1 with h1
    subst h1
    refine ⟨h2, ?_, rfl, rfl, ?_⟩
    · rcases Nat.lt_or_ge g w.heap.size with h4 | h4
      · exact h4
      · rw [Array.getElem?_eq_none h4] at h3; cases h3
    · simp [World.frozen?, h3]

set_option maxHeartbeats 2000000 in
theorem activitySettle_walk (w : World) (A : Option Addr) (n c : Nat) (l : List Prod) (R : RowS 5 Prod.cell w w.heap.size A n l ∧ n ≤ 9223372036854775807) (x : Bidr) (Rx : Row1 intV w w.heap.size x.adr x.len x.blocks ∧ x.len ≤ 9223372036854775807) (pc : Int) (_ : I64 pc) :
    Calls Try.prog 7 #[.slice A n c, x.val, .int .i64 pc] w fun e w' => e = .returned (.bool true) ∧ Below w.heap.size w w' := by
  obtain ⟨hl, hn⟩ := R
  obtain ⟨hx, hxl⟩ := Rx
  obtain ⟨xi, xe, xw, xa, xl, xc, xb⟩ := x
  dsimp only at hx hxl
  have Hl := Lib.hid hl
  have Hx := Lib.hid hx
  clear hl hx
  have hL : Hid (Below w.heap.size w (w.alloc (.cells #[.int .i64 xi, .int .i64 xe, .int .i64 xw, .slice xa xl xc] 40))) := (Below.refl _ _).alloc (Nat.le_refl _) _
  unfold Bidr.val
  by_cases h1 : 140 < n
  · have d1 : (140 : Int) < (n : Int) := by omega
    go_enter Try.func7, Try.ntmps7
    go_wp2_with fail
    refine (known_any _).mono ?_
    rintro e w1 ⟨rfl, hb1⟩
    go_wp2
    go_ret
    exact ⟨rfl, hL.out.trans (hb1.mono (by simp))⟩
  · by_cases h2 : 140 < xl
    · have d1 : ¬ (140 : Int) < (n : Int) := by omega
      have d2 : (140 : Int) < (xl : Int) := by omega
      go_enter Try.func7, Try.ntmps7
      go_wp2_with fail
      refine (known_any _).mono ?_
      rintro e w1 ⟨rfl, hb1⟩
      go_wp2
      go_ret
      exact ⟨rfl, hL.out.trans (hb1.mono (by simp))⟩
    · have d1 : ¬ (140 : Int) < (n : Int) := by omega
      have d2 : ¬ (140 : Int) < (xl : Int) := by omega
      have hn2 : n ≤ 140 := by omega
      have hx2 : xl ≤ 1000 := by omega
      generalize hr : setF l ⟨xi, xe, xw, xa, xl, xc, xb⟩ pc = rr
      obtain ⟨si, se, sw, sb, er⟩ := rr
      have HR := Eqn.mk hr
      have HE : (er = 0 ∧ Eqn sb xb) ∨ ¬ er = 0 := by
        unfold setF at hr
        split at hr
        · left; simp only [_root_.Prod.mk.injEq] at hr; exact ⟨hr.2.2.2.2.symm, hr.2.2.2.1.symm⟩
        · right; simp only [_root_.Prod.mk.injEq] at hr; rw [← hr.2.2.2.2]; decide
      have hsl : sb.length ≤ 1000 := by
        unfold setF at hr
        split at hr
        · simp only [_root_.Prod.mk.injEq] at hr; rw [← hr.2.2.2.1, Hx.out.1]; exact hx2
        · simp only [_root_.Prod.mk.injEq] at hr; rw [← hr.2.2.2.1]; simp
      have t2 : (er != er) = false := by simp
      clear hr
      go_enter Try.func7, Try.ntmps7
      go_wp2_with fail
      refine (settle_any A n c pc _ l ⟨xi, xe, xw, xa, xl, xc, xb⟩ hn2 hx2 (by exact Hl.out.keep hL.out) (by exact Hx.out.keep hL.out)).mono ?_
      rw [HR.out]
      rintro e w1 ⟨v1, rfl, ho1, hb1⟩
      obtain ⟨A1, c1, rfl, hr1, hz1⟩ := own_form ho1
      have q1 := fun o => hb1.cell (p := ⟨w.heap.size, o, none⟩) (by simp)
      have B1 : Hid (Below w.heap.size w w1) := hL.out.trans (hb1.mono (by simp))
      have z1 : w.heap.size < w1.heap.size := by have := hb1.size; simp at this; omega
      have HR1 := Lib.hid hr1
      have HZ1 : Hid (∀ a, A1 = some a → w.heap.size + 1 ≤ a.block ∧ a.block < w1.heap.size ∧ a.spot = none ∧ a.off = 0 ∧ w1.frozen? a = false) := Lib.hid (by simpa using hz1)
      clear hb1 ho1 hr1 hz1
      have B2 : Hid (Below w.heap.size w (w1.alloc (.cells #[.int .i64 si, .int .i64 se, .int .i64 sw, .slice A1 sb.length c1] 40))) := B1.out.alloc B1.out.size _
      go_wp2_with fail
      refine (rSettle_any A n c pc _ l ⟨xi, xe, xw, xa, xl, xc, xb⟩ hn2 hx2 (by exact Hl.out.keep B2.out) (by exact Hx.out.keep B2.out)).mono ?_
      rw [HR.out]
      rintro e w2 ⟨v2, rfl, ho2, hb2⟩
      obtain ⟨A2, c2, rfl, hr2, _⟩ := own_form ho2
      have z2 : w1.heap.size < w2.heap.size := by have := hb2.size; simp at this; omega
      have hb2' : Below w1.heap.size w1 w2 := ((Below.refl _ _).alloc (Nat.le_refl _) _).trans (hb2.mono (by simp))
      have q2 := fun o => (hb2'.cell (p := ⟨w.heap.size, o, none⟩) z1).trans (q1 o)
      have y2 := fun o => hb2.cell (p := ⟨w1.heap.size, o, none⟩) (by simp)
      have B3 : Hid (Below w.heap.size w w2) := B1.out.trans (hb2'.mono (by omega))
      have HR2 := Lib.hid hr2
      have HR1' := Lib.hid (HR1.out.below hb2')
      have HB2 := Lib.hid hb2'
      clear hb2 hb2' ho2 hr2 q1
      have B4 : Hid (Below w2.heap.size w2 (w2.alloc (.cells #[.int .i64 si, .int .i64 se, .int .i64 sw, .slice A2 sb.length c2] 40))) := (Below.refl _ _).alloc (Nat.le_refl _) _
      go_wp2_with fail
      refine (same35 _ si se sw sb A1 A2 _ c1 _ c2 hsl (by exact (HR1'.out.up (by omega)).keep B4.out) (by exact HR2.out.keep B4.out)).mono ?_
      rintro e w3 ⟨rfl, hb3⟩
      have hb3' : Below w2.heap.size w2 w3 := B4.out.trans (hb3.mono (by simp))
      have z3 : w2.heap.size < w3.heap.size := by have := hb3.size; simp at this; omega
      have q3 := fun o => (hb3'.cell (p := ⟨w.heap.size, o, none⟩) (by simp; omega)).trans (q2 o)
      have y3 := fun o => (hb3'.cell (p := ⟨w1.heap.size, o, none⟩) z2).trans (y2 o)
      have B5 : Hid (Below w.heap.size w w3) := B3.out.trans (hb3'.mono (by omega))
      have HC : Hid (Below w1.heap.size w1 w3) := HB2.out.trans (hb3'.mono (by omega))
      clear hb3 hb3' q2 y2
      rcases HE with ⟨rfl, HS⟩ | hne
      · by_cases hp : 0 < xl
        · obtain ⟨b, off, rfl, hbl, hc⟩ := (Hx.out.below B5.out).2 hp
          obtain ⟨y, hy, _⟩ := drop_at (xs := xb) (k := 0) (by rw [Hx.out.1]; exact hp)
          have g1 := hc 0 y hy
          obtain ⟨b1, off1, rfl, _, hc1⟩ := (HR1.out.below HC.out).2 (by rw [HS.out, Hx.out.1]; exact hp)
          obtain ⟨k1, k2, _, k4, k5⟩ := HZ1.out _ rfl
          dsimp only at k1 k2 k4
          subst k4
          have g2 := hc1 0 y (by rw [HS.out]; exact hy)
          have fz := (HC.out.frozen (p := ⟨b1, 0, none⟩) k2).trans k5
          simp only [intV, Nat.add_zero] at g1 g2
          have p1 : (0 : Int) < (xl : Int) := by omega
          have p2 : (0 : Int) < (sb.length : Int) := by rw [HS.out, Hx.out.1]; exact p1
          have n1 : ¬ b = b1 := by omega
          have n2 : ¬ b1 = b := by omega
          have n3 : ¬ b1 = w.heap.size := by omega
          have n4 : ¬ w.heap.size = b1 := by omega
          have t5 : (y != y) = false := by simp
          have hw1 : b1 < w3.heap.size := by omega
          clear hc hc1 hy
          go_wp2_with fail
          refine (known_any _).mono ?_
          rintro e w4 ⟨rfl, hb4⟩
          go_wp2
          go_ret
          exact ⟨rfl, (B5.out.setCell (by simp; omega) _).trans (hb4.mono (by simp; omega))⟩
        · have p1 : ¬ (0 : Int) < (xl : Int) := by omega
          go_wp2_with fail
          refine (known_any _).mono ?_
          rintro e w4 ⟨rfl, hb4⟩
          go_wp2
          go_ret
          exact ⟨rfl, B5.out.trans (hb4.mono B5.out.size)⟩
      · have t6 : (er == 0) = false := by simpa using hne
        go_wp2_with fail
        refine (known_any _).mono ?_
        rintro e w4 ⟨rfl, hb4⟩
        go_wp2
        go_ret
        exact ⟨rfl, B5.out.trans (hb4.mono B5.out.size)⟩

set_option maxRecDepth 100000 in
theorem activitySettle_lifted (os : Os) (started : os.Started) (H : Type) (enc : TypeId × Value → H) :
    ReturnsInHanded {} Try.checked os 7 .any (Rows.activitySettleSpec.pre6 enc Try.prog Try.f7 Rows.activitySettleRow.domain false) (Rows.activitySettleSpec.post enc Try.prog Try.f7 false true false false) := by
  refine returnsInHanded_of_change (C := Try.checked) own started (by kernel_rfl) Try.func7
    (ChangeSpec.witness6 (enc := enc) (C := Try.checked) false ⟨#[], #[.slice none 0 0, .agg #[.int .i64 0, .int .i64 0, .int .i64 0, .slice none 0 0], .int .i64 0], []⟩ 8 (by kernel_rfl) (by kernel_rfl) (by kernel_rfl) (by kernel_rfl)) ?_
  intro W base args ds gs before hval0 hW hcnd _
  have hval : ∀ (j : Nat) t v, Try.f7.params[j]? = some t → args[j]? = some v → Value.okWide Try.prog W .any base t v := hval0
  have hW' := hW
  obtain ⟨p, q, hA0, hV, rfl, hfz, hnd⟩ := hW
  have hA : DataW.TrodAll enc Try.prog W 0 (fun _ => true) true Try.f7.params.toList args.toList ds p := hA0
  rw [Try.params7] at hA hval
  obtain ⟨v0, vs0, d0, ds0, p0, q0, hargs, rfl, rfl, h0, r0⟩ := trodAll_cons hA
  obtain ⟨v1, vs1, d1, ds1, p1, q1, rfl, rfl, rfl, h1, r1⟩ := trodAll_cons r0
  obtain ⟨v2, vs2, d2, ds2, p2, q2, rfl, rfl, rfl, h2, r2⟩ := trodAll_cons r1
  obtain ⟨rfl, rfl, rfl⟩ := trodAll_nil r2
  obtain rfl : args = #[v0, v1, v2] := by cases args; simp_all
  obtain ⟨rfl, rfl⟩ := trodVars_none hV
  have k0 := h0
  have lt0 : ∀ x ∈ p0, x.block < W.heap.size := by obtain ⟨m, hm⟩ := k0; exact DataW.trod_lt m _ _ _ hm
  have k1 := h1
  have lt1 : ∀ x ∈ p1, x.block < W.heap.size := by obtain ⟨m, hm⟩ := k1; exact DataW.trod_lt m _ _ _ hm
  have k2 := h2
  have lt2 : ∀ x ∈ p2, x.block < W.heap.size := by obtain ⟨m, hm⟩ := k2; exact DataW.trod_lt m _ _ _ hm
  obtain ⟨A0, n0, c0, xs0, rfl, R0⟩ := arg_prods (hval 0 38 _ rfl rfl) h0
  obtain ⟨y1, rfl, R1⟩ := arg_bidr (hval 1 40 _ rfl rfl) h1
  obtain ⟨x2, rfl, b2⟩ := arg_int Try.underlying3 (hval 2 3 _ rfl rfl) h2
  clear hA0 hval0
  refine (activitySettle_walk W A0 n0 c0 xs0 R0 y1 R1 x2 b2).mono fun e W' ⟨he, bel⟩ => ?_
  subst he
  exact ⟨_, rfl, _, _, _, [], _, [], hW', trodAll_mk1 (shut_bool Try.underlying4 _), (trodAll_cons_mk (Below.trod laidOut (by kernel_rfl) (of_decide_eq_true (by kernel_rfl)) k0 bel lt0) (trodAll_cons_mk (Below.trod laidOut (by kernel_rfl) (of_decide_eq_true (by kernel_rfl)) k1 bel lt1) (trodAll_cons_mk (Below.trod laidOut (by kernel_rfl) (of_decide_eq_true (by kernel_rfl)) k2 bel lt2) trodAll_mk0))), rfl, bel.frame _, fun h => by cases h⟩

theorem activitySettle_over : Rows.activitySettleRow.holds Try.pinned (OpenSpec.ofChange Rows.activitySettleSpec) :=
  OpenClaim.holds_of_wide 7 Try.f7 rfl rfl rfl rfl rfl rfl rfl ⟨rfl, rfl, rfl, rfl, rfl⟩ rfl rfl rfl rfl rfl (by kernel_rfl) Try.func7 (by kernel_rfl)
    (of_decide_eq_true (by kernel_rfl)) (by unfold Func.isWrapper; first | (rw [if_pos (by decide +kernel)]; kernel_rfl) | (rw [if_neg (by decide +kernel)]; exact ⟨rfl, rfl⟩))
    (fun os started H enc _ => activitySettle_lifted os started H enc)

theorem activitySettle_holds : Rows.ActivitySettleSaid := activitySettle_over
#print axioms activitySettle_holds

end Go.Proofs.Ytjbhflhlicefbaa
