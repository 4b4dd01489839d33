/- ActivityHolds: for every input the call returns true, and each argument reads afterwards as it read before. No conditions. -/
import Derived.Test.YtjbhflhlicefbaaRows
import Derived.Test.YtjbhflhlicefbaaOpenP
import Derived.Test.YtjbhflhlicefbaaKnown35
import Derived.Test.YtjbhflhlicefbaaPlain35
namespace Go.Proofs.Ytjbhflhlicefbaa
open Go.RowKit Go.ChangeShapes Go.WideShapes Go.ChangeAt

theorem own : ownKnob Try.prog.godebug = none := by kernel_rfl
theorem laidOut : laidOutB Try.prog = true := by kernel_rfl

/-- a bidder that is laid into a slice of one, in a world that comes later -/
theorem one_at {w1 : World} (xi xe xw : Int) (xa : Option Addr) (xl xc : Nat) (xb : List Int) {g : Nat} (hg : g = w1.heap.size) (hx : Row1 intV w1 w1.heap.size xa xl xb) :
    BidsAt (w1.alloc (.cells #[.int .i64 xi, .int .i64 xe, .int .i64 xw, .slice xa xl xc] 40)) (w1.alloc (.cells #[.int .i64 xi, .int .i64 xe, .int .i64 xw, .slice xa xl xc] 40)).heap.size (some ⟨g, 0, none⟩) 1 [⟨xi, xe, xw, xa, xl, xc, xb⟩] := by
  subst hg
  exact (bidsAt_one w1 ⟨xi, xe, xw, xa, xl, xc, xb⟩ w1.heap.size (Nat.le_refl _) hx 40).up (by simp)

set_option maxRecDepth 100000 in
set_option maxHeartbeats 4000000 in
theorem activityHolds_walk (w : World) (A : Option Addr) (n c : Nat) (l : List Prod) (R : RowS 5 Prod.cell w w.heap.size A n l ∧ n ≤ 9223372036854775807) (x : Bidr) (Rx : Row1 intV w w.heap.size x.adr x.len x.blocks ∧ x.len ≤ 9223372036854775807) (i : Int) (_ : I64 i) (ch : Int) (_ : I64 ch) (pc : Int) (_ : I64 pc) :
    Calls Try.prog 8 #[.slice A n c, x.val, .int .i64 i, .int .i64 ch, .int .i64 pc] w fun e w' => e = .returned (.bool true) ∧ Below w.heap.size w w' := by
  obtain ⟨hl, hn⟩ := R
  obtain ⟨hx, hxl⟩ := Rx
  obtain ⟨xi, xe, xw, xa, xl, xc, xb⟩ := x
  dsimp only at hx hxl
  have Hl := Lib.hid hl
  have Hx := Lib.hid hx
  have Hll := Eqn.mk hl.1
  have Hxl := Eqn.mk hx.1
  clear hl hx
  have hL : Hid (Below w.heap.size w (w.alloc (.cells #[.int .i64 xi, .int .i64 xe, .int .i64 xw, .slice xa xl xc] 40))) := (Below.refl _ _).alloc (Nat.le_refl _) _
  unfold Bidr.val
  by_cases h1 : 40 < n
  · have d1 : (40 : Int) < (n : Int) := by omega
    go_enter Try.func8, Try.ntmps8
    go_wp2_with fail
    refine (known_any _).mono ?_
    rintro e w1 ⟨rfl, hb1⟩
    go_wp2
    go_ret
    exact ⟨rfl, hL.out.trans (hb1.mono (by simp))⟩
  · have d1 : ¬ (40 : Int) < (n : Int) := by omega
    by_cases h2 : 40 < xl
    · have d2 : (40 : Int) < (xl : Int) := by omega
      go_enter Try.func8, Try.ntmps8
      go_wp2_with fail
      refine (known_any _).mono ?_
      rintro e w1 ⟨rfl, hb1⟩
      go_wp2
      go_ret
      exact ⟨rfl, hL.out.trans (hb1.mono (by simp))⟩
    · have d2 : ¬ (40 : Int) < (xl : Int) := by omega
      have hn2 : n ≤ 140 := by omega
      have hx2 : xl ≤ 1000 := by omega
      have B0 : Hid (Below w.heap.size w ((w.alloc (.cells #[.int .i64 xi, .int .i64 xe, .int .i64 xw, .slice xa xl xc] 40)).alloc (.cells #[.int .i64 xi, .int .i64 xe, .int .i64 xw, .slice xa xl xc] 40))) := hL.out.alloc (by simp) _
      cases hv : vBidders l [⟨xi, xe, xw, xa, xl, xc, xb⟩] with
      | false =>
        have HV := Eqn.mk hv
        clear hv
        go_enter Try.func8, Try.ntmps8
        go_wp2_with fail
        refine (vBidders_any A _ n c 1 1 _ l [⟨xi, xe, xw, xa, xl, xc, xb⟩] hn2 (by omega) (by exact Hl.out.keep B0.out) (by exact one_at xi xe xw xa xl xc xb (by simp) (Hx.out.keep hL.out))).mono ?_
        rw [HV.out]
        rintro e w1 ⟨rfl, hb1⟩
        have B1 : Hid (Below w.heap.size w w1) := B0.out.trans (hb1.mono (by simp <;> omega))
        clear hb1
        go_wp2_with fail
        refine (known_any _).mono ?_
        rintro e w2 ⟨rfl, hb2⟩
        go_wp2
        go_ret
        exact ⟨rfl, B1.out.trans (hb2.mono B1.out.size)⟩
      | true =>
        have HV := Eqn.mk hv
        have HVV := Lib.hid hv
        have hone := vBidders_one hv
        dsimp only at hone
        have hU : Eqn (dUnits l xb) (.tuple #[.int .i64 (unitsF l xb), .int .i64 0]) := by
          unfold dUnits dValid Eqn; rw [hone.1, hone.2.1]; rfl
        have Hnx : Eqn (xl : Int) (n : Int) := by
          have := (fitsF_spec l xb hone.2.1).1
          rw [Hll.out, Hxl.out] at this
          unfold Eqn; omega
        have t0 : ((xl : Int) != (n : Int)) = false := by rw [Hnx.out]; simp
        clear hv hone
        go_enter Try.func8, Try.ntmps8
        go_wp2_with fail
        refine (vBidders_any A _ n c 1 1 _ l [⟨xi, xe, xw, xa, xl, xc, xb⟩] hn2 (by omega) (by exact Hl.out.keep B0.out) (by exact one_at xi xe xw xa xl xc xb (by simp) (Hx.out.keep hL.out))).mono ?_
        rw [HV.out]
        rintro e w1 ⟨rfl, hb1⟩
        have B1 : Hid (Below w.heap.size w w1) := B0.out.trans (hb1.mono (by simp <;> omega))
        have q1 := fun o => hb1.cell (p := ⟨w.heap.size, o, none⟩) (by simp <;> omega)
        have z1 : w.heap.size < w1.heap.size := by have := hb1.size; simp at this; omega
        clear hb1
        go_wp2_with fail
        refine (dUnits_any A xa n c xl xc _ l xb hn2 (by exact Hl.out.keep B1.out) (by exact Hx.out.keep B1.out)).mono ?_
        rw [hU.out]
        rintro e w2 ⟨rfl, hb2⟩
        have B2 : Hid (Below w.heap.size w w2) := B1.out.trans (hb2.mono B1.out.size)
        have q2 := fun o => (hb2.cell (p := ⟨w.heap.size, o, none⟩) z1).trans (q1 o)
        have z2 : w.heap.size < w2.heap.size := by have := hb2.size; omega
        clear hb2 q1
        by_cases hp : 1 ≤ pc ∧ pc ≤ 100
        · have hsk := fun ke kw er hk => settled (x := ⟨xi, xe, xw, xa, xl, xc, xb⟩) HVV.out hp.1 hp.2 (ke := ke) (kw := kw) (er := er) hk
          dsimp only at hsk
          generalize hk : keepF xe xw (unitsF l xb) pc = kk at hsk
          obtain ⟨ke, kw, ker⟩ := kk
          obtain ⟨s1, s2, s3, s4, s5, s6⟩ := hsk ke kw ker rfl
          have HR : Eqn (setF l ⟨xi, xe, xw, xa, xl, xc, xb⟩ pc) (xi, ke, kw, xb, 0) := by
            unfold setF Eqn; rw [if_pos ⟨HVV.out, hp.1, hp.2⟩]; dsimp only; rw [hk]
          have HQ : Eqn (v2 (reqF ke pc)) (.tuple #[.int .i64 (reqN ke pc), .int .i64 0]) := by unfold reqF Eqn; rw [if_pos s4]; rfl
          have S6 := Lib.hid s6
          have n1 : ¬ xe < ke := by omega
          have n2 : ¬ ke < unitsF l xb := by omega
          have n3 : ¬ xw < kw := by omega
          have n4 : (xw == 0) = false ∨ ((xw == 0) = true ∧ ¬ unitsF l xb < reqN ke pc) := by
            by_cases h0 : xw = 0
            · right; exact ⟨by simpa using h0, by have := s5 h0; omega⟩
            · left; simpa using h0
          clear hsk hk s5 s6 s4
          generalize unitsF l xb = uu at *
          generalize reqN ke pc = rq at *
          go_wp2_with fail
          refine (settle_any A n c pc _ l ⟨xi, xe, xw, xa, xl, xc, xb⟩ hn2 hx2 (by exact Hl.out.keep B2.out) (by exact Hx.out.keep B2.out)).mono ?_
          rw [HR.out]
          rintro e w3 ⟨v3, rfl, ho3, hb3⟩
          obtain ⟨A3, c3, rfl, hr3, _⟩ := own_form ho3
          have B3 : Hid (Below w.heap.size w w3) := B2.out.trans (hb3.mono B2.out.size)
          have q3 := fun o => (hb3.cell (p := ⟨w.heap.size, o, none⟩) z2).trans (q2 o)
          have z3 : w.heap.size < w3.heap.size := Nat.lt_of_lt_of_le z2 hb3.size
          have HR3 := Lib.hid hr3
          clear hb3 ho3 hr3 q2
          have B4 : Hid (Below w.heap.size w (w3.alloc (.cells #[.int .i64 xi, .int .i64 ke, .int .i64 kw, .slice A3 xb.length c3] 40))) := B3.out.alloc B3.out.size _
          have B4' : Hid (Below w3.heap.size w3 (w3.alloc (.cells #[.int .i64 xi, .int .i64 ke, .int .i64 kw, .slice A3 xb.length c3] 40))) := (Below.refl _ _).alloc (Nat.le_refl _) _
          have B4a : Hid (Below w.heap.size w ((w3.alloc (.cells #[.int .i64 xi, .int .i64 ke, .int .i64 kw, .slice A3 xb.length c3] 40)).alloc (.cells #[.int .i64 xi, .int .i64 ke, .int .i64 kw, .slice A3 xb.length c3] 40))) := B4.out.alloc B4.out.size _
          have q4 := fun o => (World.cell?_alloc_lt w3 (.cells #[.int .i64 xi, .int .i64 ke, .int .i64 kw, .slice A3 xb.length c3] 40) ⟨w.heap.size, o, none⟩ z3).trans (q3 o)
          go_wp2_with fail
          refine (required_any _ _ _).mono ?_
          rw [HQ.out]
          rintro e w' ⟨rfl, rfl⟩
          rcases n4 with n4 | ⟨n4, n5⟩
          all_goals
            go_wp2_with fail
            refine (vBidders_any A _ n c 1 1 _ l [⟨xi, ke, kw, A3, xb.length, c3, xb⟩] hn2 (by omega) (by exact Hl.out.keep B4a.out) (by exact one_at xi ke kw A3 xb.length c3 xb (by simp) (HR3.out.keep B4'.out))).mono ?_
            rw [S6.out]
            rintro e w5 ⟨rfl, hb5⟩
            have B5 : Hid (Below w.heap.size w w5) := B4a.out.trans (hb5.mono B4a.out.size)
            have q5 := fun o => (hb5.cell (p := ⟨w.heap.size, o, none⟩) (by simp; omega)).trans ((World.cell?_alloc_lt _ _ ⟨w.heap.size, o, none⟩ (by simp; omega)).trans (q4 o))
            have z5 : w.heap.size < w5.heap.size := by have := hb5.size; simp at this; omega
            clear hb5
            by_cases hi : 0 ≤ i ∧ i < (n : Int)
            · obtain ⟨k, rfl⟩ := Int.eq_ofNat_of_zero_le hi.1
              obtain ⟨rm, nn, next, e1, e2, e3, g1, g2, g3, g4, g5, g6, g7, g8, g9⟩ := changed (x := ⟨xi, xe, xw, xa, xl, xc, xb⟩) HVV.out (k := k) (by rw [Hll.out]; omega) ch
              dsimp only at e3 g7 g8 g9
              have E1 : Eqn (v2 (roomF l ⟨xi, xe, xw, xa, xl, xc, xb⟩ k)) (.tuple #[.int .i64 rm, .int .i64 0]) := by rw [Eqn, e1]; rfl
              have E2 : Eqn (v2 (limF l ⟨xi, xe, xw, xa, xl, xc, xb⟩ k ch)) (.tuple #[.int .i64 nn, .int .i64 0]) := by rw [Eqn, e2]; rfl
              have E3 := Eqn.mk e3
              have G7 := Eqn.mk g7
              have G8 := Lib.hid g8
              have G9 := Lib.hid g9
              have j0 : ¬ (k : Int) < 0 := by omega
              have j1 : ¬ (n : Int) ≤ (k : Int) := by omega
              have j2 : ¬ rm < 0 := by omega
              clear e1 e2 e3 g7 g8 g9 hi
              have hsgn : (0 < ch ∧ ¬ ch ≤ 0 ∧ ¬ ch < nn ∧ ¬ nn < 0) ∨ (¬ 0 < ch ∧ ch ≤ 0 ∧ ¬ nn < ch ∧ ¬ 0 < nn) := by omega
              go_wp2_with fail
              refine (Room_any A n c k _ l ⟨xi, xe, xw, xa, xl, xc, xb⟩ hn2 (by exact Hl.out.keep B5.out) (by exact Hx.out.keep B5.out)).mono ?_
              rw [E1.out]
              rintro e w6 ⟨rfl, hb6⟩
              have B6 : Hid (Below w.heap.size w w6) := B5.out.trans (hb6.mono B5.out.size)
              have q6 := fun o => (hb6.cell (p := ⟨w.heap.size, o, none⟩) z5).trans (q5 o)
              have z6 : w.heap.size < w6.heap.size := Nat.lt_of_lt_of_le z5 hb6.size
              clear hb6
              go_wp2_with fail
              refine (Limit_any A n c k ch _ l ⟨xi, xe, xw, xa, xl, xc, xb⟩ hn2 (by exact Hl.out.keep B6.out) (by exact Hx.out.keep B6.out)).mono ?_
              rw [E2.out]
              rintro e w7 ⟨rfl, hb7⟩
              have B7 : Hid (Below w.heap.size w w7) := B6.out.trans (hb7.mono B6.out.size)
              have q7 := fun o => (hb7.cell (p := ⟨w.heap.size, o, none⟩) z6).trans (q6 o)
              have z7 : w.heap.size < w7.heap.size := Nat.lt_of_lt_of_le z6 hb7.size
              clear hb7 q6
              go_wp2_with fail
              refine (change_any A xa n c xl xc k nn _ l xb (by unfold I64; omega) hn2 (by exact Hl.out.keep B7.out) (by exact Hx.out.keep B7.out)).mono ?_
              rw [E3.out]
              rintro e w8 ⟨v8, rfl, ho8, hb8⟩
              obtain ⟨A8, c8, rfl, hr8, _⟩ := own_form ho8
              have B8 : Hid (Below w.heap.size w w8) := B7.out.trans (hb8.mono B7.out.size)
              have q8 := fun o => (hb8.cell (p := ⟨w.heap.size, o, none⟩) z7).trans (q7 o)
              have z8 : w.heap.size < w8.heap.size := Nat.lt_of_lt_of_le z7 hb8.size
              have HR8 := Lib.hid hr8
              clear hb8 q7 ho8 hr8
              have B9 : Hid (Below w.heap.size w (w8.alloc (.cells #[.int .i64 xi, .int .i64 xe, .int .i64 xw, .slice A8 next.length c8] 40))) := B8.out.alloc B8.out.size _
              rcases hsgn with ⟨s11, s12, s13, s14⟩ | ⟨s11, s12, s13, s14⟩
              all_goals
                go_wp2_with fail
                refine (vBidders_any A _ n c 1 1 _ l [⟨xi, xe, xw, A8, next.length, c8, next⟩] hn2 (by omega) (by exact Hl.out.keep B9.out) (by exact one_at xi xe xw A8 next.length c8 next (by simp) HR8.out)).mono ?_
                rw [G8.out]
                rintro e w10 ⟨rfl, hb10⟩
                have B10 : Hid (Below w.heap.size w w10) := B9.out.trans (hb10.mono B9.out.size)
                have q10 := fun o => (hb10.cell (p := ⟨w.heap.size, o, none⟩) (by simp; omega)).trans ((World.cell?_alloc_lt w8 _ ⟨w.heap.size, o, none⟩ z8).trans (q8 o))
                have z10 : w.heap.size < w10.heap.size := by have := hb10.size; simp at this; omega
                clear hb10
                generalize hmm : chF l xb k (rm + 1) = mm
                obtain ⟨more, er2⟩ := mm
                have HM := Eqn.mk hmm
                go_wp2_with fail
                refine (change_any A xa n c xl xc k (rm + 1) _ l xb (by unfold I64; omega) hn2 (by exact Hl.out.keep B10.out) (by exact Hx.out.keep B10.out)).mono ?_
                rw [HM.out]
                rintro e w11 ⟨v11, rfl, ho11, hb11⟩
                obtain ⟨A11, c11, rfl, hr11, _⟩ := own_form ho11
                have B11 : Hid (Below w.heap.size w w11) := B10.out.trans (hb11.mono B10.out.size)
                have q11 := fun o => (hb11.cell (p := ⟨w.heap.size, o, none⟩) z10).trans (q10 o)
                have z11 : w.heap.size < w11.heap.size := Nat.lt_of_lt_of_le z10 hb11.size
                have HR11 := Lib.hid hr11
                clear hb11 q10 ho11 hr11
                by_cases he2 : er2 = 0
                · subst he2
                  have G9' := Lib.hid (G9.out more hmm).2
                  clear hmm
                  have B12 : Hid (Below w.heap.size w (w11.alloc (.cells #[.int .i64 xi, .int .i64 xe, .int .i64 xw, .slice A11 more.length c11] 40))) := B11.out.alloc B11.out.size _
                  go_wp2_with fail
                  refine (vBidders_any A _ n c 1 1 _ l [⟨xi, xe, xw, A11, more.length, c11, more⟩] hn2 (by omega) (by exact Hl.out.keep B12.out) (by exact one_at xi xe xw A11 more.length c11 more (by simp) HR11.out)).mono ?_
                  rw [G9'.out]
                  rintro e w13 ⟨rfl, hb13⟩
                  have B13 : Hid (Below w.heap.size w w13) := B12.out.trans (hb13.mono B12.out.size)
                  clear hb13
                  go_wp2_with fail
                  refine (known_any _).mono ?_
                  rintro e w14 ⟨rfl, hb14⟩
                  go_wp2
                  go_ret
                  exact ⟨rfl, B13.out.trans (hb14.mono B13.out.size)⟩
                · have t9 : (er2 == 0) = false := by simpa using he2
                  clear hmm he2
                  go_wp2_with fail
                  refine (known_any _).mono ?_
                  rintro e w14 ⟨rfl, hb14⟩
                  go_wp2
                  go_ret
                  exact ⟨rfl, B11.out.trans (hb14.mono B11.out.size)⟩
            · have hi' : i < 0 ∨ (n : Int) ≤ i := by omega
              clear hi
              rcases hi' with hi | hi
              all_goals
                go_wp2_with fail
                refine (known_any _).mono ?_
                rintro e w6 ⟨rfl, hb6⟩
                go_wp2
                go_ret
                exact ⟨rfl, B5.out.trans (hb6.mono B5.out.size)⟩
        · have HR : Eqn (setF l ⟨xi, xe, xw, xa, xl, xc, xb⟩ pc) (0, 0, 0, [], 2) := by
            unfold setF Eqn; rw [if_neg (fun h => hp h.2)]
          go_wp2_with fail
          refine (settle_any A n c pc _ l ⟨xi, xe, xw, xa, xl, xc, xb⟩ hn2 hx2 (by exact Hl.out.keep B2.out) (by exact Hx.out.keep B2.out)).mono ?_
          rw [HR.out]
          rintro e w3 ⟨v3, rfl, ho3, hb3⟩
          obtain ⟨A3, c3, rfl, hr3, _⟩ := own_form ho3
          have B3 : Hid (Below w.heap.size w w3) := B2.out.trans (hb3.mono B2.out.size)
          have q3 := fun o => (hb3.cell (p := ⟨w.heap.size, o, none⟩) z2).trans (q2 o)
          have z3 : w.heap.size < w3.heap.size := Nat.lt_of_lt_of_le z2 hb3.size
          clear hb3 ho3 hr3 q2
          have B5 : Hid (Below w.heap.size w (w3.alloc (.cells #[.int .i64 0, .int .i64 0, .int .i64 0, .slice A3 ([] : List Int).length c3] 40))) := B3.out.alloc B3.out.size _
          have q5 := fun o => (World.cell?_alloc_lt w3 (.cells #[.int .i64 0, .int .i64 0, .int .i64 0, .slice A3 ([] : List Int).length c3] 40) ⟨w.heap.size, o, none⟩ z3).trans (q3 o)
          have z5 : w.heap.size < (w3.alloc (.cells #[.int .i64 0, .int .i64 0, .int .i64 0, .slice A3 ([] : List Int).length c3] 40)).heap.size := by simp; omega
          by_cases hi : 0 ≤ i ∧ i < (n : Int)
          · obtain ⟨k, rfl⟩ := Int.eq_ofNat_of_zero_le hi.1
            obtain ⟨rm, nn, next, e1, e2, e3, g1, g2, g3, g4, g5, g6, g7, g8, g9⟩ := changed (x := ⟨xi, xe, xw, xa, xl, xc, xb⟩) HVV.out (k := k) (by rw [Hll.out]; omega) ch
            dsimp only at e3 g7 g8 g9
            have E1 : Eqn (v2 (roomF l ⟨xi, xe, xw, xa, xl, xc, xb⟩ k)) (.tuple #[.int .i64 rm, .int .i64 0]) := by rw [Eqn, e1]; rfl
            have E2 : Eqn (v2 (limF l ⟨xi, xe, xw, xa, xl, xc, xb⟩ k ch)) (.tuple #[.int .i64 nn, .int .i64 0]) := by rw [Eqn, e2]; rfl
            have E3 := Eqn.mk e3
            have G7 := Eqn.mk g7
            have G8 := Lib.hid g8
            have G9 := Lib.hid g9
            have j0 : ¬ (k : Int) < 0 := by omega
            have j1 : ¬ (n : Int) ≤ (k : Int) := by omega
            have j2 : ¬ rm < 0 := by omega
            clear e1 e2 e3 g7 g8 g9 hi
            have hsgn : (0 < ch ∧ ¬ ch ≤ 0 ∧ ¬ ch < nn ∧ ¬ nn < 0) ∨ (¬ 0 < ch ∧ ch ≤ 0 ∧ ¬ nn < ch ∧ ¬ 0 < nn) := by omega
            go_wp2_with fail
            refine (Room_any A n c k _ l ⟨xi, xe, xw, xa, xl, xc, xb⟩ hn2 (by exact Hl.out.keep B5.out) (by exact Hx.out.keep B5.out)).mono ?_
            rw [E1.out]
            rintro e w6 ⟨rfl, hb6⟩
            have B6 : Hid (Below w.heap.size w w6) := B5.out.trans (hb6.mono B5.out.size)
            have q6 := fun o => (hb6.cell (p := ⟨w.heap.size, o, none⟩) z5).trans (q5 o)
            have z6 : w.heap.size < w6.heap.size := Nat.lt_of_lt_of_le z5 hb6.size
            clear hb6
            go_wp2_with fail
            refine (Limit_any A n c k ch _ l ⟨xi, xe, xw, xa, xl, xc, xb⟩ hn2 (by exact Hl.out.keep B6.out) (by exact Hx.out.keep B6.out)).mono ?_
            rw [E2.out]
            rintro e w7 ⟨rfl, hb7⟩
            have B7 : Hid (Below w.heap.size w w7) := B6.out.trans (hb7.mono B6.out.size)
            have q7 := fun o => (hb7.cell (p := ⟨w.heap.size, o, none⟩) z6).trans (q6 o)
            have z7 : w.heap.size < w7.heap.size := Nat.lt_of_lt_of_le z6 hb7.size
            clear hb7 q6
            go_wp2_with fail
            refine (change_any A xa n c xl xc k nn _ l xb (by unfold I64; omega) hn2 (by exact Hl.out.keep B7.out) (by exact Hx.out.keep B7.out)).mono ?_
            rw [E3.out]
            rintro e w8 ⟨v8, rfl, ho8, hb8⟩
            obtain ⟨A8, c8, rfl, hr8, _⟩ := own_form ho8
            have B8 : Hid (Below w.heap.size w w8) := B7.out.trans (hb8.mono B7.out.size)
            have q8 := fun o => (hb8.cell (p := ⟨w.heap.size, o, none⟩) z7).trans (q7 o)
            have z8 : w.heap.size < w8.heap.size := Nat.lt_of_lt_of_le z7 hb8.size
            have HR8 := Lib.hid hr8
            clear hb8 q7 ho8 hr8
            have B9 : Hid (Below w.heap.size w (w8.alloc (.cells #[.int .i64 xi, .int .i64 xe, .int .i64 xw, .slice A8 next.length c8] 40))) := B8.out.alloc B8.out.size _
            rcases hsgn with ⟨s11, s12, s13, s14⟩ | ⟨s11, s12, s13, s14⟩
            all_goals
              go_wp2_with fail
              refine (vBidders_any A _ n c 1 1 _ l [⟨xi, xe, xw, A8, next.length, c8, next⟩] hn2 (by omega) (by exact Hl.out.keep B9.out) (by exact one_at xi xe xw A8 next.length c8 next (by simp) HR8.out)).mono ?_
              rw [G8.out]
              rintro e w10 ⟨rfl, hb10⟩
              have B10 : Hid (Below w.heap.size w w10) := B9.out.trans (hb10.mono B9.out.size)
              have q10 := fun o => (hb10.cell (p := ⟨w.heap.size, o, none⟩) (by simp; omega)).trans ((World.cell?_alloc_lt w8 _ ⟨w.heap.size, o, none⟩ z8).trans (q8 o))
              have z10 : w.heap.size < w10.heap.size := by have := hb10.size; simp at this; omega
              clear hb10
              generalize hmm : chF l xb k (rm + 1) = mm
              obtain ⟨more, er2⟩ := mm
              have HM := Eqn.mk hmm
              go_wp2_with fail
              refine (change_any A xa n c xl xc k (rm + 1) _ l xb (by unfold I64; omega) hn2 (by exact Hl.out.keep B10.out) (by exact Hx.out.keep B10.out)).mono ?_
              rw [HM.out]
              rintro e w11 ⟨v11, rfl, ho11, hb11⟩
              obtain ⟨A11, c11, rfl, hr11, _⟩ := own_form ho11
              have B11 : Hid (Below w.heap.size w w11) := B10.out.trans (hb11.mono B10.out.size)
              have q11 := fun o => (hb11.cell (p := ⟨w.heap.size, o, none⟩) z10).trans (q10 o)
              have z11 : w.heap.size < w11.heap.size := Nat.lt_of_lt_of_le z10 hb11.size
              have HR11 := Lib.hid hr11
              clear hb11 q10 ho11 hr11
              by_cases he2 : er2 = 0
              · subst he2
                have G9' := Lib.hid (G9.out more hmm).2
                clear hmm
                have B12 : Hid (Below w.heap.size w (w11.alloc (.cells #[.int .i64 xi, .int .i64 xe, .int .i64 xw, .slice A11 more.length c11] 40))) := B11.out.alloc B11.out.size _
                go_wp2_with fail
                refine (vBidders_any A _ n c 1 1 _ l [⟨xi, xe, xw, A11, more.length, c11, more⟩] hn2 (by omega) (by exact Hl.out.keep B12.out) (by exact one_at xi xe xw A11 more.length c11 more (by simp) HR11.out)).mono ?_
                rw [G9'.out]
                rintro e w13 ⟨rfl, hb13⟩
                have B13 : Hid (Below w.heap.size w w13) := B12.out.trans (hb13.mono B12.out.size)
                clear hb13
                go_wp2_with fail
                refine (known_any _).mono ?_
                rintro e w14 ⟨rfl, hb14⟩
                go_wp2
                go_ret
                exact ⟨rfl, B13.out.trans (hb14.mono B13.out.size)⟩
              · have t9 : (er2 == 0) = false := by simpa using he2
                clear hmm he2
                go_wp2_with fail
                refine (known_any _).mono ?_
                rintro e w14 ⟨rfl, hb14⟩
                go_wp2
                go_ret
                exact ⟨rfl, B11.out.trans (hb14.mono B11.out.size)⟩
          · have hi' : i < 0 ∨ (n : Int) ≤ i := by omega
            clear hi
            rcases hi' with hi | hi
            all_goals
              go_wp2_with fail
              refine (known_any _).mono ?_
              rintro e w6 ⟨rfl, hb6⟩
              go_wp2
              go_ret
              exact ⟨rfl, B5.out.trans (hb6.mono B5.out.size)⟩

set_option maxRecDepth 100000 in
theorem activityHolds_lifted (os : Os) (started : os.Started) (H : Type) (enc : TypeId × Value → H) :
    ReturnsInHanded {} Try.checked os 8 .any (Rows.activityHoldsSpec.pre6 enc Try.prog Try.f8 Rows.activityHoldsRow.domain false) (Rows.activityHoldsSpec.post enc Try.prog Try.f8 false true false false) := by
  refine returnsInHanded_of_change (C := Try.checked) own started (by kernel_rfl) Try.func8
    (ChangeSpec.witness6 (enc := enc) (C := Try.checked) false ⟨#[], #[.slice none 0 0, .agg #[.int .i64 0, .int .i64 0, .int .i64 0, .slice none 0 0], .int .i64 0, .int .i64 0, .int .i64 0], []⟩ 8 (by kernel_rfl) (by kernel_rfl) (by kernel_rfl) (by kernel_rfl)) ?_
  intro W base args ds gs before hval0 hW hcnd _
  have hval : ∀ (j : Nat) t v, Try.f8.params[j]? = some t → args[j]? = some v → Value.okWide Try.prog W .any base t v := hval0
  have hW' := hW
  obtain ⟨p, q, hA0, hV, rfl, hfz, hnd⟩ := hW
  have hA : DataW.TrodAll enc Try.prog W 0 (fun _ => true) true Try.f8.params.toList args.toList ds p := hA0
  rw [Try.params8] at hA hval
  obtain ⟨v0, vs0, d0, ds0, p0, q0, hargs, rfl, rfl, h0, r0⟩ := trodAll_cons hA
  obtain ⟨v1, vs1, d1, ds1, p1, q1, rfl, rfl, rfl, h1, r1⟩ := trodAll_cons r0
  obtain ⟨v2, vs2, d2, ds2, p2, q2, rfl, rfl, rfl, h2, r2⟩ := trodAll_cons r1
  obtain ⟨v3, vs3, d3, ds3, p3, q3, rfl, rfl, rfl, h3, r3⟩ := trodAll_cons r2
  obtain ⟨v4, vs4, d4, ds4, p4, q4, rfl, rfl, rfl, h4, r4⟩ := trodAll_cons r3
  obtain ⟨rfl, rfl, rfl⟩ := trodAll_nil r4
  obtain rfl : args = #[v0, v1, v2, v3, v4] := by cases args; simp_all
  obtain ⟨rfl, rfl⟩ := trodVars_none hV
  have k0 := h0
  have lt0 : ∀ x ∈ p0, x.block < W.heap.size := by obtain ⟨m, hm⟩ := k0; exact DataW.trod_lt m _ _ _ hm
  have k1 := h1
  have lt1 : ∀ x ∈ p1, x.block < W.heap.size := by obtain ⟨m, hm⟩ := k1; exact DataW.trod_lt m _ _ _ hm
  have k2 := h2
  have lt2 : ∀ x ∈ p2, x.block < W.heap.size := by obtain ⟨m, hm⟩ := k2; exact DataW.trod_lt m _ _ _ hm
  have k3 := h3
  have lt3 : ∀ x ∈ p3, x.block < W.heap.size := by obtain ⟨m, hm⟩ := k3; exact DataW.trod_lt m _ _ _ hm
  have k4 := h4
  have lt4 : ∀ x ∈ p4, x.block < W.heap.size := by obtain ⟨m, hm⟩ := k4; exact DataW.trod_lt m _ _ _ hm
  obtain ⟨A0, n0, c0, xs0, rfl, R0⟩ := arg_prods (hval 0 38 _ rfl rfl) h0
  obtain ⟨y1, rfl, R1⟩ := arg_bidr (hval 1 40 _ rfl rfl) h1
  obtain ⟨x2, rfl, b2⟩ := arg_int Try.underlying3 (hval 2 3 _ rfl rfl) h2
  obtain ⟨x3, rfl, b3⟩ := arg_int Try.underlying3 (hval 3 3 _ rfl rfl) h3
  obtain ⟨x4, rfl, b4⟩ := arg_int Try.underlying3 (hval 4 3 _ rfl rfl) h4
  clear hA0 hval0
  refine (activityHolds_walk W A0 n0 c0 xs0 R0 y1 R1 x2 b2 x3 b3 x4 b4).mono fun e W' ⟨he, bel⟩ => ?_
  subst he
  exact ⟨_, rfl, _, _, _, [], _, [], hW', trodAll_mk1 (shut_bool Try.underlying4 _), (trodAll_cons_mk (Below.trod laidOut (by kernel_rfl) (of_decide_eq_true (by kernel_rfl)) k0 bel lt0) (trodAll_cons_mk (Below.trod laidOut (by kernel_rfl) (of_decide_eq_true (by kernel_rfl)) k1 bel lt1) (trodAll_cons_mk (Below.trod laidOut (by kernel_rfl) (of_decide_eq_true (by kernel_rfl)) k2 bel lt2) (trodAll_cons_mk (Below.trod laidOut (by kernel_rfl) (of_decide_eq_true (by kernel_rfl)) k3 bel lt3) (trodAll_cons_mk (Below.trod laidOut (by kernel_rfl) (of_decide_eq_true (by kernel_rfl)) k4 bel lt4) trodAll_mk0))))), rfl, bel.frame _, fun h => by cases h⟩

theorem activityHolds_over : Rows.activityHoldsRow.holds Try.pinned (OpenSpec.ofChange Rows.activityHoldsSpec) :=
  OpenClaim.holds_of_wide 8 Try.f8 rfl rfl rfl rfl rfl rfl rfl ⟨rfl, rfl, rfl, rfl, rfl⟩ rfl rfl rfl rfl rfl (by kernel_rfl) Try.func8 (by kernel_rfl)
    (of_decide_eq_true (by kernel_rfl)) (by unfold Func.isWrapper; first | (rw [if_pos (by decide +kernel)]; kernel_rfl) | (rw [if_neg (by decide +kernel)]; exact ⟨rfl, rfl⟩))
    (fun os started H enc _ => activityHolds_lifted os started H enc)

theorem activityHolds_holds : Rows.ActivityHoldsSaid := activityHolds_over
#print axioms activityHolds_holds

end Go.Proofs.Ytjbhflhlicefbaa
