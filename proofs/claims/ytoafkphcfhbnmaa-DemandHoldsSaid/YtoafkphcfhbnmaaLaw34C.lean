/- DemandHolds: for every input the call returns true, and each argument reads afterwards as it read before. No conditions. -/
import Derived.Test.YtoafkphcfhbnmaaRows
import Derived.Test.YtoafkphcfhbnmaaOpenP
import Derived.Test.YtoafkphcfhbnmaaKnown34
import Derived.Test.YtoafkphcfhbnmaaPlain34
namespace Go.Proofs.Ytoafkphcfhbnmaa
open Go.RowKit Go.ChangeShapes Go.WideShapes Go.ChangeAt

theorem own : ownKnob Try.prog.godebug = none := by kernel_rfl
theorem laidOut : laidOutB Try.prog = true := by kernel_rfl

set_option maxRecDepth 100000 in
set_option maxHeartbeats 2000000 in
theorem alike_any (A T : Option Addr) (n c q e : Nat) (w : World) (D : Nat) (l to : List Prod) (hn : n ≤ 140) (hq : q ≤ 140) (hl : RowS 5 Prod.cell w D A n l) (ht : RowS 5 Prod.cell w D T q to) :
    Calls Try.prog 30 #[.slice A n c, .slice T q e] w (OrdPost (aliF to l) D w) := by
  have Hl := Lib.hid hl
  have Ht := Lib.hid ht
  have Hll := Eqn.mk hl.1
  have Htl := Eqn.mk ht.1
  clear hl ht
  go_enter Try.func30, Try.ntmps30
  go_wp2_with fail
  go_loopw [5] (fun i wr => ∃ j : Nat, j ≤ n ∧ i = .int .i64 j ∧ Eqn (aliF to l) (aliF to (l.drop j)) ∧ Below D w wr) (fun i _ => n - (intOf i).toNat)
  case atStart => exact ⟨0, Nat.zero_le _, rfl, rfl, Below.refl _ _⟩
  case round =>
    obtain ⟨j, hj, rfl, HR, HW⟩ := hrel
    obtain ⟨wo, rfl⟩ : ∃ wo : World, wo = wr := ⟨_, rfl⟩
    have HWW := Lib.hid HW
    by_cases hlt : j < n
    · obtain ⟨a, ha, had⟩ := drop_at (xs := l) (k := j) (by rw [Hll.out]; exact hlt)
      have HR' : Eqn (aliF to l) (if aliOne a to = false then false else aliF to (l.drop (j + 1))) := by
        have := HR.out; rw [had, aliF] at this; exact this
      have HA := Lib.hid ha
      have j0 : (0 : Int) ≤ (j : Int) := by omega
      have j1 : (j : Int) < (n : Int) := by omega
      clear HW HR ha had
      go_wp2_with fail
      go_loopw [6] (fun i wr => ∃ k : Nat, k ≤ q ∧ i = .int .i64 k ∧ Eqn (aliOne a to) (aliOne a (to.drop k)) ∧ Below D w wr) (fun i _ => q - (intOf i).toNat)
      case atStart => exact ⟨0, Nat.zero_le _, rfl, rfl, HWW.out⟩
      case round =>
        obtain ⟨k, hk, rfl, HS, HY⟩ := hrel
        have HYY := Lib.hid HY
        by_cases hlt2 : k < q
        · obtain ⟨b, hb, hbd⟩ := drop_at (xs := to) (k := k) (by rw [Htl.out]; exact hlt2)
          obtain ⟨b1, off1, rfl, hbl1, hc1⟩ := (Hl.out.below HY).2 (by omega)
          obtain ⟨b2, off2, rfl, hbl2, hc2⟩ := (Ht.out.below HY).2 (by omega)
          have c0 := hc1 j a HA.out 0 (by omega)
          have c1 := hc1 j a HA.out 1 (by omega)
          have c3 := hc1 j a HA.out 3 (by omega)
          have d0 := hc2 k b hb 0 (by omega)
          have d1 := hc2 k b hb 1 (by omega)
          have d3 := hc2 k b hb 3 (by omega)
          simp only [Prod.cell, Nat.add_zero] at c0 c1 c3 d0 d1 d3
          have HS' : Eqn (aliOne a to) (if a.area = b.area ∧ a.cat = b.cat ∧ a.units ≠ b.units then false else aliOne a (to.drop (k + 1))) := by
            have := HS.out; rw [hbd, aliOne] at this; exact this
          have k0 : (0 : Int) ≤ (k : Int) := by omega
          have k1 : (k : Int) < (q : Int) := by omega
          clear hc1 hc2 hb hbd HY HS
          by_cases e1 : a.area = b.area
          · have t1 : (a.area == b.area) = true := by simpa using e1
            by_cases e2 : a.cat = b.cat
            · have t2 : (a.cat == b.cat) = true := by simpa using e2
              by_cases e3 : a.units = b.units
              · have t3 : (a.units != b.units) = false := by simpa using e3
                have HS2 : Eqn (aliOne a to) (aliOne a (to.drop (k + 1))) := by rw [Eqn, HS'.out, if_neg (fun h => h.2.2 e3)]
                clear HS' e1 e2 e3
                go_wp2_with fail
                refine Lx.region (C := fun _ => True) (hs := []) (by kernel_rfl) (by kernel_rfl) trivial ?_
                repeat' (first
                  | (refine Lx.lex_no (Lx.n1 rfl rfl rfl (by with_reducible rfl)) (fun K hK => ?_); go_simp; refine hK _ ?_; clear hK K)
                  | (refine Lx.lex_no (Lx.n0 rfl rfl rfl (by with_reducible rfl)) (fun K hK => ?_); go_simp; refine hK _ ?_; clear hK K)
                  | (refine Lx.lex_no (Lx.n2 rfl rfl rfl) (fun K hK => ?_); go_simp; refine hK _ ?_; clear hK K)
                  | (refine Lx.lex_pure (v := ?_) rfl (by first | exact Lx.w0 rfl | exact Lx.w1 rfl rfl rfl (by with_reducible rfl)) ?_ (fun K hK => ?_); rotate_left 1; (intro w' hCw; (try dsimp only at hCw); go_simp; done); go_simp; refine hK _ ?_; clear hK K)
                  | (refine Lx.lex_pure (v := ?_) rfl (by first | exact Lx.w0 rfl | exact Lx.w1 rfl rfl rfl (by with_reducible rfl)) ?_ (fun K hK => ?_); rotate_left 1; (intro w' hCw; (try dsimp only at hCw); go_simp; with_reducible rfl); go_simp; refine hK _ ?_; clear hK K)
                  | (refine Lx.lex_read (v := ?_) rfl (by first | exact Lx.w0 rfl | exact Lx.w1 rfl rfl rfl (by with_reducible rfl)) ?_ (fun K hK => ?_); rotate_left 1; (go_simp; done); go_simp; refine hK _ ?_; clear hK K)
                  | (refine Lx.lex_read (v := ?_) rfl (by first | exact Lx.w0 rfl | exact Lx.w1 rfl rfl rfl (by with_reducible rfl)) ?_ (fun K hK => ?_); rotate_left 1; (go_simp; with_reducible rfl); go_simp; refine hK _ ?_; clear hK K)
                  | (refine Lx.lex_eff rfl (by first | exact Lx.w0 rfl | exact Lx.w1 rfl rfl rfl (by with_reducible rfl)) (fun K hK => ?_); go_simp; (first | fail | skip); refine hK _ _ (trivial) ?_; clear hK K)
                  | (refine Lx.lex_cases rfl rfl rfl (fun hgd K hK => ?_) (fun hgd K hK => ?_) <;> (try simp only [decide_eq_true_eq, decide_eq_false_iff_not] at hgd) <;> (first | (exfalso; omega) | (go_simp; refine hK _ ?_; clear hK K))))
                all_goals (refine Lx.lex_nil ?_)
                go_wp2_with fail
                go_roundw
                case rel => exact ⟨k + 1, by omega, by go_num, HS2, HYY.out.drew⟩
                case measure => simp [intOf]; omega
              · have t3 : (a.units != b.units) = true := by simpa using e3
                have HS2 : Eqn (aliOne a to) false := by rw [Eqn, HS'.out, if_pos ⟨e1, e2, e3⟩]
                have HR2 : Eqn (aliF to l) false := by rw [Eqn, HR'.out, if_pos HS2.out]
                clear HS' e1 e2 e3 HR'
                go_wp2_with fail
                refine Lx.region (C := fun _ => True) (hs := []) (by kernel_rfl) (by kernel_rfl) trivial ?_
                repeat' (first
                  | (refine Lx.lex_no (Lx.n1 rfl rfl rfl (by with_reducible rfl)) (fun K hK => ?_); go_simp; refine hK _ ?_; clear hK K)
                  | (refine Lx.lex_no (Lx.n0 rfl rfl rfl (by with_reducible rfl)) (fun K hK => ?_); go_simp; refine hK _ ?_; clear hK K)
                  | (refine Lx.lex_no (Lx.n2 rfl rfl rfl) (fun K hK => ?_); go_simp; refine hK _ ?_; clear hK K)
                  | (refine Lx.lex_pure (v := ?_) rfl (by first | exact Lx.w0 rfl | exact Lx.w1 rfl rfl rfl (by with_reducible rfl)) ?_ (fun K hK => ?_); rotate_left 1; (intro w' hCw; (try dsimp only at hCw); go_simp; done); go_simp; refine hK _ ?_; clear hK K)
                  | (refine Lx.lex_pure (v := ?_) rfl (by first | exact Lx.w0 rfl | exact Lx.w1 rfl rfl rfl (by with_reducible rfl)) ?_ (fun K hK => ?_); rotate_left 1; (intro w' hCw; (try dsimp only at hCw); go_simp; with_reducible rfl); go_simp; refine hK _ ?_; clear hK K)
                  | (refine Lx.lex_read (v := ?_) rfl (by first | exact Lx.w0 rfl | exact Lx.w1 rfl rfl rfl (by with_reducible rfl)) ?_ (fun K hK => ?_); rotate_left 1; (go_simp; done); go_simp; refine hK _ ?_; clear hK K)
                  | (refine Lx.lex_read (v := ?_) rfl (by first | exact Lx.w0 rfl | exact Lx.w1 rfl rfl rfl (by with_reducible rfl)) ?_ (fun K hK => ?_); rotate_left 1; (go_simp; with_reducible rfl); go_simp; refine hK _ ?_; clear hK K)
                  | (refine Lx.lex_eff rfl (by first | exact Lx.w0 rfl | exact Lx.w1 rfl rfl rfl (by with_reducible rfl)) (fun K hK => ?_); go_simp; (first | fail | skip); refine hK _ _ (trivial) ?_; clear hK K)
                  | (refine Lx.lex_cases rfl rfl rfl (fun hgd K hK => ?_) (fun hgd K hK => ?_) <;> (try simp only [decide_eq_true_eq, decide_eq_false_iff_not] at hgd) <;> (first | (exfalso; omega) | (go_simp; refine hK _ ?_; clear hK K))))
                all_goals (refine Lx.lex_nil ?_)
                go_wp2_with fail
                go_ret
                exact ⟨ret_bool (by rw [HR2.out]), HYY.out.drew⟩
            · have t2 : (a.cat == b.cat) = false := by simpa using e2
              have HS2 : Eqn (aliOne a to) (aliOne a (to.drop (k + 1))) := by rw [Eqn, HS'.out, if_neg (fun h => e2 h.2.1)]
              clear HS' e1 e2
              go_wp2_with fail
              refine Lx.region (C := fun _ => True) (hs := []) (by kernel_rfl) (by kernel_rfl) trivial ?_
              repeat' (first
                | (refine Lx.lex_no (Lx.n1 rfl rfl rfl (by with_reducible rfl)) (fun K hK => ?_); go_simp; refine hK _ ?_; clear hK K)
                | (refine Lx.lex_no (Lx.n0 rfl rfl rfl (by with_reducible rfl)) (fun K hK => ?_); go_simp; refine hK _ ?_; clear hK K)
                | (refine Lx.lex_no (Lx.n2 rfl rfl rfl) (fun K hK => ?_); go_simp; refine hK _ ?_; clear hK K)
                | (refine Lx.lex_pure (v := ?_) rfl (by first | exact Lx.w0 rfl | exact Lx.w1 rfl rfl rfl (by with_reducible rfl)) ?_ (fun K hK => ?_); rotate_left 1; (intro w' hCw; (try dsimp only at hCw); go_simp; done); go_simp; refine hK _ ?_; clear hK K)
                | (refine Lx.lex_pure (v := ?_) rfl (by first | exact Lx.w0 rfl | exact Lx.w1 rfl rfl rfl (by with_reducible rfl)) ?_ (fun K hK => ?_); rotate_left 1; (intro w' hCw; (try dsimp only at hCw); go_simp; with_reducible rfl); go_simp; refine hK _ ?_; clear hK K)
                | (refine Lx.lex_read (v := ?_) rfl (by first | exact Lx.w0 rfl | exact Lx.w1 rfl rfl rfl (by with_reducible rfl)) ?_ (fun K hK => ?_); rotate_left 1; (go_simp; done); go_simp; refine hK _ ?_; clear hK K)
                | (refine Lx.lex_read (v := ?_) rfl (by first | exact Lx.w0 rfl | exact Lx.w1 rfl rfl rfl (by with_reducible rfl)) ?_ (fun K hK => ?_); rotate_left 1; (go_simp; with_reducible rfl); go_simp; refine hK _ ?_; clear hK K)
                | (refine Lx.lex_eff rfl (by first | exact Lx.w0 rfl | exact Lx.w1 rfl rfl rfl (by with_reducible rfl)) (fun K hK => ?_); go_simp; (first | fail | skip); refine hK _ _ (trivial) ?_; clear hK K)
                | (refine Lx.lex_cases rfl rfl rfl (fun hgd K hK => ?_) (fun hgd K hK => ?_) <;> (try simp only [decide_eq_true_eq, decide_eq_false_iff_not] at hgd) <;> (first | (exfalso; omega) | (go_simp; refine hK _ ?_; clear hK K))))
              all_goals (refine Lx.lex_nil ?_)
              go_wp2_with fail
              go_roundw
              case rel => exact ⟨k + 1, by omega, by go_num, HS2, HYY.out.drew⟩
              case measure => simp [intOf]; omega
          · have t1 : (a.area == b.area) = false := by simpa using e1
            have HS2 : Eqn (aliOne a to) (aliOne a (to.drop (k + 1))) := by rw [Eqn, HS'.out, if_neg (fun h => e1 h.1)]
            clear HS' e1
            go_wp2_with fail
            refine Lx.region (C := fun _ => True) (hs := []) (by kernel_rfl) (by kernel_rfl) trivial ?_
            repeat' (first
              | (refine Lx.lex_no (Lx.n1 rfl rfl rfl (by with_reducible rfl)) (fun K hK => ?_); go_simp; refine hK _ ?_; clear hK K)
              | (refine Lx.lex_no (Lx.n0 rfl rfl rfl (by with_reducible rfl)) (fun K hK => ?_); go_simp; refine hK _ ?_; clear hK K)
              | (refine Lx.lex_no (Lx.n2 rfl rfl rfl) (fun K hK => ?_); go_simp; refine hK _ ?_; clear hK K)
              | (refine Lx.lex_pure (v := ?_) rfl (by first | exact Lx.w0 rfl | exact Lx.w1 rfl rfl rfl (by with_reducible rfl)) ?_ (fun K hK => ?_); rotate_left 1; (intro w' hCw; (try dsimp only at hCw); go_simp; done); go_simp; refine hK _ ?_; clear hK K)
              | (refine Lx.lex_pure (v := ?_) rfl (by first | exact Lx.w0 rfl | exact Lx.w1 rfl rfl rfl (by with_reducible rfl)) ?_ (fun K hK => ?_); rotate_left 1; (intro w' hCw; (try dsimp only at hCw); go_simp; with_reducible rfl); go_simp; refine hK _ ?_; clear hK K)
              | (refine Lx.lex_read (v := ?_) rfl (by first | exact Lx.w0 rfl | exact Lx.w1 rfl rfl rfl (by with_reducible rfl)) ?_ (fun K hK => ?_); rotate_left 1; (go_simp; done); go_simp; refine hK _ ?_; clear hK K)
              | (refine Lx.lex_read (v := ?_) rfl (by first | exact Lx.w0 rfl | exact Lx.w1 rfl rfl rfl (by with_reducible rfl)) ?_ (fun K hK => ?_); rotate_left 1; (go_simp; with_reducible rfl); go_simp; refine hK _ ?_; clear hK K)
              | (refine Lx.lex_eff rfl (by first | exact Lx.w0 rfl | exact Lx.w1 rfl rfl rfl (by with_reducible rfl)) (fun K hK => ?_); go_simp; (first | fail | skip); refine hK _ _ (trivial) ?_; clear hK K)
              | (refine Lx.lex_cases rfl rfl rfl (fun hgd K hK => ?_) (fun hgd K hK => ?_) <;> (try simp only [decide_eq_true_eq, decide_eq_false_iff_not] at hgd) <;> (first | (exfalso; omega) | (go_simp; refine hK _ ?_; clear hK K))))
            all_goals (refine Lx.lex_nil ?_)
            go_wp2_with fail
            go_roundw
            case rel => exact ⟨k + 1, by omega, by go_num, HS2, HYY.out.drew⟩
            case measure => simp [intOf]; omega
        · have HS2 : Eqn (aliOne a to) true := by rw [Eqn, HS.out, drop_end (by rw [Htl.out]; omega)]; rfl
          have HR2 : Eqn (aliF to l) (aliF to (l.drop (j + 1))) := by rw [Eqn, HR'.out, if_neg (by rw [HS2.out]; simp)]
          clear HS HY HR'
          go_wp2_with fail
          go_roundw
          case rel => exact ⟨j + 1, by omega, by go_num, HR2, HYY.out⟩
          case measure => simp [intOf]; omega
    · have HR2 : Eqn (aliF to l) true := by rw [Eqn, HR.out, drop_end (by rw [Hll.out]; omega)]; rfl
      clear HR HW
      go_wp2_with fail
      go_ret
      exact ⟨ret_bool (by rw [HR2.out]), HWW.out⟩

set_option maxRecDepth 100000 in
set_option maxHeartbeats 4000000 in
theorem demandHolds_walk (w : World) (A : Option Addr) (n c : Nat) (l : List Prod) (R : RowS 5 Prod.cell w w.heap.size A n l ∧ n ≤ 9223372036854775807) (T : Option Addr) (q e : Nat) (to : List Prod) (R2 : RowS 5 Prod.cell w w.heap.size T q to ∧ q ≤ 9223372036854775807) (B : Option Addr) (m d : Nat) (bs : List Int) (Rb : Row1 (fun z => .int .i64 z) w w.heap.size B m bs) (_ : ∀ z ∈ bs, I64 z) (_ : m ≤ 9223372036854775807) (i : Int) (_ : I64 i) (ch : Int) (hch : I64 ch) :
    Calls Try.prog 9 #[.slice A n c, .slice T q e, .slice B m d, .int .i64 i, .int .i64 ch] w fun e w' => e = .returned (.bool true) ∧ Below w.heap.size w w' := by
  obtain ⟨hl, hnn⟩ := R
  obtain ⟨hl2, hqq⟩ := R2
  have Hl := Lib.hid hl
  have Ht := Lib.hid hl2
  have Hb : Hid (Row1 intV w w.heap.size B m bs) := Rb
  have Hll := Eqn.mk hl.1
  have Htl := Eqn.mk hl2.1
  have Hbl : Eqn bs.length m := Rb.1
  have hch' := Lib.hid hch
  clear hl hl2 Rb hch
  by_cases h1 : 40 < n
  · have d1 : (40 : Int) < (n : Int) := by omega
    go_enter Try.func9, Try.ntmps9
    go_wp2_with fail
    refine (known_any _).mono ?_
    rintro e wk ⟨rfl, hbk⟩
    go_wp2
    go_ret
    exact ⟨rfl, hbk⟩
  · have d1 : ¬ (40 : Int) < (n : Int) := by omega
    by_cases h2 : 40 < q
    · have d2 : (40 : Int) < (q : Int) := by omega
      go_enter Try.func9, Try.ntmps9
      go_wp2_with fail
      refine (known_any _).mono ?_
      rintro e wk ⟨rfl, hbk⟩
      go_wp2
      go_ret
      exact ⟨rfl, hbk⟩
    · have d2 : ¬ (40 : Int) < (q : Int) := by omega
      have hn1 : n ≤ 140 := by omega
      have hq1 : q ≤ 140 := by omega
      cases hv : dValid l bs with
      | false =>
        have HV := Eqn.mk hv
        clear hv
        go_enter Try.func9, Try.ntmps9
        go_wp2_with fail
        refine (dValid_any A B n c m d _ l bs hn1 Hl.out Hb.out).mono ?_
        rw [HV.out]
        rintro e w1 ⟨rfl, hb1⟩
        have B1 := Lib.hid hb1
        clear hb1
        go_wp2_with fail
        refine (known_any _).mono ?_
        rintro e wk ⟨rfl, hbk⟩
        go_wp2
        go_ret
        exact ⟨rfl, B1.out.trans (hbk.mono B1.out.size)⟩
      | true =>
        have HV := Eqn.mk hv
        have HVV := Lib.hid hv
        have hmn : m = n := by
          unfold dValid at hv; rw [Bool.and_eq_true] at hv
          have := (fitsF_spec l bs hv.2).1
          rw [Hll.out, Hbl.out] at this; exact this.symm
        have t0 : ((m : Int) != (n : Int)) = false := by rw [hmn]; simp
        have hm1 : m ≤ 140 := by omega
        have hsane : Sane l bs := by
          have hv' := HVV.out
          unfold dValid at hv'; rw [Bool.and_eq_true] at hv'; exact sane_of hv'.1 hv'.2
        have hub := unitsGo_le l bs 0 hsane
        have hub2 : 0 ≤ unitsF l bs ∧ unitsF l bs ≤ 168000000 := by
          have h9 := Hll.out
          unfold unitsF; omega
        have HU : Eqn (dUnits l bs) (.tuple #[.int .i64 (unitsF l bs), .int .i64 0]) := by unfold dUnits Eqn; rw [HVV.out]; rfl
        have HCS : Eqn (carF l l bs) (bs, 0) := carF_same HVV.out
        have HSB : Eqn (sameF bs bs) true := (sameF_iff bs bs).2 rfl
        obtain ⟨uu, HUU⟩ : ∃ uu, Eqn (unitsF l bs) uu := ⟨_, rfl⟩
        rw [HUU.out] at hub2 HU
        obtain ⟨u1, u2⟩ := hub2
        clear hv hmn hub hsane
        go_enter Try.func9, Try.ntmps9
        go_wp2_with fail
        refine (dValid_any A B n c m d _ l bs hn1 Hl.out Hb.out).mono ?_
        rw [HV.out]
        rintro e w1 ⟨rfl, hb1⟩
        have B1 := Lib.hid hb1
        clear hb1
        go_wp2_with fail
        refine (dUnits_any A B n c m d _ l bs hn1 (by exact Hl.out.keep B1.out) (by exact Hb.out.keep B1.out)).mono ?_
        rw [HU.out]
        rintro e w2 ⟨rfl, hb2⟩
        have B2 : Hid (Below w.heap.size w w2) := B1.out.trans (hb2.mono B1.out.size)
        clear hb2
        go_wp2_with fail
        refine (carry_any A A B n c m d n c _ l l bs hn1 hn1 (by exact Hl.out.keep B2.out) (by exact Hl.out.keep B2.out) (by exact Hb.out.keep B2.out)).mono ?_
        rw [HCS.out]
        rintro e w3 ⟨v3, rfl, ho3, hb3⟩
        obtain ⟨A3, c3, rfl, hr3, _⟩ := own_form ho3
        have R3 := Lib.hid hr3
        have B3 : Hid (Below w.heap.size w w3) := B2.out.trans (hb3.mono B2.out.size)
        clear hb3 ho3 hr3
        go_wp2_with fail
        refine (same_any A3 B _ c3 m d _ w3.heap.size bs bs (by rw [Hbl.out]; omega) R3.out (by exact Hb.out.keep B3.out)).mono ?_
        rw [HSB.out]
        rintro e w4 ⟨rfl, hb4⟩
        have B4 : Hid (Below w.heap.size w w4) := B3.out.trans (hb4.mono B3.out.size)
        clear hb4
        cases hto : prodValid to with
        | false =>
          have HCT : Eqn (carF l to bs) ([], 2) := by unfold carF Eqn; rw [if_neg (by rw [hto]; simp)]
          clear hto
          go_wp2_with fail
          refine (carry_any A T B n c m d q _ _ l to bs hn1 hq1 (by exact Hl.out.keep B4.out) (by exact Ht.out.keep B4.out) (by exact Hb.out.keep B4.out)).mono ?_
          rw [HCT.out]
          rintro e w5 ⟨v5, rfl, ho5, hb5⟩
          obtain ⟨A5, c5, rfl, hr5, _⟩ := own_form ho5
          have B5 : Hid (Below w.heap.size w w5) := B4.out.trans (hb5.mono B4.out.size)
          clear hb5 ho5 hr5
          by_cases hi : 0 ≤ i ∧ i < (n : Int)
          · obtain ⟨k, rfl⟩ := Int.eq_ofNat_of_zero_le hi.1
            have j0 : ¬ (k : Int) < 0 := by omega
            have j1 : ¬ (n : Int) ≤ (k : Int) := by omega
            have j2 : (0 : Int) ≤ (k : Int) := by omega
            have j3 : (k : Int) < (n : Int) := by omega
            have hkl : k < l.length := by rw [Hll.out]; omega
            clear hi
            generalize hcc : chF l bs k ch = cc
            obtain ⟨next, er⟩ := cc
            have hcb := change_back HVV.out hkl hcc
            have HC := Eqn.mk hcc
            clear hcc hkl
            go_wp2_with fail
            refine (change_any A B n c m d k ch _ l bs hch'.out hn1 (by exact Hl.out.keep B5.out) (by exact Hb.out.keep B5.out)).mono ?_
            rw [HC.out]
            rintro e w7 ⟨v7, rfl, ho7, hb7⟩
            obtain ⟨A7, c7, rfl, hr7, _⟩ := own_form ho7
            have R7 := Lib.hid hr7
            have B7 : Hid (Below w.heap.size w w7) := B5.out.trans (hb7.mono B5.out.size)
            clear hb7 ho7 hr7
            rcases hcb with ⟨rfl, rfl⟩ | ⟨rfl, hnl, g1, g2, hv2, hback, p, hp, g3, g4, hun⟩
            · go_wp2_with fail
              refine (known_any _).mono ?_
              rintro e wk ⟨rfl, hbk⟩
              go_wp2
              go_ret
              exact ⟨rfl, B7.out.trans (hbk.mono B7.out.size)⟩
            · have HV2 := Eqn.mk hv2
              have HU2 : Eqn (dUnits l next) (.tuple #[.int .i64 (unitsF l next), .int .i64 0]) := by unfold dUnits Eqn; rw [hv2]; rfl
              have HBK := Eqn.mk hback
              have HNL := Eqn.mk hnl
              have HP := Lib.hid hp
              have hmul : -1200000 ≤ ch * p.units ∧ ch * p.units ≤ 1200000 := by
                have m1 := Int.mul_le_mul_of_nonneg_right g2 (by omega : (0 : Int) ≤ p.units)
                have m2 := Int.mul_le_mul_of_nonneg_right g1 (by omega : (0 : Int) ≤ p.units)
                omega
              obtain ⟨m3, m4⟩ := hmul
              have HUN : Eqn (unitsF l next) (uu + ch * p.units) := by rw [Eqn, hun, HUU.out]
              have teq : (uu + ch * p.units == uu + ch * p.units) = true := by simp
              clear hv2 hback hnl hp hun
              go_wp2_with fail
              refine (dUnits_any A A7 n c _ c7 _ l next hn1 (by exact Hl.out.keep B7.out) (by exact R7.out)).mono ?_
              rw [HU2.out, HUN.out]
              rintro e w8 ⟨rfl, hb8⟩
              have R7 := Lib.hid (R7.out.keep hb8)
              have B8 : Hid (Below w.heap.size w w8) := B7.out.trans (hb8.mono B7.out.size)
              clear hb8
              go_wp2_with fail
              refine (change_any A A7 n c _ c7 k (-ch) _ l next (by unfold I64; omega) hn1 (by exact Hl.out.keep B8.out) (by exact R7.out)).mono ?_
              rw [HBK.out]
              rintro e w9 ⟨v9, rfl, ho9, hb9⟩
              obtain ⟨A9, c9, rfl, hr9, _⟩ := own_form ho9
              have R9 := Lib.hid hr9
              have R7 := Lib.hid (R7.out.keep hb9)
              have B9 : Hid (Below w.heap.size w w9) := B8.out.trans (hb9.mono B8.out.size)
              clear hb9 ho9 hr9
              go_wp2_with fail
              refine (dValid_any A A7 n c _ c7 _ l next hn1 (by exact Hl.out.keep B9.out) (by exact R7.out)).mono ?_
              rw [HV2.out]
              rintro e w10 ⟨rfl, hb10⟩
              have R9 := Lib.hid (R9.out.keep hb10)
              have B10 : Hid (Below w.heap.size w w10) := B9.out.trans (hb10.mono B9.out.size)
              clear hb10
              obtain ⟨b5, off5, hA5, hbl5, hc5⟩ := (Hl.out.below B10.out).2 (by omega)
              have c5 := hc5 k p HP.out 3 (by omega)
              simp only [Prod.cell] at c5
              subst hA5
              clear hc5
              go_wp2_with fail
              refine (same_any A9 B _ c9 m d _ w10.heap.size bs bs (by rw [Hbl.out]; omega) R9.out (by exact Hb.out.keep B10.out)).mono ?_
              rw [HSB.out]
              rintro e w11 ⟨rfl, hb11⟩
              have B11 : Hid (Below w.heap.size w w11) := B10.out.trans (hb11.mono B10.out.size)
              clear hb11
              go_wp2_with fail
              refine (known_any _).mono ?_
              rintro e wk ⟨rfl, hbk⟩
              go_wp2
              go_ret
              exact ⟨rfl, B11.out.trans (hbk.mono B11.out.size)⟩
          · have hi' : i < 0 ∨ (n : Int) ≤ i := by omega
            clear hi
            rcases hi' with hi | hi
            all_goals
              go_wp2_with fail
              refine (known_any _).mono ?_
              rintro e wk ⟨rfl, hbk⟩
              go_wp2
              go_ret
              exact ⟨rfl, B5.out.trans (hbk.mono B5.out.size)⟩
        | true =>
          have HCT : Eqn (carF l to bs) (to.map (carN l bs), 0) := by unfold carF Eqn; rw [if_pos ⟨HVV.out, hto⟩]
          have hvt : dValid to (to.map (carN l bs)) = true := by
            unfold dValid; rw [hto, fitsF_car HVV.out to (prodValid_ok hto)]; rfl
          have HVT := Eqn.mk hvt
          have HUT : Eqn (dUnits to (to.map (carN l bs))) (.tuple #[.int .i64 (unitsF to (to.map (carN l bs))), .int .i64 0]) := by unfold dUnits Eqn; rw [hvt]; rfl
          have hal : aliF to l = true → unitsF to (to.map (carN l bs)) ≤ uu := fun ha => by rw [← HUU.out]; exact car_units HVV.out hto ha
          have hAB : (Eqn (aliF to l) true ∧ ¬ uu < unitsF to (to.map (carN l bs))) ∨ Eqn (aliF to l) false := by
            cases hab : aliF to l with
            | true => left; exact ⟨rfl, by have := hal hab; omega⟩
            | false => right; rfl
          obtain ⟨cs, HCSd⟩ : ∃ cs, Eqn (to.map (carN l bs)) cs := ⟨_, rfl⟩
          rw [HCSd.out] at HCT HVT HUT hAB
          generalize unitsF to cs = ut at *
          clear hto hvt hal HCSd
          go_wp2_with fail
          refine (carry_any A T B n c m d q _ _ l to bs hn1 hq1 (by exact Hl.out.keep B4.out) (by exact Ht.out.keep B4.out) (by exact Hb.out.keep B4.out)).mono ?_
          rw [HCT.out]
          rintro e w5a ⟨v5, rfl, ho5, hb5⟩
          obtain ⟨A5, c5, rfl, hr5, _⟩ := own_form ho5
          have R5 := Lib.hid hr5
          have B5a : Hid (Below w.heap.size w w5a) := B4.out.trans (hb5.mono B4.out.size)
          clear hb5 ho5 hr5
          go_wp2_with fail
          refine (dUnits_any T A5 q _ _ c5 _ to cs hq1 (by exact Ht.out.keep B5a.out) (by exact R5.out)).mono ?_
          rw [HUT.out]
          rintro e w5b ⟨rfl, hb5⟩
          have R5 := Lib.hid (R5.out.keep hb5)
          have B5b : Hid (Below w.heap.size w w5b) := B5a.out.trans (hb5.mono B5a.out.size)
          clear hb5
          go_wp2_with fail
          refine (dValid_any T A5 q _ _ c5 _ to cs hq1 (by exact Ht.out.keep B5b.out) (by exact R5.out)).mono ?_
          rw [HVT.out]
          rintro e w5c ⟨rfl, hb5⟩
          have B5c : Hid (Below w.heap.size w w5c) := B5b.out.trans (hb5.mono B5b.out.size)
          clear hb5
          rcases hAB with ⟨HAB, hle⟩ | HAB
          all_goals
            go_wp2_with fail
            refine (alike_any A T n c q _ _ w.heap.size l to hn1 hq1 (by exact Hl.out.below B5c.out) (by exact Ht.out.below B5c.out)).mono ?_
            rw [HAB.out]
            rintro e w5 ⟨rfl, hb5⟩
            have B5 : Hid (Below w.heap.size w w5) := B5c.out.trans hb5
            clear hb5
            by_cases hi : 0 ≤ i ∧ i < (n : Int)
            · obtain ⟨k, rfl⟩ := Int.eq_ofNat_of_zero_le hi.1
              have j0 : ¬ (k : Int) < 0 := by omega
              have j1 : ¬ (n : Int) ≤ (k : Int) := by omega
              have j2 : (0 : Int) ≤ (k : Int) := by omega
              have j3 : (k : Int) < (n : Int) := by omega
              have hkl : k < l.length := by rw [Hll.out]; omega
              clear hi
              generalize hcc : chF l bs k ch = cc
              obtain ⟨next, er⟩ := cc
              have hcb := change_back HVV.out hkl hcc
              have HC := Eqn.mk hcc
              clear hcc hkl
              go_wp2_with fail
              refine (change_any A B n c m d k ch _ l bs hch'.out hn1 (by exact Hl.out.keep B5.out) (by exact Hb.out.keep B5.out)).mono ?_
              rw [HC.out]
              rintro e w7 ⟨v7, rfl, ho7, hb7⟩
              obtain ⟨A7, c7, rfl, hr7, _⟩ := own_form ho7
              have R7 := Lib.hid hr7
              have B7 : Hid (Below w.heap.size w w7) := B5.out.trans (hb7.mono B5.out.size)
              clear hb7 ho7 hr7
              rcases hcb with ⟨rfl, rfl⟩ | ⟨rfl, hnl, g1, g2, hv2, hback, p, hp, g3, g4, hun⟩
              · go_wp2_with fail
                refine (known_any _).mono ?_
                rintro e wk ⟨rfl, hbk⟩
                go_wp2
                go_ret
                exact ⟨rfl, B7.out.trans (hbk.mono B7.out.size)⟩
              · have HV2 := Eqn.mk hv2
                have HU2 : Eqn (dUnits l next) (.tuple #[.int .i64 (unitsF l next), .int .i64 0]) := by unfold dUnits Eqn; rw [hv2]; rfl
                have HBK := Eqn.mk hback
                have HNL := Eqn.mk hnl
                have HP := Lib.hid hp
                have hmul : -1200000 ≤ ch * p.units ∧ ch * p.units ≤ 1200000 := by
                  have m1 := Int.mul_le_mul_of_nonneg_right g2 (by omega : (0 : Int) ≤ p.units)
                  have m2 := Int.mul_le_mul_of_nonneg_right g1 (by omega : (0 : Int) ≤ p.units)
                  omega
                obtain ⟨m3, m4⟩ := hmul
                have HUN : Eqn (unitsF l next) (uu + ch * p.units) := by rw [Eqn, hun, HUU.out]
                have teq : (uu + ch * p.units == uu + ch * p.units) = true := by simp
                clear hv2 hback hnl hp hun
                go_wp2_with fail
                refine (dUnits_any A A7 n c _ c7 _ l next hn1 (by exact Hl.out.keep B7.out) (by exact R7.out)).mono ?_
                rw [HU2.out, HUN.out]
                rintro e w8 ⟨rfl, hb8⟩
                have R7 := Lib.hid (R7.out.keep hb8)
                have B8 : Hid (Below w.heap.size w w8) := B7.out.trans (hb8.mono B7.out.size)
                clear hb8
                go_wp2_with fail
                refine (change_any A A7 n c _ c7 k (-ch) _ l next (by unfold I64; omega) hn1 (by exact Hl.out.keep B8.out) (by exact R7.out)).mono ?_
                rw [HBK.out]
                rintro e w9 ⟨v9, rfl, ho9, hb9⟩
                obtain ⟨A9, c9, rfl, hr9, _⟩ := own_form ho9
                have R9 := Lib.hid hr9
                have R7 := Lib.hid (R7.out.keep hb9)
                have B9 : Hid (Below w.heap.size w w9) := B8.out.trans (hb9.mono B8.out.size)
                clear hb9 ho9 hr9
                go_wp2_with fail
                refine (dValid_any A A7 n c _ c7 _ l next hn1 (by exact Hl.out.keep B9.out) (by exact R7.out)).mono ?_
                rw [HV2.out]
                rintro e w10 ⟨rfl, hb10⟩
                have R9 := Lib.hid (R9.out.keep hb10)
                have B10 : Hid (Below w.heap.size w w10) := B9.out.trans (hb10.mono B9.out.size)
                clear hb10
                obtain ⟨b5, off5, hA5, hbl5, hc5⟩ := (Hl.out.below B10.out).2 (by omega)
                have c5 := hc5 k p HP.out 3 (by omega)
                simp only [Prod.cell] at c5
                subst hA5
                clear hc5
                go_wp2_with fail
                refine (same_any A9 B _ c9 m d _ w10.heap.size bs bs (by rw [Hbl.out]; omega) R9.out (by exact Hb.out.keep B10.out)).mono ?_
                rw [HSB.out]
                rintro e w11 ⟨rfl, hb11⟩
                have B11 : Hid (Below w.heap.size w w11) := B10.out.trans (hb11.mono B10.out.size)
                clear hb11
                go_wp2_with fail
                refine (known_any _).mono ?_
                rintro e wk ⟨rfl, hbk⟩
                go_wp2
                go_ret
                exact ⟨rfl, B11.out.trans (hbk.mono B11.out.size)⟩
            · have hi' : i < 0 ∨ (n : Int) ≤ i := by omega
              clear hi
              rcases hi' with hi | hi
              all_goals
                go_wp2_with fail
                refine (known_any _).mono ?_
                rintro e wk ⟨rfl, hbk⟩
                go_wp2
                go_ret
                exact ⟨rfl, B5.out.trans (hbk.mono B5.out.size)⟩

set_option maxRecDepth 100000 in
theorem demandHolds_lifted (os : Os) (started : os.Started) (H : Type) (enc : TypeId × Value → H) :
    ReturnsInHanded {} Try.checked os 9 .any (Rows.demandHoldsSpec.pre6 enc Try.prog Try.f9 Rows.demandHoldsRow.domain false) (Rows.demandHoldsSpec.post enc Try.prog Try.f9 false true false false) := by
  refine returnsInHanded_of_change (C := Try.checked) own started (by kernel_rfl) Try.func9
    (ChangeSpec.witness6 (enc := enc) (C := Try.checked) false ⟨#[], #[.slice none 0 0, .slice none 0 0, .slice none 0 0, .int .i64 0, .int .i64 0], []⟩ 8 (by kernel_rfl) (by kernel_rfl) (by kernel_rfl) (by kernel_rfl)) ?_
  intro W base args ds gs before hval0 hW hcnd _
  have hval : ∀ (j : Nat) t v, Try.f9.params[j]? = some t → args[j]? = some v → Value.okWide Try.prog W .any base t v := hval0
  have hW' := hW
  obtain ⟨p, q, hA0, hV, rfl, hfz, hnd⟩ := hW
  have hA : DataW.TrodAll enc Try.prog W 0 (fun _ => true) true Try.f9.params.toList args.toList ds p := hA0
  rw [Try.params9] at hA hval
  obtain ⟨v0, vs0, d0, ds0, p0, q0, hargs, rfl, rfl, h0, r0⟩ := trodAll_cons hA
  obtain ⟨v1, vs1, d1, ds1, p1, q1, rfl, rfl, rfl, h1, r1⟩ := trodAll_cons r0
  obtain ⟨v2, vs2, d2, ds2, p2, q2, rfl, rfl, rfl, h2, r2⟩ := trodAll_cons r1
  obtain ⟨v3, vs3, d3, ds3, p3, q3, rfl, rfl, rfl, h3, r3⟩ := trodAll_cons r2
  obtain ⟨v4, vs4, d4, ds4, p4, q4, rfl, rfl, rfl, h4, r4⟩ := trodAll_cons r3
  obtain ⟨rfl, rfl, rfl⟩ := trodAll_nil r4
  obtain rfl : args = #[v0, v1, v2, v3, v4] := by cases args; simp_all
  obtain ⟨rfl, rfl⟩ := trodVars_none hV
  have k0 := h0
  have lt0 : ∀ x ∈ p0, x.block < W.heap.size := by obtain ⟨m, hm⟩ := k0; exact DataW.trod_lt m _ _ _ hm
  have k1 := h1
  have lt1 : ∀ x ∈ p1, x.block < W.heap.size := by obtain ⟨m, hm⟩ := k1; exact DataW.trod_lt m _ _ _ hm
  have k2 := h2
  have lt2 : ∀ x ∈ p2, x.block < W.heap.size := by obtain ⟨m, hm⟩ := k2; exact DataW.trod_lt m _ _ _ hm
  have k3 := h3
  have lt3 : ∀ x ∈ p3, x.block < W.heap.size := by obtain ⟨m, hm⟩ := k3; exact DataW.trod_lt m _ _ _ hm
  have k4 := h4
  have lt4 : ∀ x ∈ p4, x.block < W.heap.size := by obtain ⟨m, hm⟩ := k4; exact DataW.trod_lt m _ _ _ hm
  obtain ⟨A0, n0, c0, xs0, rfl, R0⟩ := arg_prods (hval 0 22 _ rfl rfl) h0
  obtain ⟨A1, n1, c1, xs1, rfl, R1⟩ := arg_prods (hval 1 22 _ rfl rfl) h1
  obtain ⟨A2, n2, c2, xs2, rfl, R2, b2, m2⟩ := arg_ints Try.underlying23 Try.underlying3 (by kernel_rfl) (hval 2 23 _ rfl rfl) h2
  obtain ⟨x3, rfl, b3⟩ := arg_int Try.underlying3 (hval 3 3 _ rfl rfl) h3
  obtain ⟨x4, rfl, b4⟩ := arg_int Try.underlying3 (hval 4 3 _ rfl rfl) h4
  clear hA0 hval0
  refine (demandHolds_walk W A0 n0 c0 xs0 R0 A1 n1 c1 xs1 R1 A2 n2 c2 xs2 R2 b2 m2 x3 b3 x4 b4).mono fun e W' ⟨he, bel⟩ => ?_
  subst he
  exact ⟨_, rfl, _, _, _, [], _, [], hW', trodAll_mk1 (shut_bool Try.underlying4 _), (trodAll_cons_mk (Below.trod laidOut (by kernel_rfl) (of_decide_eq_true (by kernel_rfl)) k0 bel lt0) (trodAll_cons_mk (Below.trod laidOut (by kernel_rfl) (of_decide_eq_true (by kernel_rfl)) k1 bel lt1) (trodAll_cons_mk (Below.trod laidOut (by kernel_rfl) (of_decide_eq_true (by kernel_rfl)) k2 bel lt2) (trodAll_cons_mk (Below.trod laidOut (by kernel_rfl) (of_decide_eq_true (by kernel_rfl)) k3 bel lt3) (trodAll_cons_mk (Below.trod laidOut (by kernel_rfl) (of_decide_eq_true (by kernel_rfl)) k4 bel lt4) trodAll_mk0))))), rfl, bel.frame _, fun h => by cases h⟩

theorem demandHolds_over : Rows.demandHoldsRow.holds Try.pinned (OpenSpec.ofChange Rows.demandHoldsSpec) :=
  OpenClaim.holds_of_wide 9 Try.f9 rfl rfl rfl rfl rfl rfl rfl ⟨rfl, rfl, rfl, rfl, rfl⟩ rfl rfl rfl rfl rfl (by kernel_rfl) Try.func9 (by kernel_rfl)
    (of_decide_eq_true (by kernel_rfl)) (by unfold Func.isWrapper; first | (rw [if_pos (by decide +kernel)]; kernel_rfl) | (rw [if_neg (by decide +kernel)]; exact ⟨rfl, rfl⟩))
    (fun os started H enc _ => demandHolds_lifted os started H enc)

theorem demandHolds_holds : Rows.DemandHoldsSaid := demandHolds_over
#print axioms demandHolds_holds

end Go.Proofs.Ytoafkphcfhbnmaa
