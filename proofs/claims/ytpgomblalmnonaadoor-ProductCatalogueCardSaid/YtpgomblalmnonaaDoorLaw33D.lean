/- ProductCatalogue: for every input the call returns true, and each argument reads afterwards as it read before. No conditions. -/
import Derived.Test.YtpgomblalmnonaaDoorDoor
import Derived.Test.YtpgomblalmnonaaDoorKnown33
import Derived.Test.YtpgomblalmnonaaDoorRCtl33
import Derived.Test.YtpgomblalmnonaaDoorAppS
namespace Go.Proofs.YtpgomblalmnonaaDoor
open Go.RowKit Go.ChangeShapes Go.WideShapes Go.ChangeAt

theorem ctl_len (ar : List Area) (imps : List Imp) (cl pr : Int) : (ctlF ar imps cl pr).1.length ≤ 2 * ar.length := by
  unfold ctlF
  split
  · split
    · exact catal_len _ _ _ _
    · simp
  · simp

set_option maxRecDepth 100000 in
set_option maxHeartbeats 4000000 in
theorem productCatalogue_walk (w : World) (A : Option Addr) (n c : Nat) (ar : List Area) (R : RowS 2 Area.cell w w.heap.size A n ar ∧ n ≤ 9223372036854775807) (B : Option Addr) (m d : Nat) (imps : List Imp) (Rb : RowS 3 Imp.cell w w.heap.size B m imps ∧ m ≤ 9223372036854775807) (cl : Int) (_hcl : I64 cl) (pr : Int) (_hpr : I64 pr) :
    Calls Tryd.prog 4 #[.slice A n c, .slice B m d, .agg #[.int .i64 cl], .int .i64 pr] w fun e w' => e = .returned (.bool true) ∧ Below w.heap.size w w' := by
  obtain ⟨ha, hnn⟩ := R
  obtain ⟨hb, hmm⟩ := Rb
  have B0 : Hid (Below w.heap.size w (w.alloc (.cells #[.int .i64 cl] 32))) := Lib.hid ((Below.refl _ _).alloc (Nat.le_refl _) _)
  have HA := Lib.hid (ha.keep B0.out)
  have HB := Lib.hid (hb.keep B0.out)
  have Hal := Eqn.mk ha.1
  have Hbl := Eqn.mk hb.1
  clear ha hb
  by_cases h1 : n ≤ 12
  · have d1 : ¬ (12 : Int) < (n : Int) := by omega
    by_cases h2 : m ≤ 40
    · have d2 : ¬ (40 : Int) < (m : Int) := by omega
      have hlen : (ctlF ar imps cl pr).1.length ≤ 1000 := Nat.le_trans (ctl_len _ _ _ _) (by rw [Hal.out]; omega)
      generalize ht : ctlF ar imps cl pr = tt at hlen
      obtain ⟨xs, er⟩ := tt
      have HT := Eqn.mk ht
      clear ht
      dsimp only at hlen
      have t2 : (er == er) = true := by simp
      have hia := area_info
      have hib := imp_info
      cases hi0 : Tryd.prog.info? 39 with
      | none => rw [hi0] at hia; cases hia
      | some i0 =>
        cases hi1 : Tryd.prog.info? 41 with
        | none => rw [hi1] at hib; cases hib
        | some i1 =>
          rw [hi0] at hia
          rw [hi1] at hib
          simp only [Option.map_some, Option.some.injEq, _root_.Prod.mk.injEq] at hia hib
          have HIA := Lib.hid hia
          have HIB := Lib.hid hib
          have HI0 := Lib.hid hi0
          have HI1 := Lib.hid hi1
          clear hia hib hi0 hi1
          go_enter Tryd.func4, Tryd.ntmps4
          go_wp2_with (at_builtin; first | (refine wpList_append_rowS rfl _ _ 29 rfl (by omega) area_one 39 i0 _ 16 Tryd.underlying29 HI0.out HIA.out.1 HIA.out.2.1 HIA.out.2.2 rfl rfl A n c ar _ rfl (by exact HA.out) (by unfold maxLen; omega) (by omega) ?_; intro v wa hown hba; obtain ⟨A0, c0, rfl, hr0⟩ := own_formS (by omega) hown; have BA := Lib.hid hba; have RA := Lib.hid hr0; clear hown hba hr0) | (refine wpList_append_rowS rfl _ _ 30 rfl (by omega) imp_one 41 i1 _ 24 Tryd.underlying30 HI1.out HIB.out.1 HIB.out.2.1 HIB.out.2.2 rfl rfl B m d imps _ rfl (by exact HB.out.keep BA.out) (by unfold maxLen; omega) (by omega) ?_; intro v wb hown hbb; obtain ⟨B0', c1, rfl, hr1⟩ := own_formS (by omega) hown; have BB := Lib.hid hbb; have RB := Lib.hid hr1; have cT := (hbb.cell (p := ⟨w.heap.size, 0, none⟩) (Nat.lt_of_lt_of_le (by simp) BA.out.size)).trans ((BA.out.cell (p := ⟨w.heap.size, 0, none⟩) (by simp)).trans (show _ = some (Value.int .i64 cl) by go_simp)); clear hown hbb hr1))
          refine (catalogue_any A0 B0' n c0 m c1 cl pr _ ar imps (by omega) (by omega) (by exact RA.out.keep BB.out) (by exact RB.out)).mono ?_
          rw [HT.out]
          rintro e w1 ⟨v1, rfl, ho1, hb1⟩
          obtain ⟨X1, e1, rfl, hr1⟩ := own_formS (by omega) ho1
          have R1 := Lib.hid hr1
          have cT1 := (hb1.cell (p := ⟨w.heap.size, 0, none⟩) (Nat.lt_of_lt_of_le (by simp) (Nat.le_trans BA.out.size BB.out.size))).trans cT
          have BX := Lib.hid (BA.out.trans ((BB.out.trans (hb1.mono BB.out.size)).mono BA.out.size))
          have BW : Hid (Below w.heap.size w w1) := Lib.hid (B0.out.trans (BX.out.mono B0.out.size))
          have HA1 := Lib.hid (HA.out.keep BX.out)
          have HB1 := Lib.hid (HB.out.keep BX.out)
          have RA1 := Lib.hid ((RA.out.keep BB.out).keep hb1)
          have RB1 := Lib.hid (RB.out.keep hb1)
          have L1 : w.heap.size < w1.heap.size := Nat.lt_of_lt_of_le (by simp) BX.out.size
          clear ho1 hr1 hb1 cT BX RA RB BA BB HA HB
          go_wp2_with fail
          refine (rcatalogue_any A B n c m d cl pr _ ar imps (by omega) (by omega) (by exact HA1.out) (by exact HB1.out)).mono ?_
          rw [HT.out]
          rintro e w2 ⟨v2, rfl, ho2, hb2⟩
          obtain ⟨X2, e2, rfl, hr2⟩ := own_formS (by omega) ho2
          have R2 := Lib.hid hr2
          have R1' := Lib.hid (R1.out.keep hb2)
          have HA2 := Lib.hid (HA1.out.keep hb2)
          have HB2 := Lib.hid (HB1.out.keep hb2)
          have RA2 := Lib.hid (RA1.out.keep hb2)
          have RB2 := Lib.hid (RB1.out.keep hb2)
          have BW2 : Hid (Below w.heap.size w w2) := Lib.hid (BW.out.trans (hb2.mono BW.out.size))
          clear ho2 hr2 hb2 cT1 L1 R1 HA1 HB1 RA1 RB1 BW
          go_wp2_with fail
          go_loopw [15] (fun i wr => ∃ k : Nat, k ≤ n ∧ i = .int .i64 k ∧ Below w2.heap.size w2 wr) (fun i _ => n - (intOf i).toNat)
          case atStart => exact ⟨0, Nat.zero_le _, rfl, Below.refl _ _⟩
          case round =>
            obtain ⟨k, hk, rfl, HW⟩ := hrel
            have HWW := Lib.hid HW
            by_cases hlt : k < n
            · obtain ⟨p, hp, _⟩ := drop_at (xs := ar) (k := k) (by rw [Hal.out]; exact hlt)
              obtain ⟨b, off, rfl, hbl, hc⟩ := (RA2.out.below HW).2 (by omega)
              obtain ⟨b', off', rfl, hbl', hc'⟩ := (HA2.out.below HW).2 (by omega)
              have q0 := hc k p hp 0 (by omega)
              have q1 := hc k p hp 1 (by omega)
              have u0 := hc' k p hp 0 (by omega)
              have u1 := hc' k p hp 1 (by omega)
              simp only [Area.cell, Nat.add_zero] at q0 q1 u0 u1
              have j0 : (0 : Int) ≤ (k : Int) := by omega
              have j1 : (k : Int) < (n : Int) := by omega
              have hne := fun w => area_neq w p.id p.people
              clear hc hc' hp HW
              go_wp2_with fail
              refine Lx.region (C := fun _ => True) (hs := []) (by kernel_rfl) (by kernel_rfl) trivial ?_
              repeat' (first
                | (refine Lx.lex_no (Lx.n1 rfl rfl rfl (by with_reducible rfl)) (fun K hK => ?_); go_simp; refine hK _ ?_; clear hK K)
                | (refine Lx.lex_no (Lx.n0 rfl rfl rfl (by with_reducible rfl)) (fun K hK => ?_); go_simp; refine hK _ ?_; clear hK K)
                | (refine Lx.lex_no (Lx.n2 rfl rfl rfl) (fun K hK => ?_); go_simp; refine hK _ ?_; clear hK K)
                | (refine Lx.lex_pure (v := ?_) rfl (by first | exact Lx.w0 rfl | exact Lx.w1 rfl rfl rfl (by with_reducible rfl)) ?_ (fun K hK => ?_); rotate_left 1; (intro w' hCw; (try dsimp only at hCw); go_simp; done); go_simp; refine hK _ ?_; clear hK K)
                | (refine Lx.lex_pure (v := ?_) rfl (by first | exact Lx.w0 rfl | exact Lx.w1 rfl rfl rfl (by with_reducible rfl)) ?_ (fun K hK => ?_); rotate_left 1; (intro w' hCw; (try dsimp only at hCw); go_simp; with_reducible rfl); go_simp; refine hK _ ?_; clear hK K)
                | (refine Lx.lex_read (v := ?_) rfl (by first | exact Lx.w0 rfl | exact Lx.w1 rfl rfl rfl (by with_reducible rfl)) ?_ (fun K hK => ?_); rotate_left 1; (go_simp; done); go_simp; refine hK _ ?_; clear hK K)
                | (refine Lx.lex_read (v := ?_) rfl (by first | exact Lx.w0 rfl | exact Lx.w1 rfl rfl rfl (by with_reducible rfl)) ?_ (fun K hK => ?_); rotate_left 1; (go_simp; with_reducible rfl); go_simp; refine hK _ ?_; clear hK K)
                | (refine Lx.lex_eff rfl (by first | exact Lx.w0 rfl | exact Lx.w1 rfl rfl rfl (by with_reducible rfl)) (fun K hK => ?_); go_simp; (first | fail | skip); refine hK _ _ (trivial) ?_; clear hK K)
                | (refine Lx.lex_cases rfl rfl rfl (fun hgd K hK => ?_) (fun hgd K hK => ?_) <;> (try simp only [decide_eq_true_eq, decide_eq_false_iff_not] at hgd) <;> (first | (exfalso; omega) | (go_simp; refine hK _ ?_; clear hK K))))
              all_goals (refine Lx.lex_nil ?_)
              go_wp2_with fail
              go_roundw
              case rel => exact ⟨k + 1, by omega, by go_num, HWW.out.drew⟩
              case measure => simp only [intOf]; omega
            · clear HW
              have RB3 := Lib.hid (RB2.out.keep HWW.out)
              have HB3 := Lib.hid (HB2.out.keep HWW.out)
              have R13 := Lib.hid (R1'.out.keep HWW.out)
              have R23 := Lib.hid (R2.out.keep HWW.out)
              have BW3 : Hid (Below w.heap.size w wr) := Lib.hid (BW2.out.trans (HWW.out.mono BW2.out.size))
              clear HWW BW2 R1' R2 RA2 HA2 RB2 HB2
              obtain ⟨wo, rfl⟩ : ∃ wo : World, wo = wr := ⟨_, rfl⟩
              go_wp2_with fail
              go_loopw [16] (fun i wr => ∃ k : Nat, k ≤ m ∧ i = .int .i64 k ∧ Below wo.heap.size wo wr) (fun i _ => m - (intOf i).toNat)
              case atStart => exact ⟨0, Nat.zero_le _, rfl, Below.refl _ _⟩
              case round =>
                obtain ⟨k', hk', rfl, HW⟩ := hrel
                have HWW := Lib.hid HW
                by_cases hlt' : k' < m
                · obtain ⟨p, hp, _⟩ := drop_at (xs := imps) (k := k') (by rw [Hbl.out]; exact hlt')
                  obtain ⟨b, off, rfl, hbl, hc⟩ := (RB3.out.below HW).2 (by omega)
                  obtain ⟨b', off', rfl, hbl', hc'⟩ := (HB3.out.below HW).2 (by omega)
                  have q0 := hc k' p hp 0 (by omega)
                  have q1 := hc k' p hp 1 (by omega)
                  have q2 := hc k' p hp 2 (by omega)
                  have u0 := hc' k' p hp 0 (by omega)
                  have u1 := hc' k' p hp 1 (by omega)
                  have u2 := hc' k' p hp 2 (by omega)
                  simp only [Imp.cell, Nat.add_zero] at q0 q1 q2 u0 u1 u2
                  have j0 : (0 : Int) ≤ (k' : Int) := by omega
                  have j1 : (k' : Int) < (m : Int) := by omega
                  have hne := fun w => imp_neq w p.area p.block p.pct
                  clear hc hc' hp HW
                  go_wp2_with fail
                  refine Lx.region (C := fun _ => True) (hs := []) (by kernel_rfl) (by kernel_rfl) trivial ?_
                  repeat' (first
                    | (refine Lx.lex_no (Lx.n1 rfl rfl rfl (by with_reducible rfl)) (fun K hK => ?_); go_simp; refine hK _ ?_; clear hK K)
                    | (refine Lx.lex_no (Lx.n0 rfl rfl rfl (by with_reducible rfl)) (fun K hK => ?_); go_simp; refine hK _ ?_; clear hK K)
                    | (refine Lx.lex_no (Lx.n2 rfl rfl rfl) (fun K hK => ?_); go_simp; refine hK _ ?_; clear hK K)
                    | (refine Lx.lex_pure (v := ?_) rfl (by first | exact Lx.w0 rfl | exact Lx.w1 rfl rfl rfl (by with_reducible rfl)) ?_ (fun K hK => ?_); rotate_left 1; (intro w' hCw; (try dsimp only at hCw); go_simp; done); go_simp; refine hK _ ?_; clear hK K)
                    | (refine Lx.lex_pure (v := ?_) rfl (by first | exact Lx.w0 rfl | exact Lx.w1 rfl rfl rfl (by with_reducible rfl)) ?_ (fun K hK => ?_); rotate_left 1; (intro w' hCw; (try dsimp only at hCw); go_simp; with_reducible rfl); go_simp; refine hK _ ?_; clear hK K)
                    | (refine Lx.lex_read (v := ?_) rfl (by first | exact Lx.w0 rfl | exact Lx.w1 rfl rfl rfl (by with_reducible rfl)) ?_ (fun K hK => ?_); rotate_left 1; (go_simp; done); go_simp; refine hK _ ?_; clear hK K)
                    | (refine Lx.lex_read (v := ?_) rfl (by first | exact Lx.w0 rfl | exact Lx.w1 rfl rfl rfl (by with_reducible rfl)) ?_ (fun K hK => ?_); rotate_left 1; (go_simp; with_reducible rfl); go_simp; refine hK _ ?_; clear hK K)
                    | (refine Lx.lex_eff rfl (by first | exact Lx.w0 rfl | exact Lx.w1 rfl rfl rfl (by with_reducible rfl)) (fun K hK => ?_); go_simp; (first | fail | skip); refine hK _ _ (trivial) ?_; clear hK K)
                    | (refine Lx.lex_cases rfl rfl rfl (fun hgd K hK => ?_) (fun hgd K hK => ?_) <;> (try simp only [decide_eq_true_eq, decide_eq_false_iff_not] at hgd) <;> (first | (exfalso; omega) | (go_simp; refine hK _ ?_; clear hK K))))
                  all_goals (refine Lx.lex_nil ?_)
                  go_wp2_with fail
                  go_roundw
                  case rel => exact ⟨k' + 1, by omega, by go_num, HWW.out.drew⟩
                  case measure => simp only [intOf]; omega
                · clear HW
                  have R14 := Lib.hid (R13.out.keep HWW.out)
                  have R24 := Lib.hid (R23.out.keep HWW.out)
                  have BW4 : Hid (Below w.heap.size w wr) := Lib.hid (BW3.out.trans (HWW.out.mono BW3.out.size))
                  clear HWW BW3 R13 R23 RB3 HB3
                  go_wp2_with fail
                  refine (sameP_any X1 X2 _ e1 e2 _ _ xs hlen (by exact R14.out) (by exact R24.out)).mono ?_
                  rintro e w5 ⟨rfl, hb5⟩
                  have BW5 : Hid (Below w.heap.size w w5) := Lib.hid (BW4.out.trans (hb5.mono BW4.out.size))
                  clear hb5 BW4 R14 R24
                  go_wp2_with fail
                  refine (known_any _).mono ?_
                  rintro e wz ⟨rfl, hbz⟩
                  go_wp2_with fail
                  go_ret
                  exact ⟨rfl, BW5.out.trans (hbz.mono BW5.out.size)⟩
    · have d2 : (40 : Int) < (m : Int) := by omega
      go_enter Tryd.func4, Tryd.ntmps4
      go_wp2_with fail
      refine (known_any _).mono ?_
      rintro e wz ⟨rfl, hbz⟩
      have BZ := B0.out.trans (hbz.mono B0.out.size)
      clear hbz
      go_wp2_with fail
      go_ret
      exact ⟨rfl, BZ⟩
  · have d1 : (12 : Int) < (n : Int) := by omega
    go_enter Tryd.func4, Tryd.ntmps4
    go_wp2_with fail
    refine (known_any _).mono ?_
    rintro e wz ⟨rfl, hbz⟩
    have BZ := B0.out.trans (hbz.mono B0.out.size)
    clear hbz
    go_wp2_with fail
    go_ret
    exact ⟨rfl, BZ⟩

set_option maxRecDepth 100000 in
theorem productCatalogue_lifted (os : Os) (started : os.Started) (H : Type) (enc : TypeId × Value → H) :
    ReturnsInHanded {} Tryd.checked os 4 .any (fun w args => (Rows.productCatalogueSpec.pre enc Tryd.prog Tryd.f4 [] false w args ∧ laidMetH Tryd.prog laid33 w) ∧ sizedMet enc Tryd.prog Tryd.f4 (OpenSpec.ofChange Rows.productCatalogueSpec) false w args) (Rows.productCatalogueSpec.post enc Tryd.prog Tryd.f4 false true false false) := by
  refine returnsInHanded_of_change_and (C := Tryd.checked) (X := fun w _ => laidMetH Tryd.prog laid33 w) (fun _ _ _ hh h => h.of_heap hh) own started (by kernel_rfl) Tryd.func4
    (ChangeSpec.witness_shaped (enc := enc) (C := Tryd.checked) (os := os) (X := fun w _ => laidMetH Tryd.prog laid33 w) false (World.laidAll Tryd.prog os laid33) #[.slice none 0 0, .slice none 0 0, .agg #[.int .i64 0], .int .i64 0] 8 (World.laidAll_os _ _ _) (World.shaped_of_ZipB (by kernel_rfl) (by kernel_rfl)) (by kernel_rfl) (by kernel_rfl) (by kernel_rfl) (laidHold os _)) ?_
  intro W base args ds gs before hval0 hW hcnd _ _ _
  have hval : ∀ (j : Nat) t v, Tryd.f4.params[j]? = some t → args[j]? = some v → Value.okWide Tryd.prog W .any base t v := hval0
  have hW' := hW
  obtain ⟨p, q, hA0, hV, rfl, hfz, hnd⟩ := hW
  have hA : DataW.TrodAll enc Tryd.prog W 0 (fun _ => true) true Tryd.f4.params.toList args.toList ds p := hA0
  rw [Tryd.params4] at hA hval
  obtain ⟨v0, vs0, d0, ds0, p0, q0, hargs, rfl, rfl, h0, r0⟩ := trodAll_cons hA
  obtain ⟨v1, vs1, d1, ds1, p1, q1, rfl, rfl, rfl, h1, r1⟩ := trodAll_cons r0
  obtain ⟨v2, vs2, d2, ds2, p2, q2, rfl, rfl, rfl, h2, r2⟩ := trodAll_cons r1
  obtain ⟨v3, vs3, d3, ds3, p3, q3, rfl, rfl, rfl, h3, r3⟩ := trodAll_cons r2
  obtain ⟨rfl, rfl, rfl⟩ := trodAll_nil r3
  obtain rfl : args = #[v0, v1, v2, v3] := by cases args; simp_all
  obtain ⟨rfl, rfl⟩ := trodVars_none hV
  have k0 := h0
  have lt0 : ∀ x ∈ p0, x.block < W.heap.size := by obtain ⟨m, hm⟩ := k0; exact DataW.trod_lt m _ _ _ hm
  have k1 := h1
  have lt1 : ∀ x ∈ p1, x.block < W.heap.size := by obtain ⟨m, hm⟩ := k1; exact DataW.trod_lt m _ _ _ hm
  have k2 := h2
  have lt2 : ∀ x ∈ p2, x.block < W.heap.size := by obtain ⟨m, hm⟩ := k2; exact DataW.trod_lt m _ _ _ hm
  have k3 := h3
  have lt3 : ∀ x ∈ p3, x.block < W.heap.size := by obtain ⟨m, hm⟩ := k3; exact DataW.trod_lt m _ _ _ hm
  obtain ⟨A0, n0, c0, xs0, rfl, R0⟩ := arg_areas (hval 0 29 _ rfl rfl) h0
  obtain ⟨A1, n1, c1, xs1, rfl, R1⟩ := arg_imps (hval 1 30 _ rfl rfl) h1
  obtain ⟨y2, rfl, R2⟩ := arg_target (hval 2 32 _ rfl rfl) h2
  obtain ⟨x3, rfl, b3⟩ := arg_int Tryd.underlying3 (hval 3 3 _ rfl rfl) h3
  clear hA0 hval0
  refine (productCatalogue_walk W A0 n0 c0 xs0 R0 A1 n1 c1 xs1 R1 y2 R2 x3 b3).mono fun e W' ⟨he, bel⟩ => ?_
  subst he
  exact ⟨_, rfl, _, _, _, [], _, [], hW', trodAll_mk1 (shut_bool Tryd.underlying4 _), (trodAll_cons_mk (Below.trod laidOut (by kernel_rfl) (of_decide_eq_true (by kernel_rfl)) k0 bel lt0) (trodAll_cons_mk (Below.trod laidOut (by kernel_rfl) (of_decide_eq_true (by kernel_rfl)) k1 bel lt1) (trodAll_cons_mk (Below.trod laidOut (by kernel_rfl) (of_decide_eq_true (by kernel_rfl)) k2 bel lt2) (trodAll_cons_mk (Below.trod laidOut (by kernel_rfl) (of_decide_eq_true (by kernel_rfl)) k3 bel lt3) trodAll_mk0)))), rfl, bel.frame _, fun h => by cases h⟩

theorem productCatalogue_over : Rows.productCatalogueRow.holds Tryd.pinned (OpenSpec.ofChange Rows.productCatalogueSpec) :=
  OpenClaim.holds_of_wide 4 Tryd.f4 rfl rfl rfl rfl rfl rfl rfl ⟨rfl, rfl, rfl, rfl, rfl⟩ rfl rfl rfl rfl rfl (by kernel_rfl) Tryd.func4 (by kernel_rfl)
    (of_decide_eq_true (by kernel_rfl)) (by unfold Func.isWrapper; first | (rw [if_pos (by decide +kernel)]; kernel_rfl) | (rw [if_neg (by decide +kernel)]; exact ⟨rfl, rfl⟩))
    (fun os started H enc _ => productCatalogue_lifted os started H enc)

theorem productCatalogueCard_holds : Rows.ProductCatalogueCardSaid :=
  Claim7.holds_tied_plain_at .later [] [.data, .data, .data] true (true, "99b0a6eeb5f712185567425eb08b9b8cd25ece7f1515afd70c80bd1073e70de0") false
    productCatalogue_over (fun _ h => by cases h) (by kernel_rfl) (fun _ h => by cases h) productCatalogue_row_tie rfl ⟨rfl, rfl⟩ (by kernel_rfl) rfl
    (fun f fn hf hfn => by
      obtain rfl : f = 4 := Option.some.inj ((show Tryd.prog.funcNamed "bandplan/bandplanlaw33.ProductCatalogue" = some 4 by kernel_rfl).symm.trans hf) |>.symm
      obtain rfl : fn = Tryd.f4 := (Option.some.inj (Tryd.func4.symm.trans hfn)).symm
      exact ⟨by kernel_rfl, fun j t ht => by
        rw [Tryd.params4] at ht
        rcases j with _ | j
        · obtain rfl : t = 29 := by simpa using ht.symm
          exact (show Tryd.prog.wantsStandIn 29 = false by kernel_rfl)
        rcases j with _ | j
        · obtain rfl : t = 30 := by simpa using ht.symm
          exact (show Tryd.prog.wantsStandIn 30 = false by kernel_rfl)
        rcases j with _ | j
        · obtain rfl : t = 32 := by simpa using ht.symm
          exact (show Tryd.prog.wantsStandIn 32 = false by kernel_rfl)
        rcases j with _ | j
        · obtain rfl : t = 3 := by simpa using ht.symm
          exact (show Tryd.prog.wantsStandIn 3 = false by kernel_rfl)
        · simp at ht⟩)
    (by kernel_rfl)
#print axioms productCatalogueCard_holds
end Go.Proofs.YtpgomblalmnonaaDoor
