/- product.Valid, by its loop 'ordered'. -/
import Derived.Test.YtpgomblalmnonaaDoorProd
import Derived.Test.YtpgomblalmnonaaDoorLex
namespace Go.Proofs.YtpgomblalmnonaaDoor
open Go.RowKit

theorem supOk_zero : SupOk (List.replicate 64 0) := by
  refine ⟨by simp, fun i x hx => ?_⟩
  rw [List.getElem?_replicate] at hx
  split at hx
  · injection hx with e; omega
  · cases hx
/-- cells of another block than the one that may have turned -/
theorem grown_cell {w w' : World} {g k : Nat} (h : w.grownBy w' (some g)) (hk : k < w.heap.size) (hne : k ≠ g) (o : Nat) : w'.cell? ⟨k, o, none⟩ = w.cell? ⟨k, o, none⟩ :=
  World.cell?_of_block (w := w) (h.block k hk (fun e => by injection e with e; exact hne e))

set_option maxHeartbeats 1000000 in
theorem ordered_any (A : Option Addr) (n c B g t : Nat) (l : List Prod) (w : World) (hn : n ≤ 140) (hl : RowS 5 Prod.cell w B A n l) (hB : B ≤ g) (hs : IntBlk w g t (List.replicate 64 0)) :
    Calls Tryd.prog 40 #[.slice A n c, .func (.func 41) #[] #[.pointer (some ⟨g, 0, none⟩)], .func (.func 42) #[] #[]] w (OrdPost (prodValid l) B w) := by
  have Hl := Lib.hid hl
  have Hs := Lib.hid hs
  clear hl hs
  go_enter Tryd.func40, Tryd.ntmps40
  go_wp2
  go_loopw [11] (fun i wr => ∃ (k : Nat) (prev : Option Prod) (s : List Int), k ≤ n ∧ i = .int .i64 k ∧ Eqn prev (if k = 0 then none else l[k - 1]?) ∧ Eqn (prodValid l) (prodGo (l.drop k) prev s) ∧ SupOk s ∧ IntBlk wr g t s ∧ Below B w wr) (fun i _ => n - (intOf i).toNat)
  case atStart => exact ⟨0, none, List.replicate 64 0, Nat.zero_le _, rfl, Eqn.mk rfl, Eqn.mk rfl, supOk_zero, Hs.out, Below.refl _ _⟩
  case round =>
    obtain ⟨k, prev, s, hk, rfl, HP, HR, HO, HI, HW⟩ := hrel
    by_cases hlt : k < n
    · obtain ⟨p, hp, hpd⟩ := drop_at (xs := l) (k := k) (by rw [Hl.out.1]; exact hlt)
      obtain ⟨b, off, rfl, hbl, hc⟩ := (Hl.out.below HW).2 (by omega)
      have c0 := hc k p hp 0 (by omega)
      have c1 := hc k p hp 1 (by omega)
      have c2 := hc k p hp 2 (by omega)
      have c3 := hc k p hp 3 (by omega)
      have c4 := hc k p hp 4 (by omega)
      simp only [Prod.cell, Nat.add_zero] at c0 c1 c2 c3 c4
      have Hc := Lib.hid hc
      have Hpd := Eqn.mk hpd
      have HPl : Eqn (some p) (if k + 1 = 0 then none else l[k + 1 - 1]?) := by rw [Eqn, if_neg (by omega), Nat.add_sub_cancel]; exact hp.symm
      have HWI := Lib.hid HI
      have HWW := Lib.hid HW
      have hgl := HI.lt
      clear hc hpd hp HI HW
      by_cases hok : okA p
      · obtain ⟨x, hx, hxd, hx0, hx1⟩ := HO.get (a := p.area.toNat) (by unfold okA at hok; omega)
        have HX := Lib.hid hx
        have HX0 := Lib.hid hx0
        have HX1 := Lib.hid hx1
        have hwne : wr.heap.size ≠ g := by omega
        have hokB : okAB p = true := (okAB_iff p).2 hok
        clear hx hx0 hx1
        cases hbb : (decide (x + p.sup ≤ 12) && okBB p) with
        | true =>
          have HBB := Eqn.mk hbb
          have hsum : x + p.sup ≤ 12 := by
            have := hbb; rw [Bool.and_eq_true] at this; simpa using this.1
          have hs' := HO.put (a := p.area.toNat) (x := x + p.sup) (by unfold okA at hok; have := HX0.out; omega) hsum
          by_cases hk0 : k = 0
          · have hk0' : decide (0 < k) = false := by simp [hk0]
            have HRt : Eqn (prodValid l) (prodGo (l.drop (k + 1)) (some p) (s.set p.area.toNat (x + p.sup))) := by
              have hp0 : prev = none := by have := HP.out; rw [if_pos hk0] at this; exact this
              have := HR.out
              rw [Hpd.out, hp0] at this; unfold prodGo at this; rw [if_neg (by rw [hokB]; simp), hxd, if_neg (by rw [hbb]; simp)] at this
              exact this
            clear hbb hxd hokB hk0
            go_wp2
            refine Lx.region (C := fun _ => True) (hs := []) (by kernel_rfl) (by kernel_rfl) trivial ?_
            repeat' (first
              | (refine Lx.lex_no (Lx.n1 rfl rfl rfl (by with_reducible rfl)) (fun K hK => ?_); go_simp; refine hK _ ?_; clear hK K)
              | (refine Lx.lex_no (Lx.n0 rfl rfl rfl (by with_reducible rfl)) (fun K hK => ?_); go_simp; refine hK _ ?_; clear hK K)
              | (refine Lx.lex_no (Lx.n2 rfl rfl rfl) (fun K hK => ?_); go_simp; refine hK _ ?_; clear hK K)
              | (refine Lx.lex_pure (v := ?_) rfl (by first | exact Lx.w0 rfl | exact Lx.w1 rfl rfl rfl (by with_reducible rfl)) ?_ (fun K hK => ?_); rotate_left 1; (intro w' hCw; (try dsimp only at hCw); go_simp; done); go_simp; refine hK _ ?_; clear hK K)
              | (refine Lx.lex_pure (v := ?_) rfl (by first | exact Lx.w0 rfl | exact Lx.w1 rfl rfl rfl (by with_reducible rfl)) ?_ (fun K hK => ?_); rotate_left 1; (intro w' hCw; (try dsimp only at hCw); go_simp; with_reducible rfl); go_simp; refine hK _ ?_; clear hK K)
              | (refine Lx.lex_read (v := ?_) rfl (by first | exact Lx.w0 rfl | exact Lx.w1 rfl rfl rfl (by with_reducible rfl)) ?_ (fun K hK => ?_); rotate_left 1; (go_simp; done); go_simp; refine hK _ ?_; clear hK K)
              | (refine Lx.lex_read (v := ?_) rfl (by first | exact Lx.w0 rfl | exact Lx.w1 rfl rfl rfl (by with_reducible rfl)) ?_ (fun K hK => ?_); rotate_left 1; (go_simp; with_reducible rfl); go_simp; refine hK _ ?_; clear hK K)
              | (refine Lx.lex_eff rfl (by first | exact Lx.w0 rfl | exact Lx.w1 rfl rfl rfl (by with_reducible rfl)) (fun K hK => ?_); go_simp; (first | (go_at_call 41; refine (valid1_ok p g t s x _ hok (by exact HWI.out.alloc _) HO.1 HX.out HX0.out HX1.out true HBB.out).mono ?_; rintro e w' ⟨rfl, hgw, hiw⟩) | skip); refine hK _ _ (trivial) ?_; clear hK K)
              | (refine Lx.lex_cases rfl rfl rfl (fun hgd K hK => ?_) (fun hgd K hK => ?_) <;> (try simp only [decide_eq_true_eq, decide_eq_false_iff_not] at hgd) <;> (first | (exfalso; omega) | (go_simp; refine hK _ ?_; clear hK K))))
            all_goals (refine Lx.lex_nil ?_)
            go_wp2
            go_roundw
            case rel => exact ⟨k + 1, some p, _, by omega, by go_num, HPl, HRt, hs', hiw, HWW.out.trans (((Below.refl B wr).alloc (by omega) _).drew.trans (below_of_grownBy hgw hB (by simp; omega)))⟩
            case measure => simp [intOf]; omega
          · have hk1 : 0 < k := by omega
            have hk1' : decide (0 < k) = true := by simpa using hk1
            obtain ⟨q, hq⟩ : ∃ q, l[k - 1]? = some q := ⟨_, List.getElem?_eq_getElem (by rw [Hl.out.1]; omega)⟩
            have hpq : prev = some q := by have := HP.out; rw [if_neg hk0, hq] at this; exact this
            have d0 := Hc.out (k - 1) q hq 0 (by omega)
            have d1 := Hc.out (k - 1) q hq 1 (by omega)
            have d2 := Hc.out (k - 1) q hq 2 (by omega)
            have d3 := Hc.out (k - 1) q hq 3 (by omega)
            have d4 := Hc.out (k - 1) q hq 4 (by omega)
            simp only [Prod.cell, Nat.add_zero] at d0 d1 d2 d3 d4
            have hwr : IntKind.i64.wrap ((k : Int) - 1) = (k : Int) - 1 := by rw [IntKind.wrap_i64]; omega
            have htn : ((k : Int) - 1).toNat = k - 1 := by omega
            have hge : (0 : Int) ≤ (k : Int) - 1 := by omega
            have hlt2 : (k : Int) - 1 < (n : Int) := by omega
            have hge' : (1 : Int) ≤ (k : Int) := by omega
            have hbs : b < wr.heap.size := by omega
            by_cases hcmp : 0 ≤ cmpP q p
            · have hcmp' : decide (0 ≤ cmpP q p) = true := by simpa using hcmp
              have HRf : Eqn (prodValid l) false := by
                have := HR.out
                rw [Hpd.out, hpq] at this; unfold prodGo at this; rw [if_neg (by rw [hokB]; simp), hxd, if_neg (by rw [hbb]; simp)] at this
                dsimp only at this
                rw [if_pos hcmp] at this
                exact this
              clear hbb hxd hokB hk0 hq hpq
              go_wp2
              refine Lx.region (C := fun _ => True) (hs := []) (by kernel_rfl) (by kernel_rfl) trivial ?_
              repeat' (first
                | (refine Lx.lex_no (Lx.n1 rfl rfl rfl (by with_reducible rfl)) (fun K hK => ?_); go_simp; refine hK _ ?_; clear hK K)
                | (refine Lx.lex_no (Lx.n0 rfl rfl rfl (by with_reducible rfl)) (fun K hK => ?_); go_simp; refine hK _ ?_; clear hK K)
                | (refine Lx.lex_no (Lx.n2 rfl rfl rfl) (fun K hK => ?_); go_simp; refine hK _ ?_; clear hK K)
                | (refine Lx.lex_pure (v := ?_) rfl (by first | exact Lx.w0 rfl | exact Lx.w1 rfl rfl rfl (by with_reducible rfl)) ?_ (fun K hK => ?_); rotate_left 1; (intro w' hCw; (try dsimp only at hCw); go_simp; done); go_simp; refine hK _ ?_; clear hK K)
                | (refine Lx.lex_pure (v := ?_) rfl (by first | exact Lx.w0 rfl | exact Lx.w1 rfl rfl rfl (by with_reducible rfl)) ?_ (fun K hK => ?_); rotate_left 1; (intro w' hCw; (try dsimp only at hCw); go_simp; with_reducible rfl); go_simp; refine hK _ ?_; clear hK K)
                | (refine Lx.lex_read (v := ?_) rfl (by first | exact Lx.w0 rfl | exact Lx.w1 rfl rfl rfl (by with_reducible rfl)) ?_ (fun K hK => ?_); rotate_left 1; (go_simp; done); go_simp; refine hK _ ?_; clear hK K)
                | (refine Lx.lex_read (v := ?_) rfl (by first | exact Lx.w0 rfl | exact Lx.w1 rfl rfl rfl (by with_reducible rfl)) ?_ (fun K hK => ?_); rotate_left 1; (go_simp; with_reducible rfl); go_simp; refine hK _ ?_; clear hK K)
                | (refine Lx.lex_eff rfl (by first | exact Lx.w0 rfl | exact Lx.w1 rfl rfl rfl (by with_reducible rfl)) (fun K hK => ?_); go_simp; (first | (go_at_call 41; refine (valid1_ok p g t s x _ hok (by exact HWI.out.alloc _) HO.1 HX.out HX0.out HX1.out true HBB.out).mono ?_; rintro e w' ⟨rfl, hgw, hiw⟩; have hcb := grown_cell (k := b) hgw (by simp; omega) (by omega); have hcx := grown_cell (k := wr.heap.size) hgw (by simp) hwne) | (go_at_call 42; refine (cmpP_any q p _).mono ?_; rintro e w2 ⟨rfl, hb2⟩) | skip); refine hK _ _ (trivial) ?_; clear hK K)
                | (refine Lx.lex_cases rfl rfl rfl (fun hgd K hK => ?_) (fun hgd K hK => ?_) <;> (try simp only [decide_eq_true_eq, decide_eq_false_iff_not] at hgd) <;> (first | (exfalso; omega) | (go_simp; refine hK _ ?_; clear hK K))))
              all_goals (refine Lx.lex_nil ?_)
              go_wp2
              go_ret
              exact ⟨ret_bool (by rw [HRf.out]), HWW.out.trans (((Below.refl B wr).alloc (by omega) _).drew.trans ((below_of_grownBy hgw hB (by simp; omega)).trans (hb2.mono (B' := B) (by have := hgw.size; simp at this; omega))))⟩
            · have hcmp' : decide (0 ≤ cmpP q p) = false := by simpa using hcmp
              have HRt : Eqn (prodValid l) (prodGo (l.drop (k + 1)) (some p) (s.set p.area.toNat (x + p.sup))) := by
                have := HR.out
                rw [Hpd.out, hpq] at this; unfold prodGo at this; rw [if_neg (by rw [hokB]; simp), hxd, if_neg (by rw [hbb]; simp)] at this
                dsimp only at this
                rw [if_neg hcmp] at this
                exact this
              clear hbb hxd hokB hk0 hq hpq
              go_wp2
              refine Lx.region (C := fun _ => True) (hs := []) (by kernel_rfl) (by kernel_rfl) trivial ?_
              repeat' (first
                | (refine Lx.lex_no (Lx.n1 rfl rfl rfl (by with_reducible rfl)) (fun K hK => ?_); go_simp; refine hK _ ?_; clear hK K)
                | (refine Lx.lex_no (Lx.n0 rfl rfl rfl (by with_reducible rfl)) (fun K hK => ?_); go_simp; refine hK _ ?_; clear hK K)
                | (refine Lx.lex_no (Lx.n2 rfl rfl rfl) (fun K hK => ?_); go_simp; refine hK _ ?_; clear hK K)
                | (refine Lx.lex_pure (v := ?_) rfl (by first | exact Lx.w0 rfl | exact Lx.w1 rfl rfl rfl (by with_reducible rfl)) ?_ (fun K hK => ?_); rotate_left 1; (intro w' hCw; (try dsimp only at hCw); go_simp; done); go_simp; refine hK _ ?_; clear hK K)
                | (refine Lx.lex_pure (v := ?_) rfl (by first | exact Lx.w0 rfl | exact Lx.w1 rfl rfl rfl (by with_reducible rfl)) ?_ (fun K hK => ?_); rotate_left 1; (intro w' hCw; (try dsimp only at hCw); go_simp; with_reducible rfl); go_simp; refine hK _ ?_; clear hK K)
                | (refine Lx.lex_read (v := ?_) rfl (by first | exact Lx.w0 rfl | exact Lx.w1 rfl rfl rfl (by with_reducible rfl)) ?_ (fun K hK => ?_); rotate_left 1; (go_simp; done); go_simp; refine hK _ ?_; clear hK K)
                | (refine Lx.lex_read (v := ?_) rfl (by first | exact Lx.w0 rfl | exact Lx.w1 rfl rfl rfl (by with_reducible rfl)) ?_ (fun K hK => ?_); rotate_left 1; (go_simp; with_reducible rfl); go_simp; refine hK _ ?_; clear hK K)
                | (refine Lx.lex_eff rfl (by first | exact Lx.w0 rfl | exact Lx.w1 rfl rfl rfl (by with_reducible rfl)) (fun K hK => ?_); go_simp; (first | (go_at_call 41; refine (valid1_ok p g t s x _ hok (by exact HWI.out.alloc _) HO.1 HX.out HX0.out HX1.out true HBB.out).mono ?_; rintro e w' ⟨rfl, hgw, hiw⟩; have hcb := grown_cell (k := b) hgw (by simp; omega) (by omega); have hcx := grown_cell (k := wr.heap.size) hgw (by simp) hwne) | (go_at_call 42; refine (cmpP_any q p _).mono ?_; rintro e w2 ⟨rfl, hb2⟩) | skip); refine hK _ _ (trivial) ?_; clear hK K)
                | (refine Lx.lex_cases rfl rfl rfl (fun hgd K hK => ?_) (fun hgd K hK => ?_) <;> (try simp only [decide_eq_true_eq, decide_eq_false_iff_not] at hgd) <;> (first | (exfalso; omega) | (go_simp; refine hK _ ?_; clear hK K))))
              all_goals (refine Lx.lex_nil ?_)
              go_wp2
              go_roundw
              case rel => exact ⟨k + 1, some p, _, by omega, by go_num, HPl, HRt, hs', hiw.grown hb2, HWW.out.trans (((Below.refl B wr).alloc (by omega) _).drew.trans ((below_of_grownBy hgw hB (by simp; omega)).trans (hb2.mono (B' := B) (by have := hgw.size; simp at this; omega))))⟩
              case measure => simp [intOf]; omega
        | false =>
          have HBB := Eqn.mk hbb
          have HRf : Eqn (prodValid l) false := by
            have := HR.out
            rw [Hpd.out] at this; unfold prodGo at this; rw [if_neg (by rw [hokB]; simp), hxd, if_pos hbb] at this
            exact this
          clear hbb hxd hokB
          go_wp2
          refine Lx.region (C := fun _ => True) (hs := []) (by kernel_rfl) (by kernel_rfl) trivial ?_
          repeat' (first
            | (refine Lx.lex_no (Lx.n1 rfl rfl rfl (by with_reducible rfl)) (fun K hK => ?_); go_simp; refine hK _ ?_; clear hK K)
            | (refine Lx.lex_no (Lx.n0 rfl rfl rfl (by with_reducible rfl)) (fun K hK => ?_); go_simp; refine hK _ ?_; clear hK K)
            | (refine Lx.lex_no (Lx.n2 rfl rfl rfl) (fun K hK => ?_); go_simp; refine hK _ ?_; clear hK K)
            | (refine Lx.lex_pure (v := ?_) rfl (by first | exact Lx.w0 rfl | exact Lx.w1 rfl rfl rfl (by with_reducible rfl)) ?_ (fun K hK => ?_); rotate_left 1; (intro w' hCw; (try dsimp only at hCw); go_simp; done); go_simp; refine hK _ ?_; clear hK K)
            | (refine Lx.lex_pure (v := ?_) rfl (by first | exact Lx.w0 rfl | exact Lx.w1 rfl rfl rfl (by with_reducible rfl)) ?_ (fun K hK => ?_); rotate_left 1; (intro w' hCw; (try dsimp only at hCw); go_simp; with_reducible rfl); go_simp; refine hK _ ?_; clear hK K)
            | (refine Lx.lex_read (v := ?_) rfl (by first | exact Lx.w0 rfl | exact Lx.w1 rfl rfl rfl (by with_reducible rfl)) ?_ (fun K hK => ?_); rotate_left 1; (go_simp; done); go_simp; refine hK _ ?_; clear hK K)
            | (refine Lx.lex_read (v := ?_) rfl (by first | exact Lx.w0 rfl | exact Lx.w1 rfl rfl rfl (by with_reducible rfl)) ?_ (fun K hK => ?_); rotate_left 1; (go_simp; with_reducible rfl); go_simp; refine hK _ ?_; clear hK K)
            | (refine Lx.lex_eff rfl (by first | exact Lx.w0 rfl | exact Lx.w1 rfl rfl rfl (by with_reducible rfl)) (fun K hK => ?_); go_simp; (first | (go_at_call 41; refine (valid1_ok p g t s x _ hok (by exact HWI.out.alloc _) HO.1 HX.out HX0.out HX1.out false HBB.out).mono ?_; rintro e w' ⟨rfl, hgw, hiw⟩) | skip); refine hK _ _ (trivial) ?_; clear hK K)
            | (refine Lx.lex_cases rfl rfl rfl (fun hgd K hK => ?_) (fun hgd K hK => ?_) <;> (try simp only [decide_eq_true_eq, decide_eq_false_iff_not] at hgd) <;> (first | (exfalso; omega) | (go_simp; refine hK _ ?_; clear hK K))))
          all_goals (refine Lx.lex_nil ?_)
          go_wp2
          go_ret
          exact ⟨ret_bool (by rw [HRf.out]), HWW.out.trans (((Below.refl B wr).alloc (by omega) _).drew.trans (below_of_grownBy hgw hB (by simp; omega)))⟩
      · have HRf : Eqn (prodValid l) false := by
          have := HR.out
          rw [Hpd.out] at this; unfold prodGo at this; rw [if_pos (by rw [← Bool.not_eq_true, okAB_iff]; exact hok)] at this
          exact this
        go_wp2
        refine Lx.region (C := fun _ => True) (hs := []) (by kernel_rfl) (by kernel_rfl) trivial ?_
        repeat' (first
          | (refine Lx.lex_no (Lx.n1 rfl rfl rfl (by with_reducible rfl)) (fun K hK => ?_); go_simp; refine hK _ ?_; clear hK K)
          | (refine Lx.lex_no (Lx.n0 rfl rfl rfl (by with_reducible rfl)) (fun K hK => ?_); go_simp; refine hK _ ?_; clear hK K)
          | (refine Lx.lex_no (Lx.n2 rfl rfl rfl) (fun K hK => ?_); go_simp; refine hK _ ?_; clear hK K)
          | (refine Lx.lex_pure (v := ?_) rfl (by first | exact Lx.w0 rfl | exact Lx.w1 rfl rfl rfl (by with_reducible rfl)) ?_ (fun K hK => ?_); rotate_left 1; (intro w' hCw; (try dsimp only at hCw); go_simp; done); go_simp; refine hK _ ?_; clear hK K)
          | (refine Lx.lex_pure (v := ?_) rfl (by first | exact Lx.w0 rfl | exact Lx.w1 rfl rfl rfl (by with_reducible rfl)) ?_ (fun K hK => ?_); rotate_left 1; (intro w' hCw; (try dsimp only at hCw); go_simp; with_reducible rfl); go_simp; refine hK _ ?_; clear hK K)
          | (refine Lx.lex_read (v := ?_) rfl (by first | exact Lx.w0 rfl | exact Lx.w1 rfl rfl rfl (by with_reducible rfl)) ?_ (fun K hK => ?_); rotate_left 1; (go_simp; done); go_simp; refine hK _ ?_; clear hK K)
          | (refine Lx.lex_read (v := ?_) rfl (by first | exact Lx.w0 rfl | exact Lx.w1 rfl rfl rfl (by with_reducible rfl)) ?_ (fun K hK => ?_); rotate_left 1; (go_simp; with_reducible rfl); go_simp; refine hK _ ?_; clear hK K)
          | (refine Lx.lex_eff rfl (by first | exact Lx.w0 rfl | exact Lx.w1 rfl rfl rfl (by with_reducible rfl)) (fun K hK => ?_); go_simp; (first | (go_at_call 41; refine (valid1_bad p g _ hok).mono ?_; rintro e w' ⟨rfl, hbw⟩) | skip); refine hK _ _ (trivial) ?_; clear hK K)
          | (refine Lx.lex_cases rfl rfl rfl (fun hgd K hK => ?_) (fun hgd K hK => ?_) <;> (try simp only [decide_eq_true_eq, decide_eq_false_iff_not] at hgd) <;> (first | (exfalso; omega) | (go_simp; refine hK _ ?_; clear hK K))))
        all_goals (refine Lx.lex_nil ?_)
        go_wp2
        go_ret
        exact ⟨ret_bool (by rw [HRf.out]), HWW.out.trans (((Below.refl B wr).alloc (by omega) _).drew.trans (hbw.mono (B' := B) (by simp; omega)))⟩
    · have : k = n := by omega
      subst this
      have HWW := Lib.hid HW
      clear HW
      go_wp2
      go_ret
      exact ⟨ret_bool (by rw [HR.out, drop_end (by rw [Hl.out.1]; omega)]; rfl), HWW.out⟩
end Go.Proofs.YtpgomblalmnonaaDoor
