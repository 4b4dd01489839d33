/- Contracts of the reference's Alone and Room. -/
import Derived.Test.YtjbhflhlicefbaaActF
import Derived.Test.YtjbhflhlicefbaaRef34B
namespace Go.Proofs.Ytjbhflhlicefbaa
open Go.RowKit

theorem alone_any (A : Option Addr) (n c : Nat) (w : World) (l : List Prod) (x : Bidr) (hn : n ≤ 140) (hl : RowS 5 Prod.cell w w.heap.size A n l) (hx : Row1 intV w w.heap.size x.adr x.len x.blocks) :
    Calls Try.prog 32 #[.slice A n c, x.val] w (OrdPost (vBidders l [x]) w.heap.size w) := by
  have Hl := Lib.hid hl
  have Hx := Lib.hid hx
  clear hl hx
  unfold Bidr.val
  have hsz : (w.alloc (.cells #[.int .i64 x.id, .int .i64 x.elig, .int .i64 x.waiv, .slice x.adr x.len x.cap] 40)).heap.size = w.heap.size + 1 := by simp
  have hB := bidsAt_one (w.alloc (.cells #[.int .i64 x.id, .int .i64 x.elig, .int .i64 x.waiv, .slice x.adr x.len x.cap] 40)) x w.heap.size (by simp) (Hx.out.below ((Below.refl _ _).alloc (Nat.le_refl _) _)) 40
  rw [hsz] at hB
  have HB := Lib.hid hB
  have hL : Hid (Below w.heap.size w ((w.alloc (.cells #[.int .i64 x.id, .int .i64 x.elig, .int .i64 x.waiv, .slice x.adr x.len x.cap] 40)).alloc (.cells #[.int .i64 x.id, .int .i64 x.elig, .int .i64 x.waiv, .slice x.adr x.len x.cap] 40))) := ((Below.refl _ _).alloc (Nat.le_refl _) _).alloc (by simp) _
  clear hsz hB
  go_enter Try.func32, Try.ntmps32
  go_wp2_with fail
  refine (rBidders_any A _ n c 1 1 _ l [x] hn (by omega) (by exact Hl.out.keep hL.out) (by exact HB.out.up (by simp))).mono ?_
  rintro e w1 ⟨rfl, hb1⟩
  go_wp2
  go_ret
  exact ⟨rfl, hL.out.trans (hb1.mono (by simp <;> omega))⟩

theorem room_exit (n y sup u pu elig : Int) (h1 : y + n ≤ sup) (h2 : u + n * pu ≤ elig) (hp : 1 ≤ pu) (h3 : ¬ (y + n + 1 ≤ sup ∧ u + (n + 1) * pu ≤ elig)) :
    (if (elig - u) / pu < sup - y then (elig - u) / pu else sup - y) = n := by
  have hq1 : n ≤ (elig - u) / pu := (Int.le_ediv_iff_mul_le (by omega)).2 (by omega)
  by_cases h4 : y + n + 1 ≤ sup
  · have h5 : ¬ u + (n + 1) * pu ≤ elig := fun h => h3 ⟨h4, h⟩
    have hq2 : ¬ n + 1 ≤ (elig - u) / pu := fun h => h5 (by have := (Int.le_ediv_iff_mul_le (by omega : 0 < pu)).1 h; omega)
    rw [if_pos (by omega)]
    omega
  · rw [if_neg (by omega)]
    omega

set_option maxHeartbeats 1000000 in
theorem rRoom_any (A : Option Addr) (n c : Nat) (i : Int) (w : World) (l : List Prod) (x : Bidr) (hn : n ≤ 140) (hl : RowS 5 Prod.cell w w.heap.size A n l) (hx : Row1 intV w w.heap.size x.adr x.len x.blocks) :
    Calls Try.prog 17 #[.slice A n c, x.val, .int .i64 i] w (RetPost (v2 (roomF l x i)) w.heap.size w) := by
  have Hlen := Eqn.mk hl.1
  have Hl := Lib.hid hl
  have Hx := Lib.hid hx
  clear hl hx
  unfold Bidr.val
  have hL : Hid (Below w.heap.size w (w.alloc (.cells #[.int .i64 x.id, .int .i64 x.elig, .int .i64 x.waiv, .slice x.adr x.len x.cap] 40))) := (Below.refl _ _).alloc (Nat.le_refl _) _
  cases hv : vBidders l [x] with
  | false =>
    have HV := Eqn.mk hv
    have hF : Eqn (roomF l x i) (0, 2) := by unfold roomF Eqn; rw [if_neg (by rw [hv]; simp)]
    clear hv
    go_enter Try.func17, Try.ntmps17
    go_wp2_with fail
    refine (alone_any A n c _ l x hn (by exact Hl.out.keep hL.out) (by exact Hx.out.keep hL.out)).mono ?_
    rw [HV.out]
    rintro e w1 ⟨rfl, hb1⟩
    go_wp2
    go_ret2
    exact ⟨by rw [hF.out]; rfl, hL.out.trans (hb1.mono (by simp))⟩
  | true =>
    have HV := Eqn.mk hv
    by_cases hi : 0 ≤ i ∧ i < (n : Int)
    · obtain ⟨k, rfl⟩ := Int.eq_ofNat_of_zero_le hi.1
      have hkn : k < n := by omega
      obtain ⟨p, y, hp, hy, hp', hy', b0, b1, b2, b3, b4, b5, b6, b7⟩ := valid_at hv (k := k) (by rw [Hlen.out]; exact hkn)
      have hF : Eqn (roomF l x k) (roomN p x y (unitsF l x.blocks), 0) := by
        unfold roomF Eqn; rw [if_pos ⟨hv, by omega, by rw [Hlen.out]; omega⟩, Int.toNat_natCast, hp', hy']
      have hU : Eqn (dUnits l x.blocks) (.tuple #[.int .i64 (unitsF l x.blocks), .int .i64 0]) := by
        have hone := vBidders_one hv
        unfold dUnits dValid Eqn; rw [hone.1, hone.2.1]; rfl
      have HP := Lib.hid hp
      have HY := Lib.hid hy
      have hkl : k < x.len := by rw [← Hx.out.1]; exact (List.getElem?_eq_some_iff.1 hy).1
      generalize hu : unitsF l x.blocks = u at *
      have j1 : (k : Int) < (n : Int) := by omega
      have j2 : (k : Int) < (x.len : Int) := by omega
      have j3 : ¬ (k : Int) < 0 := by omega
      clear hv hp hy hp' hy' hi hu
      obtain ⟨b', off', hadr, hbl', _⟩ := Hx.out.2 (by omega)
      obtain ⟨xi, xe, xw, xa, xl, xc, xb⟩ := x
      dsimp only at *
      subst hadr
      go_enter Try.func17, Try.ntmps17
      go_wp2_with fail
      refine (alone_any A n c _ l (⟨xi, xe, xw, some ⟨b', off', none⟩, xl, xc, xb⟩ : Bidr) hn (by exact Hl.out.keep hL.out) (by exact Hx.out.keep hL.out)).mono ?_
      rw [HV.out]
      rintro e w1 ⟨rfl, hb1⟩
      have hk0 := fun o => hb1.cell (p := ⟨w.heap.size, o, none⟩) (by simp)
      have HW1 : Hid (Below w.heap.size w w1) := hL.out.trans (hb1.mono (by simp))
      have HB1 := Lib.hid hb1
      clear hb1
      go_wp2_with fail
      refine (rUnits_any A _ n c _ _ _ l xb hn (by exact Hl.out.keep HW1.out) (by exact Hx.out.keep HW1.out)).mono ?_
      rw [hU.out]
      rintro e w2 ⟨rfl, hb2⟩
      have HW2 : Hid (Below w.heap.size w w2) := HW1.out.trans (hb2.mono HW1.out.size)
      have hbx : Hid (Below (w.heap.size + 1) (w.alloc (.cells #[.int .i64 xi, .int .i64 xe, .int .i64 xw, .slice (some ⟨b', off', none⟩) xl xc] 40)) w2) := by
        have h1 := HB1.out
        rw [World.size_alloc] at h1
        exact h1.trans (hb2.mono (by have := h1.size; simp at this; omega))
      clear hb2 hk0
      go_wp2_with fail
      go_loopw [10] (fun t wr => ∃ m : Nat, t = .int .i64 m ∧ y + m ≤ p.sup ∧ u + m * p.units ≤ xe ∧ Below w.heap.size w wr ∧ Below (w.heap.size + 1) (w.alloc (.cells #[.int .i64 xi, .int .i64 xe, .int .i64 xw, .slice (some ⟨b', off', none⟩) xl xc] 40)) wr) (fun t _ => 12 - (intOf t).toNat)
      case atStart => exact ⟨0, rfl, by omega, by omega, HW2.out, hbx.out⟩
      case round =>
        obtain ⟨m, rfl, r1, r2, HW, HX⟩ := hrel
        have HWW := Lib.hid HW
        have HXX := Lib.hid HX
        obtain ⟨b, off, rfl, hbl, hc⟩ := (Hl.out.below HW).2 (by omega)
        obtain ⟨_, _, hadr, _, hc'⟩ := (Hx.out.below HW).2 (by omega)
        obtain ⟨rfl, rfl, _⟩ : b' = _ ∧ off' = _ ∧ True := by injection hadr with h; injection h with h1 h2; exact ⟨h1, h2, trivial⟩
        clear hadr
        have c2 := hc k p HP.out 2 (by omega)
        have c3 := hc k p HP.out 3 (by omega)
        have c5 := hc' k y HY.out
        simp only [Prod.cell, intV] at c2 c3 c5
        have q1 := HX.cell (p := ⟨w.heap.size, 1, none⟩) (by simp)
        have q3 := HX.cell (p := ⟨w.heap.size, 3, none⟩) (by simp)
        have hm12 : m ≤ 12 := by omega
        obtain ⟨t0, t1⟩ := mul_le2 ((m : Int) + 1) p.units 13 100000 (by omega) (by omega) (by omega) b4
        have e0 : IntKind.i64.wrap (y + (m : Int)) = y + (m : Int) := by rw [IntKind.wrap_i64]; omega
        have e1 : IntKind.i64.wrap (y + (m : Int) + 1) = y + (m : Int) + 1 := by rw [IntKind.wrap_i64]; omega
        have e2 : IntKind.i64.wrap ((m : Int) + 1) = (m : Int) + 1 := by rw [IntKind.wrap_i64]; omega
        have e3 : IntKind.i64.wrap (((m : Int) + 1) * p.units) = ((m : Int) + 1) * p.units := by rw [IntKind.wrap_i64]; omega
        have e4 : IntKind.i64.wrap (u + ((m : Int) + 1) * p.units) = u + ((m : Int) + 1) * p.units := by rw [IntKind.wrap_i64]; omega
        have hz0 : (0 : Int) ≤ (k : Int) := by omega
        by_cases h4 : y + (m : Int) + 1 ≤ p.sup
        · have h4' : decide (y + (m : Int) + 1 ≤ p.sup) = true := by simpa using h4
          by_cases h5 : u + ((m : Int) + 1) * p.units ≤ xe
          · have h5' : decide (u + ((m : Int) + 1) * p.units ≤ xe) = true := by simpa using h5
            clear hc hc' HW HX
            go_wp2
            refine Lx.region (C := fun _ => True) (hs := []) (by kernel_rfl) (by kernel_rfl) trivial ?_
            repeat' (first
              | (refine Lx.lex_no (Lx.n1 rfl rfl rfl (by with_reducible rfl)) (fun K hK => ?_); go_simp; refine hK _ ?_; clear hK K)
              | (refine Lx.lex_no (Lx.n0 rfl rfl rfl (by with_reducible rfl)) (fun K hK => ?_); go_simp; refine hK _ ?_; clear hK K)
              | (refine Lx.lex_no (Lx.n2 rfl rfl rfl) (fun K hK => ?_); go_simp; refine hK _ ?_; clear hK K)
              | (refine Lx.lex_pure (v := ?_) rfl (by first | exact Lx.w0 rfl | exact Lx.w1 rfl rfl rfl (by with_reducible rfl)) ?_ (fun K hK => ?_); rotate_left 1; (intro w' hCw; (try dsimp only at hCw); go_simp; done); go_simp; refine hK _ ?_; clear hK K)
              | (refine Lx.lex_pure (v := ?_) rfl (by first | exact Lx.w0 rfl | exact Lx.w1 rfl rfl rfl (by with_reducible rfl)) ?_ (fun K hK => ?_); rotate_left 1; (intro w' hCw; (try dsimp only at hCw); go_simp; with_reducible rfl); go_simp; refine hK _ ?_; clear hK K)
              | (refine Lx.lex_read (v := ?_) rfl (by first | exact Lx.w0 rfl | exact Lx.w1 rfl rfl rfl (by with_reducible rfl)) ?_ (fun K hK => ?_); rotate_left 1; (go_simp; done); go_simp; refine hK _ ?_; clear hK K)
              | (refine Lx.lex_read (v := ?_) rfl (by first | exact Lx.w0 rfl | exact Lx.w1 rfl rfl rfl (by with_reducible rfl)) ?_ (fun K hK => ?_); rotate_left 1; (go_simp; with_reducible rfl); go_simp; refine hK _ ?_; clear hK K)
              | (refine Lx.lex_eff rfl (by first | exact Lx.w0 rfl | exact Lx.w1 rfl rfl rfl (by with_reducible rfl)) (fun K hK => ?_); go_simp; (first | fail | skip); refine hK _ _ (trivial) ?_; clear hK K)
              | (refine Lx.lex_cases rfl rfl rfl (fun hgd K hK => ?_) (fun hgd K hK => ?_) <;> (try simp only [decide_eq_true_eq, decide_eq_false_iff_not] at hgd) <;> (first | (exfalso; omega) | (go_simp; refine hK _ ?_; clear hK K))))
            all_goals (refine Lx.lex_nil ?_)
            clear e0 e1 e2 e3 e4
            go_wp2
            go_roundw
            case rel => exact ⟨m + 1, by go_num, by omega, by rw [show ((m + 1 : Nat) : Int) = (m : Int) + 1 by omega]; exact h5, HWW.out.drew, HXX.out.drew⟩
            case measure => simp [intOf]; omega
          · have h5' : decide (u + ((m : Int) + 1) * p.units ≤ xe) = false := by simpa using h5
            have hE : Eqn (roomN p (⟨xi, xe, xw, some ⟨b', off', none⟩, xl, xc, xb⟩ : Bidr) y u) m := room_exit m y p.sup u p.units xe r1 r2 b3 (fun h => h5 h.2)
            clear hc hc' HW HX
            go_wp2
            refine Lx.region (C := fun _ => True) (hs := []) (by kernel_rfl) (by kernel_rfl) trivial ?_
            repeat' (first
              | (refine Lx.lex_no (Lx.n1 rfl rfl rfl (by with_reducible rfl)) (fun K hK => ?_); go_simp; refine hK _ ?_; clear hK K)
              | (refine Lx.lex_no (Lx.n0 rfl rfl rfl (by with_reducible rfl)) (fun K hK => ?_); go_simp; refine hK _ ?_; clear hK K)
              | (refine Lx.lex_no (Lx.n2 rfl rfl rfl) (fun K hK => ?_); go_simp; refine hK _ ?_; clear hK K)
              | (refine Lx.lex_pure (v := ?_) rfl (by first | exact Lx.w0 rfl | exact Lx.w1 rfl rfl rfl (by with_reducible rfl)) ?_ (fun K hK => ?_); rotate_left 1; (intro w' hCw; (try dsimp only at hCw); go_simp; done); go_simp; refine hK _ ?_; clear hK K)
              | (refine Lx.lex_pure (v := ?_) rfl (by first | exact Lx.w0 rfl | exact Lx.w1 rfl rfl rfl (by with_reducible rfl)) ?_ (fun K hK => ?_); rotate_left 1; (intro w' hCw; (try dsimp only at hCw); go_simp; with_reducible rfl); go_simp; refine hK _ ?_; clear hK K)
              | (refine Lx.lex_read (v := ?_) rfl (by first | exact Lx.w0 rfl | exact Lx.w1 rfl rfl rfl (by with_reducible rfl)) ?_ (fun K hK => ?_); rotate_left 1; (go_simp; done); go_simp; refine hK _ ?_; clear hK K)
              | (refine Lx.lex_read (v := ?_) rfl (by first | exact Lx.w0 rfl | exact Lx.w1 rfl rfl rfl (by with_reducible rfl)) ?_ (fun K hK => ?_); rotate_left 1; (go_simp; with_reducible rfl); go_simp; refine hK _ ?_; clear hK K)
              | (refine Lx.lex_eff rfl (by first | exact Lx.w0 rfl | exact Lx.w1 rfl rfl rfl (by with_reducible rfl)) (fun K hK => ?_); go_simp; (first | fail | skip); refine hK _ _ (trivial) ?_; clear hK K)
              | (refine Lx.lex_cases rfl rfl rfl (fun hgd K hK => ?_) (fun hgd K hK => ?_) <;> (try simp only [decide_eq_true_eq, decide_eq_false_iff_not] at hgd) <;> (first | (exfalso; omega) | (go_simp; refine hK _ ?_; clear hK K))))
            all_goals (refine Lx.lex_nil ?_)
            clear e0 e1 e2 e3 e4
            go_wp2
            go_ret2
            exact ⟨by rw [hF.out, hE.out]; rfl, HWW.out.drew⟩
        · have h4' : decide (y + (m : Int) + 1 ≤ p.sup) = false := by simpa using h4
          have hE : Eqn (roomN p (⟨xi, xe, xw, some ⟨b', off', none⟩, xl, xc, xb⟩ : Bidr) y u) m := room_exit m y p.sup u p.units xe r1 r2 b3 (fun h => h4 h.1)
          clear hc hc' HW HX
          go_wp2
          refine Lx.region (C := fun _ => True) (hs := []) (by kernel_rfl) (by kernel_rfl) trivial ?_
          repeat' (first
            | (refine Lx.lex_no (Lx.n1 rfl rfl rfl (by with_reducible rfl)) (fun K hK => ?_); go_simp; refine hK _ ?_; clear hK K)
            | (refine Lx.lex_no (Lx.n0 rfl rfl rfl (by with_reducible rfl)) (fun K hK => ?_); go_simp; refine hK _ ?_; clear hK K)
            | (refine Lx.lex_no (Lx.n2 rfl rfl rfl) (fun K hK => ?_); go_simp; refine hK _ ?_; clear hK K)
            | (refine Lx.lex_pure (v := ?_) rfl (by first | exact Lx.w0 rfl | exact Lx.w1 rfl rfl rfl (by with_reducible rfl)) ?_ (fun K hK => ?_); rotate_left 1; (intro w' hCw; (try dsimp only at hCw); go_simp; done); go_simp; refine hK _ ?_; clear hK K)
            | (refine Lx.lex_pure (v := ?_) rfl (by first | exact Lx.w0 rfl | exact Lx.w1 rfl rfl rfl (by with_reducible rfl)) ?_ (fun K hK => ?_); rotate_left 1; (intro w' hCw; (try dsimp only at hCw); go_simp; with_reducible rfl); go_simp; refine hK _ ?_; clear hK K)
            | (refine Lx.lex_read (v := ?_) rfl (by first | exact Lx.w0 rfl | exact Lx.w1 rfl rfl rfl (by with_reducible rfl)) ?_ (fun K hK => ?_); rotate_left 1; (go_simp; done); go_simp; refine hK _ ?_; clear hK K)
            | (refine Lx.lex_read (v := ?_) rfl (by first | exact Lx.w0 rfl | exact Lx.w1 rfl rfl rfl (by with_reducible rfl)) ?_ (fun K hK => ?_); rotate_left 1; (go_simp; with_reducible rfl); go_simp; refine hK _ ?_; clear hK K)
            | (refine Lx.lex_eff rfl (by first | exact Lx.w0 rfl | exact Lx.w1 rfl rfl rfl (by with_reducible rfl)) (fun K hK => ?_); go_simp; (first | fail | skip); refine hK _ _ (trivial) ?_; clear hK K)
            | (refine Lx.lex_cases rfl rfl rfl (fun hgd K hK => ?_) (fun hgd K hK => ?_) <;> (try simp only [decide_eq_true_eq, decide_eq_false_iff_not] at hgd) <;> (first | (exfalso; omega) | (go_simp; refine hK _ ?_; clear hK K))))
          all_goals (refine Lx.lex_nil ?_)
          clear e0 e1 e2 e3 e4
          go_wp2
          go_ret2
          exact ⟨by rw [hF.out, hE.out]; rfl, HWW.out.drew⟩
    · have hF : Eqn (roomF l x i) (0, 2) := by unfold roomF Eqn; rw [if_neg (by rw [Hlen.out]; omega)]
      clear hv
      go_enter Try.func17, Try.ntmps17
      go_wp2_with fail
      refine (alone_any A n c _ l x hn (by exact Hl.out.keep hL.out) (by exact Hx.out.keep hL.out)).mono ?_
      rw [HV.out]
      rintro e w1 ⟨rfl, hb1⟩
      have HW1 : Hid (Below w.heap.size w w1) := hL.out.trans (hb1.mono (by simp))
      clear hb1
      go_wp2
      all_goals
        go_ret2
        exact ⟨by rw [hF.out]; rfl, HW1.out⟩
end Go.Proofs.Ytjbhflhlicefbaa
