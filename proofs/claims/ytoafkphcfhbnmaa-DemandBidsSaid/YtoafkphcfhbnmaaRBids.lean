/- Contract of the reference's Bids. -/
import Derived.Test.YtoafkphcfhbnmaaBids
namespace Go.Proofs.Ytoafkphcfhbnmaa
open Go.RowKit

theorem vbGo_ids (l : List Prod) : ∀ (bs : List Bidr) (last : Int), -1 ≤ last → vbGo l bs last = true → ∀ b ∈ bs, 0 ≤ b.id := by
  intro bs
  induction bs with
  | nil => intro last _ _ b hb; cases hb
  | cons x r ih =>
    intro last hl h b hb
    rw [vbGo_cons] at h
    split at h
    · cases h
    · rename_i hx
      unfold badX at hx
      split at h
      · cases h
      · split at h
        · cases h
        · rcases List.mem_cons.1 hb with rfl | hb
          · omega
          · exact ih x.id (by omega) h b hb

theorem no_neg_id {l : List Prod} {bs : List Bidr} (h : vBidders l bs = true) {id : Int} (hid : id < 0) : hasId bs id = false := by
  unfold vBidders at h
  split at h
  · cases h
  · split at h
    · cases h
    · have hm := vbGo_ids l bs (-1) (by omega) h
      unfold hasId
      rw [List.any_eq_false]
      intro b hb
      have := hm b hb
      simp
      omega

set_option maxRecDepth 100000 in
set_option maxHeartbeats 4000000 in
theorem rbids_any (A B X : Option Addr) (n c m d q cq : Nat) (w : World) (l : List Prod) (bs : List Bidr) (ds : List BidV) (hn : n ≤ 140) (hm : m ≤ 140) (hq : q ≤ 140) (hl : RowS 5 Prod.cell w w.heap.size A n l) (hb : BidsAt w w.heap.size B m bs) (hx : RowS 7 BidV.cell w w.heap.size X q ds) :
    Calls Try.prog 32 #[.slice A n c, .slice B m d, .slice X q cq] w (OrdPost (bidsF l bs ds) w.heap.size w) := by
  have Hl := Lib.hid hl
  have Hb := Lib.hid hb
  have Hx := Lib.hid hx
  have Hlen := Eqn.mk hl.1
  have Hxlen := Eqn.mk hx.1
  clear hl hb hx
  cases hv : vBidders l bs with
  | false =>
    have HV := Eqn.mk hv
    have HF : Eqn (bidsF l bs ds) false := by unfold bidsF Eqn; rw [if_pos hv]; simp
    clear hv
    go_enter Try.func32, Try.ntmps32
    go_wp2_with fail
    refine (rBidders_any A B n c m d _ l bs hn hm Hl.out Hb.out).mono ?_
    rw [HV.out]
    rintro e w1 ⟨rfl, hb1⟩
    go_wp2_with fail
    go_ret
    exact ⟨ret_bool (by rw [HF.out]), hb1⟩
  | true =>
    have HV := Eqn.mk hv
    by_cases hq8 : 128 < q
    · have HF : Eqn (bidsF l bs ds) false := by unfold bidsF Eqn; rw [if_pos (by rw [Hxlen.out]; exact hq8)]
      clear hv
      go_enter Try.func32, Try.ntmps32
      go_wp2_with fail
      refine (rBidders_any A B n c m d _ l bs hn hm Hl.out Hb.out).mono ?_
      rw [HV.out]
      rintro e w1 ⟨rfl, hb1⟩
      go_wp2_with fail
      go_ret
      exact ⟨ret_bool (by rw [HF.out]), hb1⟩
    · have HF : Eqn (bidsF l bs ds) (bidsGo n bs ds 0) := by unfold bidsF Eqn; rw [if_neg (by rw [Hxlen.out]; exact hq8), if_neg (by rw [hv]; simp), Hlen.out]
      have HNN := Lib.hid (fun id (h : id < 0) => no_neg_id hv h)
      clear hv
      go_enter Try.func32, Try.ntmps32
      go_wp2_with fail
      refine (rBidders_any A B n c m d _ l bs hn hm Hl.out Hb.out).mono ?_
      rw [HV.out]
      rintro e w1 ⟨rfl, hb1⟩
      have B1 := Lib.hid hb1
      clear hb1
      go_wp2_with fail
      go_loopw [7] (fun i wr => ∃ (k : Nat) (last : Int), k ≤ q ∧ i = .int .i64 k ∧ Eqn (bidsF l bs ds) (bidsGo n bs (ds.drop k) last) ∧ (k = 0 ∧ last = 0 ∨ 0 < k ∧ ∃ z, ds[k - 1]? = some z ∧ z.who = last) ∧ Below w.heap.size w wr) (fun i _ => q - (intOf i).toNat)
      case atStart => exact ⟨0, 0, Nat.zero_le _, rfl, HF, .inl ⟨rfl, rfl⟩, B1.out⟩
      case round =>
        obtain ⟨k, last, hk, rfl, HR, HL, HW⟩ := hrel
        have HWW := Lib.hid HW
        have hws := HW.size
        by_cases hlt : k < q
        · obtain ⟨x, hx, hxd⟩ := drop_at (xs := ds) (k := k) (by rw [Hxlen.out]; exact hlt)
          obtain ⟨b, off, rfl, hbl, hc⟩ := (Hx.out.below HW).2 (by omega)
          have c0 := hc k x hx 0 (by omega)
          have c1 := hc k x hx 1 (by omega)
          have c2 := hc k x hx 2 (by omega)
          have c3 := hc k x hx 3 (by omega)
          have c4 := hc k x hx 4 (by omega)
          have c5 := hc k x hx 5 (by omega)
          have c6 := hc k x hx 6 (by omega)
          simp only [BidV.cell, Nat.add_zero] at c0 c1 c2 c3 c4 c5 c6
          have hbs : b < wr.heap.size := by omega
          have HR' : Eqn (bidsF l bs ds) (if x.who < last ∨ x.prod < 0 ∨ n ≤ x.prod then false
            else if x.chg < -12 ∨ 12 < x.chg ∨ x.chg = 0 then false
            else if hasId bs x.who = false then false
            else bidsGo n bs (ds.drop (k + 1)) x.who) := by
            have := HR.out; rw [hxd, bidsGo] at this; exact this
          have hid := idxId_has x.who bs 0 (Int.le_refl _)
          have HNx := Lib.hid (HNN.out x.who)
          have HXk := Lib.hid hx
          have HBW := Lib.hid (Hb.out.1.below HW)
          have HBA : Hid (RowS 4 Bidr.cell (wr.alloc (.cells #[.int .i64 x.who, .int .i64 x.prod, .int .i64 x.chg, .bool x.ng, .slice x.na x.nl x.nc, .bool x.dg, .slice x.da x.dl x.dc] 72)).drew w.heap.size B m bs) := (Hb.out.1.below HW).below ((Below.refl _ _).alloc hws _).drew
          generalize hii : idxId x.who bs 0 = ii at hid
          have HI := Eqn.mk hii
          have HB1 : Hid (ii < 0 ∨ x.prod < 0 ∨ (n : Int) ≤ x.prod ∨ x.chg < -12 ∨ 12 < x.chg ∨ x.chg = 0 ∨ x.who < last → bidsF l bs ds = false) := by
            intro h
            rw [HR'.out]
            by_cases h1 : x.who < last ∨ x.prod < 0 ∨ (n : Int) ≤ x.prod
            · rw [if_pos h1]
            · by_cases h2 : x.chg < -12 ∨ 12 < x.chg ∨ x.chg = 0
              · rw [if_neg h1, if_pos h2]
              · rw [if_neg h1, if_neg h2, if_pos]
                rw [← hid, decide_eq_false (by omega)]
          have HB2 : Hid (¬ (ii < 0 ∨ x.prod < 0 ∨ (n : Int) ≤ x.prod ∨ x.chg < -12 ∨ 12 < x.chg ∨ x.chg = 0 ∨ x.who < last) → bidsF l bs ds = bidsGo n bs (ds.drop (k + 1)) x.who) := by
            intro h
            rw [HR'.out, if_neg (by omega), if_neg (by omega), if_neg]
            rw [← hid, decide_eq_true (by omega)]; simp
          have HB3 : Hid (k = 0 → x.who < last → ii < 0) := by
            intro h0 h1
            rcases HL with ⟨_, hl0⟩ | ⟨hk0, _⟩
            · have h2 := HNx.out (by omega)
              rw [← hid] at h2
              have := of_decide_eq_false h2
              omega
            · omega
          have HL' := Lib.hid HL
          have hzz : (x.chg == 0) = true ∨ (x.chg == 0) = false := by cases (x.chg == 0) <;> simp
          have hz2 : Hid ((x.chg == 0) = true ↔ x.chg = 0) := beq_iff_eq
          obtain ⟨xw, xp, xg, r0, r1, r2, r3, r4, r5, r6, r7⟩ := x
          dsimp only at *
          clear hxd hx HR HW HL hid hii HR'
          by_cases hk0 : k = 0
          · have g0 : ¬ (0 : Int) < (k : Int) := by omega
            have g0' : decide (0 < k) = false := by simp [hk0]
            have HK0 := Lib.hid hk0
            clear hc hk0
            rcases hzz with hz | hz
            · go_wp2_with fail
              refine Lx.region (C := fun _ => True) (hs := []) (by kernel_rfl) (by kernel_rfl) trivial ?_
              repeat' (first
                | (refine Lx.lex_no (Lx.n1 rfl rfl rfl (by with_reducible rfl)) (fun K hK => ?_); go_simp; refine hK _ ?_; clear hK K)
                | (refine Lx.lex_no (Lx.n0 rfl rfl rfl (by with_reducible rfl)) (fun K hK => ?_); go_simp; refine hK _ ?_; clear hK K)
                | (refine Lx.lex_no (Lx.n2 rfl rfl rfl) (fun K hK => ?_); go_simp; refine hK _ ?_; clear hK K)
                | (refine Lx.lex_pure (v := ?_) rfl (by first | exact Lx.w0 rfl | exact Lx.w1 rfl rfl rfl (by with_reducible rfl)) ?_ (fun K hK => ?_); rotate_left 1; (intro w' hCw; (try dsimp only at hCw); go_simp; done); go_simp; refine hK _ ?_; clear hK K)
                | (refine Lx.lex_pure (v := ?_) rfl (by first | exact Lx.w0 rfl | exact Lx.w1 rfl rfl rfl (by with_reducible rfl)) ?_ (fun K hK => ?_); rotate_left 1; (intro w' hCw; (try dsimp only at hCw); go_simp; with_reducible rfl); go_simp; refine hK _ ?_; clear hK K)
                | (refine Lx.lex_read (v := ?_) rfl (by first | exact Lx.w0 rfl | exact Lx.w1 rfl rfl rfl (by with_reducible rfl)) ?_ (fun K hK => ?_); rotate_left 1; (go_simp; done); go_simp; refine hK _ ?_; clear hK K)
                | (refine Lx.lex_read (v := ?_) rfl (by first | exact Lx.w0 rfl | exact Lx.w1 rfl rfl rfl (by with_reducible rfl)) ?_ (fun K hK => ?_); rotate_left 1; (go_simp; with_reducible rfl); go_simp; refine hK _ ?_; clear hK K)
                | (refine Lx.lex_eff rfl (by first | exact Lx.w0 rfl | exact Lx.w1 rfl rfl rfl (by with_reducible rfl)) (fun K hK => ?_); go_simp; (first | (go_at_call 43; refine (rindex_any B m d xw _ w.heap.size bs hm (by exact HBA.out)).mono ?_; rw [HI.out]; rintro e w' ⟨rfl, rfl⟩) | skip); refine hK _ _ (trivial) ?_; clear hK K)
                | (refine Lx.lex_cases rfl rfl rfl (fun hgd K hK => ?_) (fun hgd K hK => ?_) <;> (try simp only [decide_eq_true_eq, decide_eq_false_iff_not] at hgd) <;> (first | (exfalso; omega) | (go_simp; refine hK _ ?_; clear hK K))))
              all_goals (refine Lx.lex_nil ?_)
              all_goals go_wp2_with fail
              all_goals
                go_ret
                have hzq : xg = 0 := hz2.out.1 hz
                exact ⟨ret_bool (by rw [HB1.out (by omega)]), (HWW.out.alloc hws _).drew⟩
            · go_wp2_with fail
              refine Lx.region (C := fun _ => True) (hs := []) (by kernel_rfl) (by kernel_rfl) trivial ?_
              repeat' (first
                | (refine Lx.lex_no (Lx.n1 rfl rfl rfl (by with_reducible rfl)) (fun K hK => ?_); go_simp; refine hK _ ?_; clear hK K)
                | (refine Lx.lex_no (Lx.n0 rfl rfl rfl (by with_reducible rfl)) (fun K hK => ?_); go_simp; refine hK _ ?_; clear hK K)
                | (refine Lx.lex_no (Lx.n2 rfl rfl rfl) (fun K hK => ?_); go_simp; refine hK _ ?_; clear hK K)
                | (refine Lx.lex_pure (v := ?_) rfl (by first | exact Lx.w0 rfl | exact Lx.w1 rfl rfl rfl (by with_reducible rfl)) ?_ (fun K hK => ?_); rotate_left 1; (intro w' hCw; (try dsimp only at hCw); go_simp; done); go_simp; refine hK _ ?_; clear hK K)
                | (refine Lx.lex_pure (v := ?_) rfl (by first | exact Lx.w0 rfl | exact Lx.w1 rfl rfl rfl (by with_reducible rfl)) ?_ (fun K hK => ?_); rotate_left 1; (intro w' hCw; (try dsimp only at hCw); go_simp; with_reducible rfl); go_simp; refine hK _ ?_; clear hK K)
                | (refine Lx.lex_read (v := ?_) rfl (by first | exact Lx.w0 rfl | exact Lx.w1 rfl rfl rfl (by with_reducible rfl)) ?_ (fun K hK => ?_); rotate_left 1; (go_simp; done); go_simp; refine hK _ ?_; clear hK K)
                | (refine Lx.lex_read (v := ?_) rfl (by first | exact Lx.w0 rfl | exact Lx.w1 rfl rfl rfl (by with_reducible rfl)) ?_ (fun K hK => ?_); rotate_left 1; (go_simp; with_reducible rfl); go_simp; refine hK _ ?_; clear hK K)
                | (refine Lx.lex_eff rfl (by first | exact Lx.w0 rfl | exact Lx.w1 rfl rfl rfl (by with_reducible rfl)) (fun K hK => ?_); go_simp; (first | (go_at_call 43; refine (rindex_any B m d xw _ w.heap.size bs hm (by exact HBA.out)).mono ?_; rw [HI.out]; rintro e w' ⟨rfl, rfl⟩) | skip); refine hK _ _ (trivial) ?_; clear hK K)
                | (refine Lx.lex_cases rfl rfl rfl (fun hgd K hK => ?_) (fun hgd K hK => ?_) <;> (try simp only [decide_eq_true_eq, decide_eq_false_iff_not] at hgd) <;> (first | (exfalso; omega) | (go_simp; refine hK _ ?_; clear hK K))))
              all_goals (refine Lx.lex_nil ?_)
              all_goals go_wp2_with fail
              case roundEnd =>
                have hzq : ¬ xg = 0 := fun h => by simp [hz2.out.2 h] at hz
                have h3 := HB3.out HK0.out
                go_roundw
                case rel => exact ⟨k + 1, xw, by omega, by go_num, HB2.out (by omega), .inr ⟨by omega, _, by rw [Nat.add_sub_cancel]; exact HXk.out, rfl⟩, (HWW.out.alloc hws _).drew⟩
                case measure => simp [intOf]; omega
              all_goals
                go_ret
                exact ⟨ret_bool (by rw [HB1.out (by omega)]), (HWW.out.alloc hws _).drew⟩
          · have hk1 : 0 < k := by omega
            have hk1' : decide (0 < k) = true := by simpa using hk1
            have g1 : (0 : Int) < (k : Int) := by omega
            obtain ⟨z, hz0, hzl⟩ : ∃ z, ds[k - 1]? = some z ∧ z.who = last := by
              rcases HL'.out with ⟨h, _⟩ | ⟨_, h⟩
              · exact absurd h hk0
              · exact h
            have d0 := hc (k - 1) z hz0 0 (by omega)
            simp only [BidV.cell, Nat.add_zero, hzl] at d0
            have hwr : IntKind.i64.wrap ((k : Int) - 1) = (k : Int) - 1 := by rw [IntKind.wrap_i64]; omega
            have htn : ((k : Int) - 1).toNat = k - 1 := by omega
            have hge : (0 : Int) ≤ (k : Int) - 1 := by omega
            have hlt2 : (k : Int) - 1 < (q : Int) := by omega
            have hge' : (1 : Int) ≤ (k : Int) := by omega
            clear hc hz0 hzl hk0
            rcases hzz with hz | hz
            · go_wp2_with fail
              refine Lx.region (C := fun _ => True) (hs := []) (by kernel_rfl) (by kernel_rfl) trivial ?_
              repeat' (first
                | (refine Lx.lex_no (Lx.n1 rfl rfl rfl (by with_reducible rfl)) (fun K hK => ?_); go_simp; refine hK _ ?_; clear hK K)
                | (refine Lx.lex_no (Lx.n0 rfl rfl rfl (by with_reducible rfl)) (fun K hK => ?_); go_simp; refine hK _ ?_; clear hK K)
                | (refine Lx.lex_no (Lx.n2 rfl rfl rfl) (fun K hK => ?_); go_simp; refine hK _ ?_; clear hK K)
                | (refine Lx.lex_pure (v := ?_) rfl (by first | exact Lx.w0 rfl | exact Lx.w1 rfl rfl rfl (by with_reducible rfl)) ?_ (fun K hK => ?_); rotate_left 1; (intro w' hCw; (try dsimp only at hCw); go_simp; done); go_simp; refine hK _ ?_; clear hK K)
                | (refine Lx.lex_pure (v := ?_) rfl (by first | exact Lx.w0 rfl | exact Lx.w1 rfl rfl rfl (by with_reducible rfl)) ?_ (fun K hK => ?_); rotate_left 1; (intro w' hCw; (try dsimp only at hCw); go_simp; with_reducible rfl); go_simp; refine hK _ ?_; clear hK K)
                | (refine Lx.lex_read (v := ?_) rfl (by first | exact Lx.w0 rfl | exact Lx.w1 rfl rfl rfl (by with_reducible rfl)) ?_ (fun K hK => ?_); rotate_left 1; (go_simp; done); go_simp; refine hK _ ?_; clear hK K)
                | (refine Lx.lex_read (v := ?_) rfl (by first | exact Lx.w0 rfl | exact Lx.w1 rfl rfl rfl (by with_reducible rfl)) ?_ (fun K hK => ?_); rotate_left 1; (go_simp; with_reducible rfl); go_simp; refine hK _ ?_; clear hK K)
                | (refine Lx.lex_eff rfl (by first | exact Lx.w0 rfl | exact Lx.w1 rfl rfl rfl (by with_reducible rfl)) (fun K hK => ?_); go_simp; (first | (go_at_call 43; refine (rindex_any B m d xw _ w.heap.size bs hm (by exact HBA.out)).mono ?_; rw [HI.out]; rintro e w' ⟨rfl, rfl⟩) | skip); refine hK _ _ (trivial) ?_; clear hK K)
                | (refine Lx.lex_cases rfl rfl rfl (fun hgd K hK => ?_) (fun hgd K hK => ?_) <;> (try simp only [decide_eq_true_eq, decide_eq_false_iff_not] at hgd) <;> (first | (exfalso; omega) | (go_simp; refine hK _ ?_; clear hK K))))
              all_goals (refine Lx.lex_nil ?_)
              all_goals clear hwr htn
              all_goals go_wp2_with fail
              all_goals
                go_ret
                have hzq : xg = 0 := hz2.out.1 hz
                exact ⟨ret_bool (by rw [HB1.out (by omega)]), (HWW.out.alloc hws _).drew⟩
            · go_wp2_with fail
              refine Lx.region (C := fun _ => True) (hs := []) (by kernel_rfl) (by kernel_rfl) trivial ?_
              repeat' (first
                | (refine Lx.lex_no (Lx.n1 rfl rfl rfl (by with_reducible rfl)) (fun K hK => ?_); go_simp; refine hK _ ?_; clear hK K)
                | (refine Lx.lex_no (Lx.n0 rfl rfl rfl (by with_reducible rfl)) (fun K hK => ?_); go_simp; refine hK _ ?_; clear hK K)
                | (refine Lx.lex_no (Lx.n2 rfl rfl rfl) (fun K hK => ?_); go_simp; refine hK _ ?_; clear hK K)
                | (refine Lx.lex_pure (v := ?_) rfl (by first | exact Lx.w0 rfl | exact Lx.w1 rfl rfl rfl (by with_reducible rfl)) ?_ (fun K hK => ?_); rotate_left 1; (intro w' hCw; (try dsimp only at hCw); go_simp; done); go_simp; refine hK _ ?_; clear hK K)
                | (refine Lx.lex_pure (v := ?_) rfl (by first | exact Lx.w0 rfl | exact Lx.w1 rfl rfl rfl (by with_reducible rfl)) ?_ (fun K hK => ?_); rotate_left 1; (intro w' hCw; (try dsimp only at hCw); go_simp; with_reducible rfl); go_simp; refine hK _ ?_; clear hK K)
                | (refine Lx.lex_read (v := ?_) rfl (by first | exact Lx.w0 rfl | exact Lx.w1 rfl rfl rfl (by with_reducible rfl)) ?_ (fun K hK => ?_); rotate_left 1; (go_simp; done); go_simp; refine hK _ ?_; clear hK K)
                | (refine Lx.lex_read (v := ?_) rfl (by first | exact Lx.w0 rfl | exact Lx.w1 rfl rfl rfl (by with_reducible rfl)) ?_ (fun K hK => ?_); rotate_left 1; (go_simp; with_reducible rfl); go_simp; refine hK _ ?_; clear hK K)
                | (refine Lx.lex_eff rfl (by first | exact Lx.w0 rfl | exact Lx.w1 rfl rfl rfl (by with_reducible rfl)) (fun K hK => ?_); go_simp; (first | (go_at_call 43; refine (rindex_any B m d xw _ w.heap.size bs hm (by exact HBA.out)).mono ?_; rw [HI.out]; rintro e w' ⟨rfl, rfl⟩) | skip); refine hK _ _ (trivial) ?_; clear hK K)
                | (refine Lx.lex_cases rfl rfl rfl (fun hgd K hK => ?_) (fun hgd K hK => ?_) <;> (try simp only [decide_eq_true_eq, decide_eq_false_iff_not] at hgd) <;> (first | (exfalso; omega) | (go_simp; refine hK _ ?_; clear hK K))))
              all_goals (refine Lx.lex_nil ?_)
              all_goals clear hwr htn
              all_goals go_wp2_with fail
              case roundEnd =>
                have hzq : ¬ xg = 0 := fun h => by simp [hz2.out.2 h] at hz
                skip
                go_roundw
                case rel => exact ⟨k + 1, xw, by omega, by go_num, HB2.out (by omega), .inr ⟨by omega, _, by rw [Nat.add_sub_cancel]; exact HXk.out, rfl⟩, (HWW.out.alloc hws _).drew⟩
                case measure => simp [intOf]; omega
              all_goals
                go_ret
                exact ⟨ret_bool (by rw [HB1.out (by omega)]), (HWW.out.alloc hws _).drew⟩
        · have HR2 : Eqn (bidsF l bs ds) true := by rw [Eqn, HR.out, drop_end (by rw [Hxlen.out]; omega)]; rfl
          clear HR HW
          go_wp2_with fail
          go_ret
          exact ⟨ret_bool (by rw [HR2.out]), HWW.out⟩
end Go.Proofs.Ytoafkphcfhbnmaa
