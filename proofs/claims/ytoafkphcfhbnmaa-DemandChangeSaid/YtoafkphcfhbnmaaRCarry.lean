/- Contract of the reference's Carry. -/
import Derived.Test.YtoafkphcfhbnmaaCarry
namespace Go.Proofs.Ytoafkphcfhbnmaa
open Go.RowKit

def rcN (p : Prod) : Option Int → Int
  | none => 0
  | some b => if p.sup < b then p.sup else b
theorem rcN_eq (l : List Prod) (bs : List Int) (p : Prod) (h : 1 ≤ p.sup) : rcN p (heldZ (l.zip bs) (p.area, p.cat)) = carN l bs p := by
  unfold carN heldN
  cases heldZ (l.zip bs) (p.area, p.cat) with
  | none => simp [rcN]; omega
  | some b => simp [rcN]

set_option maxHeartbeats 2000000 in
theorem rcarry_any (A T B : Option Addr) (n c m d q cq : Nat) (w : World) (l to : List Prod) (bs : List Int) (hn : n ≤ 140) (hq : q ≤ 140) (hl : RowS 5 Prod.cell w w.heap.size A n l) (ht : RowS 5 Prod.cell w w.heap.size T q to) (hb : Row1 intV w w.heap.size B m bs) :
    Calls Try.prog 29 #[.slice A n c, .slice T q cq, .slice B m d] w (ListPost (carF l to bs) w) := by
  obtain ⟨i0, hi, hz0, hz1, hz2⟩ := info_parts int_info
  have Hl := Lib.hid hl
  have Hb := Lib.hid hb
  have Ht := Lib.hid ht
  have Hlen := Eqn.mk hl.1
  have Hblen := Eqn.mk hb.1
  have Htlen := Eqn.mk ht.1
  clear hl hb ht
  cases hv : dValid l bs with
  | false =>
    have HV := Eqn.mk hv
    have HF : Eqn (carF l to bs) ([], 2) := by unfold carF Eqn; rw [if_neg (by rw [hv]; simp)]
    clear hv
    go_enter Try.func29, Try.ntmps29
    go_wp2_with fail
    refine (rdValid_any A B n c m d _ l bs hn Hl.out Hb.out).mono ?_
    rw [HV.out]
    rintro e w1 ⟨rfl, hb1⟩
    go_wp2_with fail
    go_ret2
    rw [HF.out]
    exact ⟨_, rfl, World.ownsRow_nil _ _ _ _, hb1⟩
  | true =>
    have HV := Eqn.mk hv
    cases hv2 : prodValid to with
    | false =>
      have HV2 : Eqn (refValid to) false := by rw [← prodValid_eq]; exact hv2
      have HF : Eqn (carF l to bs) ([], 2) := by unfold carF Eqn; rw [if_neg (by rw [hv2]; simp)]
      clear hv hv2
      go_enter Try.func29, Try.ntmps29
      go_wp2_with fail
      refine (rdValid_any A B n c m d _ l bs hn Hl.out Hb.out).mono ?_
      rw [HV.out]
      rintro e w1 ⟨rfl, hb1⟩
      have B1 := Lib.hid hb1
      clear hb1
      go_wp2_with fail
      refine (refValid_any T q cq to _ hq (Ht.out.keep B1.out)).mono ?_
      rw [HV2.out]
      rintro e w2 ⟨rfl, hb2⟩
      go_wp2_with fail
      go_ret2
      rw [HF.out]
      exact ⟨_, rfl, World.ownsRow_nil _ _ _ _, B1.out.trans (hb2.mono B1.out.size)⟩
    | true =>
      have HV2 : Eqn (refValid to) true := by rw [← prodValid_eq]; exact hv2
      have HF : Eqn (carF l to bs) (to.map (carN l bs), 0) := by unfold carF Eqn; rw [if_pos ⟨hv, hv2⟩]
      have HOK := Lib.hid (prodValid_ok hv2)
      have Hmn : Eqn m n := by
        unfold dValid at hv; rw [Bool.and_eq_true] at hv
        have := (fitsF_spec l bs hv.2).1
        rw [Hlen.out, Hblen.out] at this; exact this.symm
      clear hv hv2
      go_enter Try.func29, Try.ntmps29
      go_wp2_with fail
      refine (rdValid_any A B n c m d _ l bs hn Hl.out Hb.out).mono ?_
      rw [HV.out]
      rintro e w1 ⟨rfl, hb1⟩
      have B1 := Lib.hid hb1
      clear hb1
      go_wp2_with fail
      refine (refValid_any T q cq to _ hq (Ht.out.keep B1.out)).mono ?_
      rw [HV2.out]
      rintro e w2 ⟨rfl, hb2⟩
      have B2 : Hid (Below w.heap.size w w2) := B1.out.trans (hb2.mono B1.out.size)
      clear hb2
      go_wp2_with fail
      go_loopw [8, 9] (fun v i wr => ∃ j : Nat, j ≤ q ∧ i = .int .i64 j ∧ wr.ownsRow w.heap.size 3 1 v j (((to.map (carN l bs)).take j).map intV) ∧ Below w.heap.size w wr) (fun _ i _ => q - (intOf i).toNat)
      case atStart => exact ⟨0, Nat.zero_le _, rfl, World.ownsRow_nil _ _ _ _, B2.out⟩
      case round =>
        obtain ⟨j, hj, rfl, HO, HW⟩ := hrel
        obtain ⟨wo, rfl⟩ : ∃ wo : World, wo = wr := ⟨_, rfl⟩
        have HWW := Lib.hid HW
        have HOO := Lib.hid HO
        have hws := HW.size
        by_cases hlt : j < q
        · obtain ⟨p, hp, _⟩ := drop_at (xs := to) (k := j) (by rw [Htlen.out]; exact hlt)
          have HP := Lib.hid hp
          have hbad := HOK.out p (List.mem_of_getElem? hp)
          unfold badP at hbad
          have b1 : 1 ≤ p.sup := by omega
          have b2 : p.sup ≤ 12 := by omega
          have HT : Eqn ((to.map (carN l bs)).take (j + 1)) ((to.map (carN l bs)).take j ++ [carN l bs p]) := by
            rw [Eqn, List.take_add_one, List.getElem?_map, hp]; rfl
          have HCN := Eqn.mk (rcN_eq l bs p b1)
          have j1 : (j : Int) < (q : Int) := by omega
          have j0 : (0 : Int) ≤ (j : Int) := by omega
          clear HO HW hbad hp
          go_wp2_with fail
          go_loopw [10, 11] (fun t i wr => ∃ (k : Nat) (acc : Int), k ≤ n ∧ i = .int .i64 k ∧ t = .int .i64 acc ∧ Eqn acc (rcN p (heldZ ((l.zip bs).take k) (p.area, p.cat))) ∧ Below wo.heap.size wo wr) (fun _ i _ => n - (intOf i).toNat)
          case atStart => exact ⟨0, 0, Nat.zero_le _, rfl, rfl, rfl, Below.refl _ _⟩
          case round =>
            obtain ⟨k, acc, hk, rfl, rfl, HR, HY⟩ := hrel
            have HYY := Lib.hid HY
            have HYW : Hid (Below w.heap.size w wr) := HWW.out.trans (HY.mono hws)
            by_cases hlt2 : k < n
            · obtain ⟨f, hf, _⟩ := drop_at (xs := l) (k := k) (by rw [Hlen.out]; exact hlt2)
              obtain ⟨y, hy, _⟩ := drop_at (xs := bs) (k := k) (by rw [Hblen.out, Hmn.out]; exact hlt2)
              obtain ⟨b, off, rfl, hbl, hc⟩ := (Hl.out.below HYW.out).2 (by omega)
              obtain ⟨b', off', rfl, hbl', hc'⟩ := (Ht.out.below HYW.out).2 (by omega)
              obtain ⟨b3, off3, rfl, hbl3, hc3⟩ := (Hb.out.below HYW.out).2 (by rw [Hmn.out]; omega)
              have c0 := hc k f hf 0 (by omega)
              have c1 := hc k f hf 1 (by omega)
              have d0 := hc' j p HP.out 0 (by omega)
              have d1 := hc' j p HP.out 1 (by omega)
              have d2 := hc' j p HP.out 2 (by omega)
              have e0 := hc3 k y hy
              simp only [Prod.cell, intV, Nat.add_zero] at c0 c1 d0 d1 d2 e0
              have k1 : (k : Int) < (m : Int) := by rw [Hmn.out]; omega
              have k2 : (k : Int) < (n : Int) := by omega
              have k0 : (0 : Int) ≤ (k : Int) := by omega
              have hsn := heldZ_snoc (l.zip bs) k f y (zip_at hf hy) (p.area, p.cat)
              have HS := Eqn.mk hsn
              clear hc hc' hc3 hf hy HY hsn
              by_cases ha : f.area = p.area
              · have ea : (f.area == p.area) = true := by simpa using ha
                by_cases hcc : f.cat = p.cat
                · have ec : (f.cat == p.cat) = true := by simpa using hcc
                  have HR2 : Eqn (if p.sup < y then p.sup else y) (rcN p (heldZ ((l.zip bs).take (k + 1)) (p.area, p.cat))) := by
                    have h9 := HS.out; rw [if_pos (by rw [ha, hcc])] at h9; rw [Eqn, h9]; rfl
                  clear ha hcc HR HS
                  go_wp2_with fail
                  refine Lx.region (C := fun _ => True) (hs := []) (by kernel_rfl) (by kernel_rfl) trivial ?_
                  repeat' (first
                    | (refine Lx.lex_no (Lx.n1 rfl rfl rfl (by with_reducible rfl)) (fun K hK => ?_); go_simp; refine hK _ ?_; clear hK K)
                    | (refine Lx.lex_no (Lx.n0 rfl rfl rfl (by with_reducible rfl)) (fun K hK => ?_); go_simp; refine hK _ ?_; clear hK K)
                    | (refine Lx.lex_no (Lx.n2 rfl rfl rfl) (fun K hK => ?_); go_simp; refine hK _ ?_; clear hK K)
                    | (refine Lx.lex_pure (v := ?_) rfl (by first | exact Lx.w0 rfl | exact Lx.w1 rfl rfl rfl (by with_reducible rfl)) ?_ (fun K hK => ?_); rotate_left 1; (intro w' hCw; (try dsimp only at hCw); go_simp; done); go_simp; refine hK _ ?_; clear hK K)
                    | (refine Lx.lex_pure (v := ?_) rfl (by first | exact Lx.w0 rfl | exact Lx.w1 rfl rfl rfl (by with_reducible rfl)) ?_ (fun K hK => ?_); rotate_left 1; (intro w' hCw; (try dsimp only at hCw); go_simp; with_reducible rfl); go_simp; refine hK _ ?_; clear hK K)
                    | (refine Lx.lex_read (v := ?_) rfl (by first | exact Lx.w0 rfl | exact Lx.w1 rfl rfl rfl (by with_reducible rfl)) ?_ (fun K hK => ?_); rotate_left 1; (go_simp; done); go_simp; refine hK _ ?_; clear hK K)
                    | (refine Lx.lex_read (v := ?_) rfl (by first | exact Lx.w0 rfl | exact Lx.w1 rfl rfl rfl (by with_reducible rfl)) ?_ (fun K hK => ?_); rotate_left 1; (go_simp; with_reducible rfl); go_simp; refine hK _ ?_; clear hK K)
                    | (refine Lx.lex_eff rfl (by first | exact Lx.w0 rfl | exact Lx.w1 rfl rfl rfl (by with_reducible rfl)) (fun K hK => ?_); go_simp; (first | fail | skip); refine hK _ _ (trivial) ?_; clear hK K)
                    | (refine Lx.lex_cases rfl rfl rfl (fun hgd K hK => ?_) (fun hgd K hK => ?_) <;> (try simp only [decide_eq_true_eq, decide_eq_false_iff_not] at hgd) <;> (first | (exfalso; omega) | (go_simp; refine hK _ ?_; clear hK K))))
                  all_goals (refine Lx.lex_nil ?_)
                  go_wp2_with fail
                  refine Lx.region (C := fun _ => True) (hs := []) (by kernel_rfl) (by kernel_rfl) trivial ?_
                  repeat' (first
                    | (refine Lx.lex_no (Lx.n1 rfl rfl rfl (by with_reducible rfl)) (fun K hK => ?_); go_simp; refine hK _ ?_; clear hK K)
                    | (refine Lx.lex_no (Lx.n0 rfl rfl rfl (by with_reducible rfl)) (fun K hK => ?_); go_simp; refine hK _ ?_; clear hK K)
                    | (refine Lx.lex_no (Lx.n2 rfl rfl rfl) (fun K hK => ?_); go_simp; refine hK _ ?_; clear hK K)
                    | (refine Lx.lex_pure (v := ?_) rfl (by first | exact Lx.w0 rfl | exact Lx.w1 rfl rfl rfl (by with_reducible rfl)) ?_ (fun K hK => ?_); rotate_left 1; (intro w' hCw; (try dsimp only at hCw); go_simp; done); go_simp; refine hK _ ?_; clear hK K)
                    | (refine Lx.lex_pure (v := ?_) rfl (by first | exact Lx.w0 rfl | exact Lx.w1 rfl rfl rfl (by with_reducible rfl)) ?_ (fun K hK => ?_); rotate_left 1; (intro w' hCw; (try dsimp only at hCw); go_simp; with_reducible rfl); go_simp; refine hK _ ?_; clear hK K)
                    | (refine Lx.lex_read (v := ?_) rfl (by first | exact Lx.w0 rfl | exact Lx.w1 rfl rfl rfl (by with_reducible rfl)) ?_ (fun K hK => ?_); rotate_left 1; (go_simp; done); go_simp; refine hK _ ?_; clear hK K)
                    | (refine Lx.lex_read (v := ?_) rfl (by first | exact Lx.w0 rfl | exact Lx.w1 rfl rfl rfl (by with_reducible rfl)) ?_ (fun K hK => ?_); rotate_left 1; (go_simp; with_reducible rfl); go_simp; refine hK _ ?_; clear hK K)
                    | (refine Lx.lex_eff rfl (by first | exact Lx.w0 rfl | exact Lx.w1 rfl rfl rfl (by with_reducible rfl)) (fun K hK => ?_); go_simp; (first | fail | skip); refine hK _ _ (trivial) ?_; clear hK K)
                    | (refine Lx.lex_cases rfl rfl rfl (fun hgd K hK => ?_) (fun hgd K hK => ?_) <;> (try simp only [decide_eq_true_eq, decide_eq_false_iff_not] at hgd) <;> (first | (exfalso; omega) | (go_simp; refine hK _ ?_; clear hK K))))
                  all_goals (refine Lx.lex_nil ?_)
                  go_wp2_with fail
                  go_roundw
                  case rel => exact ⟨k + 1, _, by omega, by go_num, rfl, HR2, HYY.out.drew.drew⟩
                  case measure => simp [intOf]; omega
                · have ec : (f.cat == p.cat) = false := by simpa using hcc
                  have HR2 : Eqn acc (rcN p (heldZ ((l.zip bs).take (k + 1)) (p.area, p.cat))) := by
                    rw [Eqn, HS.out, if_neg (by simp; intro _ h; exact hcc h.symm)]; exact HR
                  clear ha hcc HR HS
                  go_wp2_with fail
                  refine Lx.region (C := fun _ => True) (hs := []) (by kernel_rfl) (by kernel_rfl) trivial ?_
                  repeat' (first
                    | (refine Lx.lex_no (Lx.n1 rfl rfl rfl (by with_reducible rfl)) (fun K hK => ?_); go_simp; refine hK _ ?_; clear hK K)
                    | (refine Lx.lex_no (Lx.n0 rfl rfl rfl (by with_reducible rfl)) (fun K hK => ?_); go_simp; refine hK _ ?_; clear hK K)
                    | (refine Lx.lex_no (Lx.n2 rfl rfl rfl) (fun K hK => ?_); go_simp; refine hK _ ?_; clear hK K)
                    | (refine Lx.lex_pure (v := ?_) rfl (by first | exact Lx.w0 rfl | exact Lx.w1 rfl rfl rfl (by with_reducible rfl)) ?_ (fun K hK => ?_); rotate_left 1; (intro w' hCw; (try dsimp only at hCw); go_simp; done); go_simp; refine hK _ ?_; clear hK K)
                    | (refine Lx.lex_pure (v := ?_) rfl (by first | exact Lx.w0 rfl | exact Lx.w1 rfl rfl rfl (by with_reducible rfl)) ?_ (fun K hK => ?_); rotate_left 1; (intro w' hCw; (try dsimp only at hCw); go_simp; with_reducible rfl); go_simp; refine hK _ ?_; clear hK K)
                    | (refine Lx.lex_read (v := ?_) rfl (by first | exact Lx.w0 rfl | exact Lx.w1 rfl rfl rfl (by with_reducible rfl)) ?_ (fun K hK => ?_); rotate_left 1; (go_simp; done); go_simp; refine hK _ ?_; clear hK K)
                    | (refine Lx.lex_read (v := ?_) rfl (by first | exact Lx.w0 rfl | exact Lx.w1 rfl rfl rfl (by with_reducible rfl)) ?_ (fun K hK => ?_); rotate_left 1; (go_simp; with_reducible rfl); go_simp; refine hK _ ?_; clear hK K)
                    | (refine Lx.lex_eff rfl (by first | exact Lx.w0 rfl | exact Lx.w1 rfl rfl rfl (by with_reducible rfl)) (fun K hK => ?_); go_simp; (first | fail | skip); refine hK _ _ (trivial) ?_; clear hK K)
                    | (refine Lx.lex_cases rfl rfl rfl (fun hgd K hK => ?_) (fun hgd K hK => ?_) <;> (try simp only [decide_eq_true_eq, decide_eq_false_iff_not] at hgd) <;> (first | (exfalso; omega) | (go_simp; refine hK _ ?_; clear hK K))))
                  all_goals (refine Lx.lex_nil ?_)
                  go_wp2_with fail
                  go_roundw
                  case rel => exact ⟨k + 1, acc, by omega, by go_num, rfl, HR2, HYY.out.drew⟩
                  case measure => simp [intOf]; omega
              · have ea : (f.area == p.area) = false := by simpa using ha
                have HR2 : Eqn acc (rcN p (heldZ ((l.zip bs).take (k + 1)) (p.area, p.cat))) := by
                  rw [Eqn, HS.out, if_neg (by simp; intro h; exact absurd h.symm ha)]; exact HR
                clear ha HR HS
                go_wp2_with fail
                refine Lx.region (C := fun _ => True) (hs := []) (by kernel_rfl) (by kernel_rfl) trivial ?_
                repeat' (first
                  | (refine Lx.lex_no (Lx.n1 rfl rfl rfl (by with_reducible rfl)) (fun K hK => ?_); go_simp; refine hK _ ?_; clear hK K)
                  | (refine Lx.lex_no (Lx.n0 rfl rfl rfl (by with_reducible rfl)) (fun K hK => ?_); go_simp; refine hK _ ?_; clear hK K)
                  | (refine Lx.lex_no (Lx.n2 rfl rfl rfl) (fun K hK => ?_); go_simp; refine hK _ ?_; clear hK K)
                  | (refine Lx.lex_pure (v := ?_) rfl (by first | exact Lx.w0 rfl | exact Lx.w1 rfl rfl rfl (by with_reducible rfl)) ?_ (fun K hK => ?_); rotate_left 1; (intro w' hCw; (try dsimp only at hCw); go_simp; done); go_simp; refine hK _ ?_; clear hK K)
                  | (refine Lx.lex_pure (v := ?_) rfl (by first | exact Lx.w0 rfl | exact Lx.w1 rfl rfl rfl (by with_reducible rfl)) ?_ (fun K hK => ?_); rotate_left 1; (intro w' hCw; (try dsimp only at hCw); go_simp; with_reducible rfl); go_simp; refine hK _ ?_; clear hK K)
                  | (refine Lx.lex_read (v := ?_) rfl (by first | exact Lx.w0 rfl | exact Lx.w1 rfl rfl rfl (by with_reducible rfl)) ?_ (fun K hK => ?_); rotate_left 1; (go_simp; done); go_simp; refine hK _ ?_; clear hK K)
                  | (refine Lx.lex_read (v := ?_) rfl (by first | exact Lx.w0 rfl | exact Lx.w1 rfl rfl rfl (by with_reducible rfl)) ?_ (fun K hK => ?_); rotate_left 1; (go_simp; with_reducible rfl); go_simp; refine hK _ ?_; clear hK K)
                  | (refine Lx.lex_eff rfl (by first | exact Lx.w0 rfl | exact Lx.w1 rfl rfl rfl (by with_reducible rfl)) (fun K hK => ?_); go_simp; (first | fail | skip); refine hK _ _ (trivial) ?_; clear hK K)
                  | (refine Lx.lex_cases rfl rfl rfl (fun hgd K hK => ?_) (fun hgd K hK => ?_) <;> (try simp only [decide_eq_true_eq, decide_eq_false_iff_not] at hgd) <;> (first | (exfalso; omega) | (go_simp; refine hK _ ?_; clear hK K))))
                all_goals (refine Lx.lex_nil ?_)
                go_wp2_with fail
                go_roundw
                case rel => exact ⟨k + 1, acc, by omega, by go_num, rfl, HR2, HYY.out.drew⟩
                case measure => simp [intOf]; omega
            · have hkn : k = n := by omega
              have HR2 : Eqn acc (carN l bs p) := by
                have := HR.out
                rw [hkn, List.take_of_length_le (by simp [Hlen.out]; omega), HCN.out] at this
                exact this
              have HO2 := Lib.hid (own_keep HOO.out HYY.out)
              have hwr := HYW.out.size
              clear HR hkn HY
              go_wp2_with (at_builtin; refine wpList_append_own_at _ rfl _ _ 23 rfl w.heap.size 3 i0 (.int .i64 0) 1 8 Try.underlying23 hi hz0 hz1 hz2 rfl (by decide) _ _ _ rfl (HO2.out.alloc _) ⟨wr.heap.size, 0, none⟩ 1 1 [.int .i64 acc] rfl rfl (cell_one_new _ _ _) (by simp [Value.oneCell']) (by unfold maxLen; omega) (by omega) (by simp; omega) ?_; intro v' w3 hown' hgrow hnil hat)
              go_roundw
              case rel => exact ⟨j + 1, by omega, by go_num, by rw [HT.out, List.map_append, ← HR2.out]; exact hown', (HYW.out.alloc hwr _).grown hgrow (by simp; omega) (own_ge HOO.out)⟩
              case measure => simp [intOf]; omega
        · have hjq : j = q := by omega
          clear HO HW
          go_wp2_with fail
          go_ret2
          rw [HF.out]
          refine ⟨_, rfl, ?_, HWW.out⟩
          have := HOO.out
          rw [hjq, List.take_of_length_le (by rw [List.length_map, Htlen.out]; omega)] at this
          dsimp only
          rw [List.length_map, Htlen.out]
          exact this
end Go.Proofs.Ytoafkphcfhbnmaa
