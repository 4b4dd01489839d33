/- Contracts of demand.Carry and of the reference's Carry. -/
import Derived.Test.YtoafkphcfhbnmaaKey34
import Derived.Test.YtoafkphcfhbnmaaExc
import Derived.Test.YtoafkphcfhbnmaaRef34A
namespace Go.Proofs.Ytoafkphcfhbnmaa
open Go.RowKit

/-- the blocks at a place: the last ones -/
def heldZ (zs : List (Prod × Int)) (y : Int × Int) : Option Int := zs.foldl (fun acc z => if y = (z.1.area, z.1.cat) then some z.2 else acc) none
def heldN (l : List Prod) (bs : List Int) (p : Prod) : Int := (heldZ (l.zip bs) (p.area, p.cat)).getD 0
def carN (l : List Prod) (bs : List Int) (p : Prod) : Int := if p.sup < heldN l bs p then p.sup else heldN l bs p
/-- Carry: the numbers and an error -/
def carF (l to : List Prod) (bs : List Int) : List Int × Int := if dValid l bs = true ∧ prodValid to = true then (to.map (carN l bs), 0) else ([], 2)

theorem heldZ_snoc (zs : List (Prod × Int)) (k : Nat) (p : Prod) (b : Int) (h : zs[k]? = some (p, b)) (y : Int × Int) : heldZ (zs.take (k + 1)) y = if y = (p.area, p.cat) then some b else heldZ (zs.take k) y := by
  unfold heldZ
  rw [List.take_add_one, h]
  simp [List.foldl_append]

theorem zip_at {α β : Type} {l : List α} {bs : List β} {k : Nat} {p : α} {b : β} (h1 : l[k]? = some p) (h2 : bs[k]? = some b) : (l.zip bs)[k]? = some (p, b) := by
  rw [List.getElem?_zip_eq_some]; exact ⟨h1, h2⟩

theorem held_map (zs : List (Prod × Int)) (k : Nat) (p : Prod) (b : Int) (h : zs[k]? = some (p, b)) : (fun y => if y = (p.area, p.cat) then some (.int .i64 b) else (heldZ (zs.take k) y).map intV) = fun y => (heldZ (zs.take (k + 1)) y).map intV := by
  funext y
  rw [heldZ_snoc zs k p b h y]
  split <;> rfl

theorem run_mk (n : Int) (w : World) : (Instr.makeMap 63 (some (.int .i64 n))).run Try.prog w = .ok (.map (some w.heap.size)) (w.alloc (.map #[] 0)) := by kernel_rfl

theorem look_val (o : Option Int) : (o.map intV).getD (.int .i64 0) = .int .i64 (o.getD 0) := by cases o <;> rfl

set_option maxHeartbeats 2000000 in
theorem carry_any (A T B : Option Addr) (n c m d q cq : Nat) (w : World) (l to : List Prod) (bs : List Int) (hn : n ≤ 140) (hq : q ≤ 140) (hl : RowS 5 Prod.cell w w.heap.size A n l) (ht : RowS 5 Prod.cell w w.heap.size T q to) (hb : Row1 intV w w.heap.size B m bs) :
    Calls Try.prog 28 #[.slice A n c, .slice T q cq, .slice B m d] w (ListPost (carF l to bs) w) := by
  obtain ⟨i0, hi, hz0, hz1, hz2⟩ := info_parts int_info
  have Hl := Lib.hid hl
  have Hb := Lib.hid hb
  have Ht := Lib.hid ht
  have Hlen := Eqn.mk hl.1
  have Hblen := Eqn.mk hb.1
  have Htlen := Eqn.mk ht.1
  clear hl hb ht
  cases hv : dValid l bs with
  | false =>
    have HV := Eqn.mk hv
    have HF : Eqn (carF l to bs) ([], 2) := by unfold carF Eqn; rw [if_neg (by rw [hv]; simp)]
    clear hv
    go_enter Try.func28, Try.ntmps28
    go_wp2_with fail
    refine (dValid_any A B n c m d _ l bs hn Hl.out Hb.out).mono ?_
    rw [HV.out]
    rintro e w1 ⟨rfl, hb1⟩
    go_wp2_with fail
    go_ret2
    rw [HF.out]
    exact ⟨_, rfl, World.ownsRow_nil _ _ _ _, hb1⟩
  | true =>
    have HV := Eqn.mk hv
    cases hv2 : prodValid to with
    | false =>
      have HV2 := Eqn.mk hv2
      have HF : Eqn (carF l to bs) ([], 2) := by unfold carF Eqn; rw [if_neg (by rw [hv2]; simp)]
      clear hv hv2
      go_enter Try.func28, Try.ntmps28
      go_wp2_with fail
      refine (dValid_any A B n c m d _ l bs hn Hl.out Hb.out).mono ?_
      rw [HV.out]
      rintro e w1 ⟨rfl, hb1⟩
      have B1 := Lib.hid hb1
      clear hb1
      go_wp2_with fail
      refine (prodValid_any T q cq to _ hq (Ht.out.keep B1.out)).mono ?_
      rw [HV2.out]
      rintro e w2 ⟨rfl, hb2⟩
      go_wp2_with fail
      go_ret2
      rw [HF.out]
      exact ⟨_, rfl, World.ownsRow_nil _ _ _ _, B1.out.trans (hb2.mono B1.out.size)⟩
    | true =>
      have HV2 := Eqn.mk hv2
      have HF : Eqn (carF l to bs) (to.map (carN l bs), 0) := by unfold carF Eqn; rw [if_pos ⟨hv, hv2⟩]
      have Hmn : Eqn m n := by
        unfold dValid at hv; rw [Bool.and_eq_true] at hv
        have := (fitsF_spec l bs hv.2).1
        rw [Hlen.out, Hblen.out] at this; exact this.symm
      have hmk := run_mk
      clear hv hv2
      go_enter Try.func28, Try.ntmps28
      go_wp2_with fail
      refine (dValid_any A B n c m d _ l bs hn Hl.out Hb.out).mono ?_
      rw [HV.out]
      rintro e w1 ⟨rfl, hb1⟩
      have B1 := Lib.hid hb1
      clear hb1
      go_wp2_with fail
      refine (prodValid_any T q cq to _ hq (Ht.out.keep B1.out)).mono ?_
      rw [HV2.out]
      rintro e w2 ⟨rfl, hb2⟩
      have B2 : Hid (Below w.heap.size w w2) := B1.out.trans (hb2.mono B1.out.size)
      have z2 := B2.out.size
      clear hb2
      go_wp2_with fail
      clear hmk
      go_loopw [28] (fun i wr => ∃ k : Nat, k ≤ n ∧ i = .int .i64 k ∧ MapF encP wr w2.heap.size (fun y => (heldZ ((l.zip bs).take k) y).map intV) ∧ Below w.heap.size w wr) (fun i _ => n - (intOf i).toNat)
      case atStart => exact ⟨0, Nat.zero_le _, rfl, MapF.made encP w2, B2.out.alloc z2 _⟩
      case round =>
        obtain ⟨k, hk, rfl, HM, HW⟩ := hrel
        obtain ⟨wo, rfl⟩ : ∃ wo : World, wo = wr := ⟨_, rfl⟩
        have HWW := Lib.hid HW
        have hws := HW.size
        by_cases hlt : k < n
        · obtain ⟨p, hp, hpd⟩ := drop_at (xs := l) (k := k) (by rw [Hlen.out]; exact hlt)
          obtain ⟨y, hy, hyd⟩ := drop_at (xs := bs) (k := k) (by rw [Hblen.out, Hmn.out]; exact hlt)
          obtain ⟨b, off, rfl, hbl, hc⟩ := (Hl.out.below HW).2 (by omega)
          obtain ⟨b', off', rfl, hbl', hc'⟩ := (Hb.out.below HW).2 (by rw [Hmn.out]; omega)
          have c0 := hc k p hp 0 (by omega)
          have c1 := hc k p hp 1 (by omega)
          have c2 := hc k p hp 2 (by omega)
          have c3 := hc k p hp 3 (by omega)
          have c4 := hc k p hp 4 (by omega)
          have c5 := hc' k y hy
          simp only [Prod.cell, intV, Nat.add_zero] at c0 c1 c2 c3 c4 c5
          have hbs : b < wo.heap.size := by omega
          have hbs' : b' < wo.heap.size := by omega
          have j1 : (k : Int) < (m : Int) := by rw [Hmn.out]; omega
          have j0 : (0 : Int) ≤ (k : Int) := by omega
          have HZ := Lib.hid (held_map (l.zip bs) k p y (zip_at hp hy))
          obtain ⟨wm, hrun, hm', hg⟩ := run_put (P := Try.prog) (et := 3) place_ok Try.underlying63 (w := (wo.alloc (.cells #[.int .i64 p.area, .int .i64 p.cat, .int .i64 p.sup, .int .i64 p.units, .int .i64 p.res] 51)).drew) ((HM.alloc _).congr rfl) (p.area, p.cat) (.int .i64 y)
          simp only [encP] at hrun
          have HM' := Lib.hid hm'
          have HG := Lib.hid hg
          have hgz : w2.heap.size < wo.heap.size := HM.lt
          clear hc hc' hp hpd hy hyd HM HW hm' hg
          go_wp2_with fail
          refine Lx.region (C := fun _ => True) (hs := []) (by kernel_rfl) (by kernel_rfl) trivial ?_
          repeat' (first
            | (refine Lx.lex_no (Lx.n1 rfl rfl rfl (by with_reducible rfl)) (fun K hK => ?_); go_simp; refine hK _ ?_; clear hK K)
            | (refine Lx.lex_no (Lx.n0 rfl rfl rfl (by with_reducible rfl)) (fun K hK => ?_); go_simp; refine hK _ ?_; clear hK K)
            | (refine Lx.lex_no (Lx.n2 rfl rfl rfl) (fun K hK => ?_); go_simp; refine hK _ ?_; clear hK K)
            | (refine Lx.lex_pure (v := ?_) rfl (by first | exact Lx.w0 rfl | exact Lx.w1 rfl rfl rfl (by with_reducible rfl)) ?_ (fun K hK => ?_); rotate_left 1; (intro w' hCw; (try dsimp only at hCw); go_simp; done); go_simp; refine hK _ ?_; clear hK K)
            | (refine Lx.lex_pure (v := ?_) rfl (by first | exact Lx.w0 rfl | exact Lx.w1 rfl rfl rfl (by with_reducible rfl)) ?_ (fun K hK => ?_); rotate_left 1; (intro w' hCw; (try dsimp only at hCw); go_simp; with_reducible rfl); go_simp; refine hK _ ?_; clear hK K)
            | (refine Lx.lex_read (v := ?_) rfl (by first | exact Lx.w0 rfl | exact Lx.w1 rfl rfl rfl (by with_reducible rfl)) ?_ (fun K hK => ?_); rotate_left 1; (go_simp; done); go_simp; refine hK _ ?_; clear hK K)
            | (refine Lx.lex_read (v := ?_) rfl (by first | exact Lx.w0 rfl | exact Lx.w1 rfl rfl rfl (by with_reducible rfl)) ?_ (fun K hK => ?_); rotate_left 1; (go_simp; with_reducible rfl); go_simp; refine hK _ ?_; clear hK K)
            | (refine Lx.lex_eff rfl (by first | exact Lx.w0 rfl | exact Lx.w1 rfl rfl rfl (by with_reducible rfl)) (fun K hK => ?_); go_simp; (first | fail | skip); refine hK _ _ (trivial) ?_; clear hK K)
            | (refine Lx.lex_cases rfl rfl rfl (fun hgd K hK => ?_) (fun hgd K hK => ?_) <;> (try simp only [decide_eq_true_eq, decide_eq_false_iff_not] at hgd) <;> (first | (exfalso; omega) | (go_simp; refine hK _ ?_; clear hK K))))
          all_goals (refine Lx.lex_nil ?_)
          clear hrun
          go_wp2_with fail
          go_roundw
          case rel => exact ⟨k + 1, by omega, by go_num, by rw [← HZ.out]; exact HM'.out, ((HWW.out.alloc hws _).drew).grown HG.out (by simp; omega) (fun g hg => by injection hg with hg; omega)⟩
          case measure => simp [intOf]; omega
        · have hkn : k = n := by omega
          have HM2 : Hid (MapF encP wo w2.heap.size (fun y => (heldZ (l.zip bs) y).map intV)) := by
            have := HM
            rw [List.take_of_length_le (by simp [Hlen.out, Hblen.out]; omega)] at this
            exact this
          have hgz : w2.heap.size < wo.heap.size := HM.lt
          clear HM HW hkn
          go_wp2_with (at_make; refine wpList_make_full _ rfl _ _ 23 rfl wo.heap.size 3 i0 (.int .i64 0) 1 Try.underlying23 hi hz0 hz1 .i64 .i64 _ _ q rfl rfl rfl rfl (by rw [hz2]; omega) (by unfold maxLen; omega) (Nat.le_refl _) ?_; intro w3 hown hgrow)
          have hown' := Lib.hid (made_zeros (f := intV) rfl hown)
          have B3 : Hid (Below w.heap.size w w3) := HWW.out.grown hgrow hws (fun g hg => by cases hg)
          have HM3 : Hid (MapF encP w3 w2.heap.size (fun y => (heldZ (l.zip bs) y).map intV)) := HM2.out.grown hgrow (by simp)
          have HCL : Eqn (to.map (carN l bs)).length q := by rw [Eqn, List.length_map, Htlen.out]
          clear hown hgrow
          go_loopw [49] (fun i wr => ∃ k : Nat, k ≤ q ∧ i = .int .i64 k ∧ wr.ownsRow wo.heap.size 3 1 (.slice (some ⟨wo.heap.size, 0, none⟩) q q) q (((to.map (carN l bs)).take k ++ List.replicate (q - k) 0).map intV) ∧ MapF encP wr w2.heap.size (fun y => (heldZ (l.zip bs) y).map intV) ∧ Below w.heap.size w wr) (fun i _ => q - (intOf i).toNat)
          case atStart => exact ⟨0, Nat.zero_le _, rfl, by simpa using hown'.out, HM3.out, B3.out⟩
          case round =>
            obtain ⟨j, hj, rfl, HO, HM, HW⟩ := hrel
            have HWR := Lib.hid HW
            have hwr := HW.size
            by_cases hlt2 : j < q
            · obtain ⟨p, hp, hpd⟩ := drop_at (xs := to) (k := j) (by rw [Htlen.out]; exact hlt2)
              obtain ⟨b, off, rfl, hbl, hc⟩ := (Ht.out.below HW).2 (by omega)
              have c0 := hc j p hp 0 (by omega)
              have c1 := hc j p hp 1 (by omega)
              have c2 := hc j p hp 2 (by omega)
              have c3 := hc j p hp 3 (by omega)
              have c4 := hc j p hp 4 (by omega)
              simp only [Prod.cell, Nat.add_zero] at c0 c1 c2 c3 c4
              have hbs : b < wr.heap.size := by omega
              have HMW : MapF encP (wr.alloc (.cells #[.int .i64 p.area, .int .i64 p.cat, .int .i64 p.sup, .int .i64 p.units, .int .i64 p.res] 51)).drew w2.heap.size (fun y => (heldZ (l.zip bs) y).map intV) := (HM.alloc _).congr rfl
              have hrun := run_look (P := Try.prog) (et := 3) place_ok Try.underlying63 HMW (z := .int .i64 0) (by kernel_rfl) (p.area, p.cat)
              simp only [encP, look_val] at hrun
              rw [show (heldZ (l.zip bs) (p.area, p.cat)).getD 0 = heldN l bs p from rfl] at hrun
              have HS := Lib.hid (fun u => ((HO.stored j u).1.alloc (.cells #[.int .i64 p.area, .int .i64 p.cat, .int .i64 p.sup, .int .i64 p.units, .int .i64 p.res] 51)).drew)
              obtain ⟨u0, hu0⟩ := own_cell HO hlt2
              have hfr := HO.frozenAt j
              have hgl := (HO.lt wo.heap.size rfl).2
              have HX : Eqn ((to.map (carN l bs)).take j ++ List.replicate (q - j) 0 |>.set j (carN l bs p)) ((to.map (carN l bs)).take (j + 1) ++ List.replicate (q - (j + 1)) 0) := fill_set 0 _ q j _ HCL.out (by rw [List.getElem?_map, hp]; rfl)
              have HMW' := Lib.hid HM
              have hz2' : wo.heap.size ≠ w2.heap.size := by omega
              have j0 : (0 : Int) ≤ (j : Int) := by omega
              have j1 : (j : Int) < (q : Int) := by omega
              have HCN : Eqn (carN l bs p) (if p.sup < heldN l bs p then p.sup else heldN l bs p) := rfl
              generalize heldN l bs p = hh at *
              generalize carN l bs p = cc at *
              clear hc hp hpd HO HM HW HMW
              go_wp2_with fail
              refine Lx.region (C := fun _ => True) (hs := []) (by kernel_rfl) (by kernel_rfl) trivial ?_
              repeat' (first
                | (refine Lx.lex_no (Lx.n1 rfl rfl rfl (by with_reducible rfl)) (fun K hK => ?_); go_simp; refine hK _ ?_; clear hK K)
                | (refine Lx.lex_no (Lx.n0 rfl rfl rfl (by with_reducible rfl)) (fun K hK => ?_); go_simp; refine hK _ ?_; clear hK K)
                | (refine Lx.lex_no (Lx.n2 rfl rfl rfl) (fun K hK => ?_); go_simp; refine hK _ ?_; clear hK K)
                | (refine Lx.lex_pure (v := ?_) rfl (by first | exact Lx.w0 rfl | exact Lx.w1 rfl rfl rfl (by with_reducible rfl)) ?_ (fun K hK => ?_); rotate_left 1; (intro w' hCw; (try dsimp only at hCw); go_simp; done); go_simp; refine hK _ ?_; clear hK K)
                | (refine Lx.lex_pure (v := ?_) rfl (by first | exact Lx.w0 rfl | exact Lx.w1 rfl rfl rfl (by with_reducible rfl)) ?_ (fun K hK => ?_); rotate_left 1; (intro w' hCw; (try dsimp only at hCw); go_simp; with_reducible rfl); go_simp; refine hK _ ?_; clear hK K)
                | (refine Lx.lex_read (v := ?_) rfl (by first | exact Lx.w0 rfl | exact Lx.w1 rfl rfl rfl (by with_reducible rfl)) ?_ (fun K hK => ?_); rotate_left 1; (go_simp; done); go_simp; refine hK _ ?_; clear hK K)
                | (refine Lx.lex_read (v := ?_) rfl (by first | exact Lx.w0 rfl | exact Lx.w1 rfl rfl rfl (by with_reducible rfl)) ?_ (fun K hK => ?_); rotate_left 1; (go_simp; with_reducible rfl); go_simp; refine hK _ ?_; clear hK K)
                | (refine Lx.lex_eff rfl (by first | exact Lx.w0 rfl | exact Lx.w1 rfl rfl rfl (by with_reducible rfl)) (fun K hK => ?_); go_simp; (first | fail | skip); refine hK _ _ (trivial) ?_; clear hK K)
                | (refine Lx.lex_cases rfl rfl rfl (fun hgd K hK => ?_) (fun hgd K hK => ?_) <;> (try simp only [decide_eq_true_eq, decide_eq_false_iff_not] at hgd) <;> (first | (exfalso; omega) | (go_simp; refine hK _ ?_; clear hK K))))
              all_goals (refine Lx.lex_nil ?_)
              clear hrun
              go_wp2_with fail
              go_roundw
              case rel =>
                refine ⟨j + 1, by omega, by go_num, ?_, ((HMW'.out.setCell ⟨wo.heap.size, j, none⟩ _ hz2').alloc _).congr rfl, ((HWR.out.setCell (by simp; omega) _).alloc (by simpa using hwr) _).drew⟩
                rw [← HX.out, List.map_set, HCN.out]
                exact HS.out _
              case measure => simp [intOf]; omega
            · have hjq : j = q := by omega
              have HOO := Lib.hid HO
              clear HO HM HW
              go_wp2_with fail
              go_ret2
              rw [HF.out]
              refine ⟨_, rfl, ?_, HWR.out⟩
              have := HOO.out
              rw [hjq, Nat.sub_self, List.replicate_zero, List.append_nil, List.take_of_length_le (by rw [HCL.out]; omega)] at this
              dsimp only
              rw [HCL.out]
              exact own_low this hws
end Go.Proofs.Ytoafkphcfhbnmaa
