/- Contracts of demand.Excess and of the reference's Excess. -/
import Derived.Test.YtoafkphcfhbnmaaChange
import Derived.Test.YtoafkphcfhbnmaaLexM
namespace Go.Proofs.Ytoafkphcfhbnmaa
open Go.RowKit

def totOk : List Int → Bool
  | [] => true
  | p :: r => if p < 0 ∨ 384 < p then false else totOk r
def excN (t : Int) (p : Prod) : Int := if p.sup < t then t - p.sup else 0
def excL : List Int → List Prod → List Int
  | t :: ts, p :: l => excN t p :: excL ts l
  | _, _ => []
theorem excL_len : ∀ (ts : List Int) (l : List Prod), ts.length = l.length → (excL ts l).length = l.length := by
  intro ts
  induction ts with
  | nil => intro l h; cases l <;> simp_all [excL]
  | cons t ts ih => intro l h; cases l with
    | nil => simp at h
    | cons p l => simp [excL, ih l (by simpa using h)]
theorem excL_at : ∀ (ts : List Int) (l : List Prod) (k : Nat) (t : Int) (p : Prod), ts[k]? = some t → l[k]? = some p → (excL ts l)[k]? = some (excN t p) := by
  intro ts
  induction ts with
  | nil => intro l k t p h; simp at h
  | cons t ts ih => intro l k u p h hp; cases l with
    | nil => simp at hp
    | cons q l =>
      cases k with
      | zero => simp at h hp; subst h hp; rfl
      | succ k => simp at h hp; simpa [excL] using ih l k u p h hp
/-- Excess: the numbers and an error -/
def excF (l : List Prod) (ts : List Int) : List Int × Int := if prodValid l = true ∧ ts.length = l.length ∧ totOk ts = true then (excL ts l, 0) else ([], 2)

set_option maxHeartbeats 1000000 in
theorem excess_any (A B : Option Addr) (n c m d : Nat) (w : World) (l : List Prod) (ts : List Int) (hn : n ≤ 140) (hl : RowS 5 Prod.cell w w.heap.size A n l) (hb : Row1 intV w w.heap.size B m ts) :
    Calls Try.prog 24 #[.slice A n c, .slice B m d] w (ListPost (excF l ts) w) := by
  obtain ⟨i0, hi, hz0, hz1, hz2⟩ := info_parts int_info
  have Hl := Lib.hid hl
  have Hb := Lib.hid hb
  have Hlen := Eqn.mk hl.1
  have Hblen := Eqn.mk hb.1
  clear hl hb
  cases hv : prodValid l with
  | false =>
    have HV := Eqn.mk hv
    have HF : Eqn (excF l ts) ([], 2) := by unfold excF Eqn; rw [if_neg (by rw [hv]; simp)]
    clear hv
    go_enter Try.func24, Try.ntmps24
    go_wp2_with fail
    refine (prodValid_any A n c l _ hn Hl.out).mono ?_
    rw [HV.out]
    rintro e w1 ⟨rfl, hb1⟩
    go_wp2_with fail
    go_ret2
    rw [HF.out]
    exact ⟨_, rfl, World.ownsRow_nil _ _ _ _, hb1⟩
  | true =>
    have HV := Eqn.mk hv
    by_cases hmn : m = n
    · subst hmn
      have HF : Eqn (excF l ts) (if totOk ts = true then (excL ts l, 0) else ([], 2)) := by
        unfold excF Eqn; rw [hv, Hlen.out, Hblen.out]; simp
      have HXL : Eqn (excL ts l).length m := by rw [Eqn, excL_len ts l (by rw [Hlen.out, Hblen.out]), Hlen.out]
      have HOK := Lib.hid (prodValid_ok hv)
      have h0 : ((m : Int) != (m : Int)) = false := by simp
      clear hv
      go_enter Try.func24, Try.ntmps24
      go_wp2_with fail
      refine (prodValid_any A m c l _ hn Hl.out).mono ?_
      rw [HV.out]
      rintro e w1 ⟨rfl, hb1⟩
      have B1 := Lib.hid hb1
      have z1 := hb1.size
      clear hb1
      go_wp2_with (at_make; refine wpList_make_full _ rfl _ _ 23 rfl w1.heap.size 3 i0 (.int .i64 0) 1 Try.underlying23 hi hz0 hz1 .i64 .i64 _ _ m rfl rfl rfl rfl (by rw [hz2]; omega) (by unfold maxLen; omega) (Nat.le_refl _) ?_; intro w2 hown hgrow)
      have hown' := Lib.hid (made_zeros (f := intV) rfl hown)
      have B2 : Hid (Below w.heap.size w w2) := B1.out.grown hgrow z1 (fun g hg => by cases hg)
      have z2 : w1.heap.size < w2.heap.size := (hown.lt w1.heap.size rfl).2
      clear hown hgrow
      go_loopw [24] (fun i wr => ∃ k : Nat, k ≤ m ∧ i = .int .i64 k ∧ wr.ownsRow w1.heap.size 3 1 (.slice (some ⟨w1.heap.size, 0, none⟩) m m) m (((excL ts l).take k ++ List.replicate (m - k) 0).map intV) ∧ Eqn (totOk ts) (totOk (ts.drop k)) ∧ Below w.heap.size w wr) (fun i _ => m - (intOf i).toNat)
      case atStart => exact ⟨0, Nat.zero_le _, rfl, by simpa using hown'.out, rfl, B2.out⟩
      case round =>
        obtain ⟨k, hk, rfl, HO, HA, HW⟩ := hrel
        have HWW := Lib.hid HW
        by_cases hlt : k < m
        · obtain ⟨p, hp, hpd⟩ := drop_at (xs := l) (k := k) (by rw [Hlen.out]; exact hlt)
          obtain ⟨t, ht, htd⟩ := drop_at (xs := ts) (k := k) (by rw [Hblen.out]; exact hlt)
          obtain ⟨b, off, rfl, hbl, hc⟩ := (Hl.out.below HW).2 (by omega)
          obtain ⟨b', off', rfl, hbl', hc'⟩ := (Hb.out.below HW).2 (by omega)
          have c1 := hc k p hp 2 (by omega)
          have c2 := hc' k t ht
          simp only [Prod.cell, intV] at c1 c2
          have hbad := HOK.out p (List.mem_of_getElem? hp)
          unfold badP at hbad
          have b1 : 1 ≤ p.sup := by omega
          have b2 : p.sup ≤ 12 := by omega
          have HA' : Eqn (totOk ts) (if t < 0 ∨ 384 < t then false else totOk (ts.drop (k + 1))) := by
            have := HA.out; rw [htd, totOk] at this; exact this
          have hfr := HO.frozenAt k
          obtain ⟨u0, hu0⟩ := own_cell HO hlt
          have hgl := (HO.lt w1.heap.size rfl).2
          have HS := Lib.hid (fun u => (HO.stored k u).1)
          have HX : Eqn ((excL ts l).take k ++ List.replicate (m - k) 0 |>.set k (excN t p)) ((excL ts l).take (k + 1) ++ List.replicate (m - (k + 1)) 0) := fill_set 0 (excL ts l) m k _ HXL.out (excL_at ts l k t p ht hp)
          by_cases ht0 : t < 0 ∨ 384 < t
          · have HF' : Eqn (excF l ts) ([], 2) := by rw [Eqn, HF.out, HA'.out, if_pos ht0]; rfl
            clear hc hc' hp hpd ht htd HA HW HO hbad
            rcases ht0 with ht0 | ht0
            all_goals
              go_wp2
              all_goals
                go_ret2
                rw [HF'.out]
                exact ⟨_, rfl, World.ownsRow_nil _ _ _ _, HWW.out⟩
          · have n1 : ¬ t < 0 := by omega
            have n2 : ¬ 384 < t := by omega
            have HA2 : Eqn (totOk ts) (totOk (ts.drop (k + 1))) := by rw [Eqn, HA'.out, if_neg ht0]
            clear hc hc' hp hpd ht htd HA HA' HW HO hbad ht0
            go_wp2
            all_goals
              go_roundw
              case rel =>
                refine ⟨k + 1, by omega, by go_num, ?_, HA2, HWW.out.setCell (by simp; omega) _⟩
                rw [← HX.out, List.map_set]
                rw [show excN t p = (if t - p.sup < 0 then 0 else t - p.sup) by unfold excN; split <;> split <;> omega]
                exact HS.out _
              case measure => simp [intOf]; omega
        · have : k = m := by omega
          subst this
          have HA2 : Eqn (totOk ts) true := by rw [Eqn, HA.out, drop_end (by rw [Hblen.out]; omega)]; rfl
          have HO2 := Lib.hid HO
          clear HA HO HW
          go_wp2
          go_ret2
          rw [HF.out, HA2.out, if_pos rfl]
          refine ⟨_, rfl, ?_, HWW.out⟩
          have := HO2.out
          rw [Nat.sub_self, List.replicate_zero, List.append_nil, List.take_of_length_le (by rw [HXL.out]; omega)] at this
          dsimp only
          rw [HXL.out]
          exact own_low this z1
    · have HF : Eqn (excF l ts) ([], 2) := by unfold excF Eqn; rw [if_neg (by rw [Hblen.out, Hlen.out]; exact fun h => hmn h.2.1)]
      have h0 : ((m : Int) != (n : Int)) = true := by simp; omega
      clear hv
      go_enter Try.func24, Try.ntmps24
      go_wp2_with fail
      refine (prodValid_any A n c l _ hn Hl.out).mono ?_
      rw [HV.out]
      rintro e w1 ⟨rfl, hb1⟩
      go_wp2_with fail
      go_ret2
      rw [HF.out]
      exact ⟨_, rfl, World.ownsRow_nil _ _ _ _, hb1⟩

set_option maxHeartbeats 1000000 in
theorem rexcess_any (A B : Option Addr) (n c m d : Nat) (w : World) (l : List Prod) (ts : List Int) (hn : n ≤ 140) (hl : RowS 5 Prod.cell w w.heap.size A n l) (hb : Row1 intV w w.heap.size B m ts) :
    Calls Try.prog 25 #[.slice A n c, .slice B m d] w (ListPost (excF l ts) w) := by
  obtain ⟨i0, hi, hz0, hz1, hz2⟩ := info_parts int_info
  have Hl := Lib.hid hl
  have Hb := Lib.hid hb
  have Hlen := Eqn.mk hl.1
  have Hblen := Eqn.mk hb.1
  clear hl hb
  cases hv : prodValid l with
  | false =>
    have HV : Eqn (refValid l) false := by rw [← prodValid_eq]; exact hv
    have HF : Eqn (excF l ts) ([], 2) := by unfold excF Eqn; rw [if_neg (by rw [hv]; simp)]
    clear hv
    go_enter Try.func25, Try.ntmps25
    go_wp2_with fail
    refine (refValid_any A n c l _ hn Hl.out).mono ?_
    rw [HV.out]
    rintro e w1 ⟨rfl, hb1⟩
    go_wp2_with fail
    go_ret2
    rw [HF.out]
    exact ⟨_, rfl, World.ownsRow_nil _ _ _ _, hb1⟩
  | true =>
    have HV : Eqn (refValid l) true := by rw [← prodValid_eq]; exact hv
    by_cases hmn : m = n
    · subst hmn
      have HF : Eqn (excF l ts) (if totOk ts = true then (excL ts l, 0) else ([], 2)) := by
        unfold excF Eqn; rw [hv, Hlen.out, Hblen.out]; simp
      have HXL : Eqn (excL ts l).length m := by rw [Eqn, excL_len ts l (by rw [Hlen.out, Hblen.out]), Hlen.out]
      have HOK := Lib.hid (prodValid_ok hv)
      have h0 : ((m : Int) != (m : Int)) = false := by simp
      clear hv
      go_enter Try.func25, Try.ntmps25
      go_wp2_with fail
      refine (refValid_any A m c l _ hn Hl.out).mono ?_
      rw [HV.out]
      rintro e w1 ⟨rfl, hb1⟩
      have B1 := Lib.hid hb1
      have z1 := hb1.size
      clear hb1
      go_wp2_with fail
      go_loopw [6, 7] (fun v i wr => ∃ k : Nat, k ≤ m ∧ i = .int .i64 k ∧ wr.ownsRow w.heap.size 3 1 v k (((excL ts l).take k).map intV) ∧ Eqn (totOk ts) (totOk (ts.drop k)) ∧ Below w.heap.size w wr) (fun _ i _ => m - (intOf i).toNat)
      case atStart => exact ⟨0, Nat.zero_le _, rfl, World.ownsRow_nil _ _ _ _, rfl, B1.out⟩
      case round =>
        obtain ⟨k, hk, rfl, HO, HA, HW⟩ := hrel
        have HWW := Lib.hid HW
        have HOO := Lib.hid HO
        by_cases hlt : k < m
        · obtain ⟨p, hp, hpd⟩ := drop_at (xs := l) (k := k) (by rw [Hlen.out]; exact hlt)
          obtain ⟨t, ht, htd⟩ := drop_at (xs := ts) (k := k) (by rw [Hblen.out]; exact hlt)
          obtain ⟨b, off, rfl, hbl, hc⟩ := (Hl.out.below HW).2 (by omega)
          obtain ⟨b', off', rfl, hbl', hc'⟩ := (Hb.out.below HW).2 (by omega)
          have c1 := hc k p hp 2 (by omega)
          have c2 := hc' k t ht
          simp only [Prod.cell, intV] at c1 c2
          have hbad := HOK.out p (List.mem_of_getElem? hp)
          unfold badP at hbad
          have b1 : 1 ≤ p.sup := by omega
          have b2 : p.sup ≤ 12 := by omega
          have hws := HW.size
          have HA' : Eqn (totOk ts) (if t < 0 ∨ 384 < t then false else totOk (ts.drop (k + 1))) := by
            have := HA.out; rw [htd, totOk] at this; exact this
          have HX : Eqn ((excL ts l).take (k + 1)) ((excL ts l).take k ++ [excN t p]) := by
            rw [Eqn, List.take_add_one, excL_at ts l k t p ht hp]; rfl
          by_cases ht0 : t < 0 ∨ 384 < t
          · have HF' : Eqn (excF l ts) ([], 2) := by rw [Eqn, HF.out, HA'.out, if_pos ht0]; rfl
            clear hc hc' hp hpd ht htd HA HW HO hbad
            rcases ht0 with ht0 | ht0
            all_goals
              go_wp2_with fail
              all_goals
                go_ret2
                rw [HF'.out]
                exact ⟨_, rfl, World.ownsRow_nil _ _ _ _, HWW.out⟩
          · have n1 : ¬ t < 0 := by omega
            have n2 : ¬ 384 < t := by omega
            have HA2 : Eqn (totOk ts) (totOk (ts.drop (k + 1))) := by rw [Eqn, HA'.out, if_neg ht0]
            have e1 : IntKind.i64.wrap (t - p.sup) = t - p.sup := by rw [IntKind.wrap_i64]; omega
            clear hc hc' hp hpd ht htd HA HA' HW HO hbad ht0
            go_wp2_with fail
            refine Lx.region (C := fun _ => True) (hs := []) (by kernel_rfl) (by kernel_rfl) trivial ?_
            repeat' (first
              | (refine Lx.lex_no (Lx.n1 rfl rfl rfl (by with_reducible rfl)) (fun K hK => ?_); go_simp; refine hK _ ?_; clear hK K)
              | (refine Lx.lex_no (Lx.n0 rfl rfl rfl (by with_reducible rfl)) (fun K hK => ?_); go_simp; refine hK _ ?_; clear hK K)
              | (refine Lx.lex_no (Lx.n2 rfl rfl rfl) (fun K hK => ?_); go_simp; refine hK _ ?_; clear hK K)
              | (refine Lx.lex_pure (v := ?_) rfl (by first | exact Lx.w0 rfl | exact Lx.w1 rfl rfl rfl (by with_reducible rfl)) ?_ (fun K hK => ?_); rotate_left 1; (intro w' hCw; (try dsimp only at hCw); go_simp; done); go_simp; refine hK _ ?_; clear hK K)
              | (refine Lx.lex_pure (v := ?_) rfl (by first | exact Lx.w0 rfl | exact Lx.w1 rfl rfl rfl (by with_reducible rfl)) ?_ (fun K hK => ?_); rotate_left 1; (intro w' hCw; (try dsimp only at hCw); go_simp; with_reducible rfl); go_simp; refine hK _ ?_; clear hK K)
              | (refine Lx.lex_read (v := ?_) rfl (by first | exact Lx.w0 rfl | exact Lx.w1 rfl rfl rfl (by with_reducible rfl)) ?_ (fun K hK => ?_); rotate_left 1; (go_simp; done); go_simp; refine hK _ ?_; clear hK K)
              | (refine Lx.lex_read (v := ?_) rfl (by first | exact Lx.w0 rfl | exact Lx.w1 rfl rfl rfl (by with_reducible rfl)) ?_ (fun K hK => ?_); rotate_left 1; (go_simp; with_reducible rfl); go_simp; refine hK _ ?_; clear hK K)
              | (refine Lx.lex_eff rfl (by first | exact Lx.w0 rfl | exact Lx.w1 rfl rfl rfl (by with_reducible rfl)) (fun K hK => ?_); go_simp; (first | fail | skip); refine hK _ _ (trivial) ?_; clear hK K)
              | (refine Lx.lex_cases rfl rfl rfl (fun hgd K hK => ?_) (fun hgd K hK => ?_) <;> (try simp only [decide_eq_true_eq, decide_eq_false_iff_not] at hgd) <;> (first | (exfalso; omega) | (go_simp; refine hK _ ?_; clear hK K))))
            refine Lx.lex_append rfl rfl _ _ 23 rfl w.heap.size 3 i0 (.int .i64 0) 1 8 Try.underlying23 hi hz0 hz1 hz2 rfl (by decide) _ k _ rfl (by exact (HOO.out.alloc _).drew) ⟨wr.heap.size, 0, none⟩ 1 1 [.int .i64 (excN t p)] rfl rfl (by exact cell_one_new _ _ _) (by simp [Value.oneCell']) (by unfold maxLen; omega) (by omega) (by simp; omega) ?_
            intro v' w2 hown2 hgrow2 _
            refine ⟨trivial, ?_⟩
            clear e1
            repeat' (first
              | (refine Lx.lex_no (Lx.n1 rfl rfl rfl (by with_reducible rfl)) (fun K hK => ?_); go_simp; refine hK _ ?_; clear hK K)
              | (refine Lx.lex_no (Lx.n0 rfl rfl rfl (by with_reducible rfl)) (fun K hK => ?_); go_simp; refine hK _ ?_; clear hK K)
              | (refine Lx.lex_no (Lx.n2 rfl rfl rfl) (fun K hK => ?_); go_simp; refine hK _ ?_; clear hK K)
              | (refine Lx.lex_pure (v := ?_) rfl (by first | exact Lx.w0 rfl | exact Lx.w1 rfl rfl rfl (by with_reducible rfl)) ?_ (fun K hK => ?_); rotate_left 1; (intro w' hCw; (try dsimp only at hCw); go_simp; done); go_simp; refine hK _ ?_; clear hK K)
              | (refine Lx.lex_pure (v := ?_) rfl (by first | exact Lx.w0 rfl | exact Lx.w1 rfl rfl rfl (by with_reducible rfl)) ?_ (fun K hK => ?_); rotate_left 1; (intro w' hCw; (try dsimp only at hCw); go_simp; with_reducible rfl); go_simp; refine hK _ ?_; clear hK K)
              | (refine Lx.lex_read (v := ?_) rfl (by first | exact Lx.w0 rfl | exact Lx.w1 rfl rfl rfl (by with_reducible rfl)) ?_ (fun K hK => ?_); rotate_left 1; (go_simp; done); go_simp; refine hK _ ?_; clear hK K)
              | (refine Lx.lex_read (v := ?_) rfl (by first | exact Lx.w0 rfl | exact Lx.w1 rfl rfl rfl (by with_reducible rfl)) ?_ (fun K hK => ?_); rotate_left 1; (go_simp; with_reducible rfl); go_simp; refine hK _ ?_; clear hK K)
              | (refine Lx.lex_eff rfl (by first | exact Lx.w0 rfl | exact Lx.w1 rfl rfl rfl (by with_reducible rfl)) (fun K hK => ?_); go_simp; (first | fail | skip); refine hK _ _ (trivial) ?_; clear hK K)
              | (refine Lx.lex_cases rfl rfl rfl (fun hgd K hK => ?_) (fun hgd K hK => ?_) <;> (try simp only [decide_eq_true_eq, decide_eq_false_iff_not] at hgd) <;> (first | (exfalso; omega) | (go_simp; refine hK _ ?_; clear hK K))))
            all_goals (refine Lx.lex_nil ?_)
            go_wp2
            go_roundw
            case rel => exact ⟨k + 1, by omega, by go_num, by rw [HX.out, List.map_append]; exact hown2, HA2, ((HWW.out.alloc hws _).drew).grown hgrow2 (by simp; omega) (own_ge HOO.out)⟩
            case measure => simp [intOf]; omega
        · have : k = m := by omega
          subst this
          have HA2 : Eqn (totOk ts) true := by rw [Eqn, HA.out, drop_end (by rw [Hblen.out]; omega)]; rfl
          clear HA HO HW
          go_wp2_with fail
          go_ret2
          rw [HF.out, HA2.out, if_pos rfl]
          refine ⟨_, rfl, ?_, HWW.out⟩
          have := HOO.out
          rw [List.take_of_length_le (by rw [HXL.out]; omega)] at this
          dsimp only
          rw [HXL.out]
          exact this
    · have HF : Eqn (excF l ts) ([], 2) := by unfold excF Eqn; rw [if_neg (by rw [Hblen.out, Hlen.out]; exact fun h => hmn h.2.1)]
      have h0 : ((m : Int) != (n : Int)) = true := by simp; omega
      clear hv
      go_enter Try.func25, Try.ntmps25
      go_wp2_with fail
      refine (refValid_any A n c l _ hn Hl.out).mono ?_
      rw [HV.out]
      rintro e w1 ⟨rfl, hb1⟩
      go_wp2_with fail
      go_ret2
      rw [HF.out]
      exact ⟨_, rfl, World.ownsRow_nil _ _ _ _, hb1⟩
end Go.Proofs.Ytoafkphcfhbnmaa
