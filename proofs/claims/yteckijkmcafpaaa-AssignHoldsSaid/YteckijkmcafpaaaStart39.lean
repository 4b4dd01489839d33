/- Contract of Starts. -/
import Derived.Test.YteckijkmcafpaaaPt39
import Derived.Test.YteckijkmcafpaaaChk39
namespace Go.Proofs.Yteckijkmcafpaaa
open Go.RowKit

theorem AreaO.grown {w w' : World} {D g gf gt b n c : Nat} {A : Option Addr} {l : List Claim} {F : Nat → Nat → Int} {fx : List Int} {row : Option Nat} (h : AreaO w D g gf gt b n A c l F fx) (hg : w.grownBy w' row) (hr : ∀ k, row = some k → D ≤ k ∧ k ≠ gf ∧ k ≠ g ∧ k ≠ gt) : AreaO w' D g gf gt b n A c l F fx := by
  have hb : ∀ k, k < w.heap.size → (k = g ∨ k = gf ∨ k = gt ∨ k < D) → w'.heap[k]? = w.heap[k]? := fun k hk hkk => hg.block k hk (fun e => by have := hr k e.symm; omega)
  have eg := hb g h.lt (.inl rfl)
  exact {
    c0 := (World.cell?_of_block (w := w) (a := ⟨g, 0, none⟩) eg).trans h.c0
    c1 := (World.cell?_of_block (w := w) (a := ⟨g, 1, none⟩) eg).trans h.c1
    c2 := (World.cell?_of_block (w := w) (a := ⟨g, 2, none⟩) eg).trans h.c2
    c3 := (World.cell?_of_block (w := w) (a := ⟨g, 3, none⟩) eg).trans h.c3
    cl := h.cl.below (((Below.refl D w)).grown hg (Nat.le_trans h.ne.2.2.1 (Nat.le_of_lt h.lt)) (fun k hk => (hr k hk).1))
    tb := (hb gt h.tb.lt (.inr (.inr (.inl rfl)))).trans h.tb
    fb := (hb gf h.fb.lt (.inr (.inl rfl))).trans h.fb
    fl := h.fl
    ne := h.ne
    lt := Nat.lt_of_lt_of_le h.lt hg.size }

set_option maxRecDepth 100000 in
set_option maxHeartbeats 8000000 in
theorem starts_any (b x : Int) (A : Option Addr) (n c : Nat) (w : World) (l : List Claim) (hn : n ≤ 1000) (hl : RowS 2 Claim.cell w w.heap.size A n l) :
    Calls Try.prog 17 #[.int .i64 b, .slice A n c, .int .i64 x] w (ListPost (startsF b l x) w) := by
  obtain ⟨i0, hi, hz0, hz1, hz2⟩ := info_get int_info
  have Hl := Lib.hid hl
  have Hlen := Eqn.mk hl.1
  clear hl
  cases hv : validF b l with
  | false =>
    have HV := Eqn.mk hv
    have HF : Eqn (startsF b l x) ([], 2) := by unfold startsF; rw [if_neg (by rw [hv]; simp)]; rfl
    clear hv
    go_enter Try.func17, Try.ntmps17
    go_wp2_with fail
    refine (valid_any b A n c _ l hn Hl.out).mono ?_
    rw [HV.out]
    rintro e w1 ⟨rfl, hb1⟩
    go_wp2_with fail
    go_ret2
    rw [HF.out]
    exact ⟨_, rfl, World.ownsRow_nil _ _ _ _, hb1⟩
  | true =>
    have HV := Eqn.mk hv
    obtain ⟨v1, v2', v3, v4⟩ := validF_all hv
    obtain ⟨N, rfl⟩ := Int.eq_ofNat_of_zero_le (show 0 ≤ b by omega)
    rcases findC_cases l x with hneg | ⟨k, p, hfk, hp, hpw⟩
    · have HF : Eqn (startsF N l x) ([], 9) := by unfold startsF; rw [if_pos hv, if_pos (by omega)]; rfl
      have HNG := Eqn.mk hneg
      clear hv hneg v4
      go_enter Try.func17, Try.ntmps17
      go_wp2_with fail
      refine (valid_any N A n c _ l hn Hl.out).mono ?_
      rw [HV.out]
      rintro e w1 ⟨rfl, hb1⟩
      have B1 := Lib.hid hb1
      clear hb1
      go_wp2_with fail
      refine (claim_any A n c x _ l hn (by exact (Hl.out.below B1.out).up B1.out.size)).mono ?_
      rw [HNG.out]
      rintro e w2 ⟨rfl, hb2⟩
      have B2 := Lib.hid (B1.out.trans (hb2.mono B1.out.size))
      clear hb2
      go_wp2_with fail
      go_ret2
      rw [HF.out]
      exact ⟨_, rfl, World.ownsRow_nil _ _ _ _, B2.out⟩
    · have hpb := v4 p (List.mem_of_getElem? hp)
      obtain ⟨q, hq⟩ := Int.eq_ofNat_of_zero_le (show 0 ≤ p.cnt by omega)
      have hca : cntAt l (findC l x) = q := by unfold cntAt; rw [hfk, Int.toNat_natCast, hp]; exact hq
      have HF : Eqn (startsF N l x) (startsL l N k q (N + 1 - q), 0) := by
        unfold startsF; rw [if_pos hv, if_neg (by omega), hca, hfk]; rfl
      have HTS := Lib.hid (fun (s : Nat) (hs : s + q ≤ N) => start_test (n := n) hv rfl Hlen.out hp hq hs)
      have hkn : k < n := by rw [← Hlen.out]; exact (List.getElem?_eq_some_iff.1 hp).1
      have HFK := Eqn.mk hfk
      have HBD := valOf_bd (n := n) (K := 1099511627776) (by omega) (tabG_bd l (fun _ => true) [] (fun _ _ => 0) (fun x hx => by cases hx) (fun i s => by omega))
      rw [Hlen.out] at v3
      have HSV := Lib.hid (fun (g : Nat) (w3 : World) (fx : List Int) (ha : AreaAt w3 w3.heap.size g N n l (rowsOf n (tabG l (fun _ => true) [] (fun _ _ => 0))) fx) => solve_any g N n w3 l _ fx (by omega) (by omega) v3 (fun x hx => ⟨(v4 x hx).2.2.1, by have := (v4 x hx).2.2.2; omega⟩) HBD ha)
      obtain ⟨g1, o1, rfl, hg1, hc1⟩ := Hl.out.2 (by omega)
      have q1 := hc1 k p hp 1 (by omega)
      simp only [Claim.cell] at q1
      rw [hq] at q1 hpb
      have Q1 := Lib.hid q1
      obtain ⟨hp1, hp2, hp3, hp4⟩ := hpb
      clear hv v4 hp hfk hca hc1 q1 hq HBD hpw
      generalize hFF : tabG l (fun _ => true) [] (fun _ _ => 0) = FF at *
      have HFF := Eqn.mk hFF
      clear hFF
      go_enter Try.func17, Try.ntmps17
      go_wp2_with fail
      refine (valid_any N _ n c _ l hn Hl.out).mono ?_
      rw [HV.out]
      rintro e w1 ⟨rfl, hb1⟩
      have B1 := Lib.hid hb1
      clear hb1
      go_wp2_with fail
      refine (claim_any _ n c x _ l hn (by exact (Hl.out.below B1.out).up B1.out.size)).mono ?_
      rw [HFK.out]
      rintro e w2 ⟨rfl, hb2⟩
      have B2 := Lib.hid (B1.out.trans (hb2.mono B1.out.size))
      clear hb2 B1
      go_wp2_with fail
      refine (table_all _ none n c 0 0 w2 l [] hn (by omega) (by exact (Hl.out.below B2.out).up B2.out.size) (RowS.nil _ _ _ _ _) (fun x hx => by cases hx)).mono ?_
      rw [HFF.out]
      rintro e w3 ⟨gt, rfl, hgt, ht, hb3⟩
      have HT := Lib.hid ht
      have B3 := Lib.hid (B2.out.trans (hb3.mono B2.out.size))
      have hg2 : w.heap.size ≤ gt := Nat.le_trans B2.out.size hgt
      clear ht hb3 hgt B2
      go_wp2_with fail
      refine (newArea_any N n _ c gt w.heap.size w3 l _ hn B3.out.size hg2 (by exact Hl.out.below B3.out) HT.out).mono ?_
      rintro e w4 ⟨g, gf, rfl, ha, hb4⟩
      have HA := Lib.hid ha
      have B4 := Lib.hid (B3.out.trans (hb4.mono B3.out.size))
      clear ha hb4 HT hg2 B3
      go_wp2_with fail
      go_loopw [10, 11] (fun v i wr => ∃ (s : Nat) (fx : List Int), s ≤ N + 1 - q ∧ i = .int .i64 s ∧ AreaO wr w.heap.size g gf gt N n (some ⟨g1, o1, none⟩) c l FF fx ∧ Hid (∀ t, fx.set k t = (List.replicate n (-1)).set k t) ∧ wr.ownsRow w.heap.size 3 1 v (startsL l N k q s).length ((startsL l N k q s).map intV) ∧ Hid (∀ gg, v.ownBlock = some gg → gg ≠ gf ∧ gg ≠ g ∧ gg ≠ gt) ∧ Below w.heap.size w wr) (fun _ i _ => N + 1 - q - (intOf i).toNat)
      case atStart => exact ⟨0, _, Nat.zero_le _, rfl, HA.out, Lib.hid (fun _ => rfl), World.ownsRow_nil _ _ _ _, Lib.hid (fun gg h => by cases h), B4.out⟩
      case round =>
        clear HA B4
        obtain ⟨s, fx, hs, rfl, ha, HFX, ho, HNB, HW⟩ := hrel
        have HWW := Lib.hid HW
        have hws := HW.size
        have d1 := (HW.cell (p := ⟨g1, o1 + k * 2 + 1, none⟩) hg1).trans Q1.out
        have j0 : (0 : Int) ≤ (k : Int) := by omega
        have j1 : (k : Int) < (n : Int) := by omega
        by_cases hlt : s < N + 1 - q
        · have z3 := ha.c3
          obtain ⟨xx, hxx⟩ : ∃ xx, fx[k]? = some xx := ⟨_, List.getElem?_eq_getElem (by rw [ha.fl]; exact hkn)⟩
          have z4 := ha.fb.cell (i := k) (x := .int .i64 xx) (by rw [List.getElem?_map, hxx]; rfl)
          have f4 := ha.fb.frozen k
          have l4 := ha.fb.lt
          have ha2 := ha.set k s
          rw [HFX.out] at ha2
          have HA2 := Lib.hid ha2
          have HO2 : Hid ((wr.setCell ⟨gf, k, none⟩ (.int .i64 (s : Int))).ownsRow w.heap.size 3 1 u10 (startsL l N k q s).length ((startsL l N k q s).map intV)) := Lib.hid (by
            refine ⟨ho.1, ho.2.imp id ?_⟩
            rintro ⟨gg, cap, cur, rfl, h1, h2, h3⟩
            exact ⟨gg, cap, cur, rfl, h1, by rw [Go.Deep.blk_setCell_other _ _ _ _ (HNB.out gg rfl).1]; exact h2, h3⟩)
          have HB2 : Hid (Below w.heap.size w (wr.setCell ⟨gf, k, none⟩ (.int .i64 (s : Int)))) := Lib.hid (HW.setCell ha.ne.2.2.2.1 _)
          have t1 : (s : Int) + (q : Int) ≤ (N : Int) := by omega
          have hts := HTS.out s (by omega)
          obtain ⟨qq, hqq⟩ : ∃ qq, dpT n N (cnOf l) (nth ((List.replicate n (-1)).set k (s : Int))) (valOf (rowsOf n FF)) N 0 (2 ^ n - 1) = qq := ⟨_, rfl⟩
          rw [hqq] at hts
          have HQQ := Eqn.mk hqq
          obtain ⟨qv, qn⟩ := qq
          dsimp only at hts
          have HSU := Eqn.mk (startsL_succ l N k q s)
          have HLN := startsL_len l N k q s
          have HFX2 : Hid (∀ t, ((List.replicate n (-1)).set k (s : Int)).set k t = (List.replicate n (-1)).set k t) := Lib.hid (fun t => List.set_set ..)
          have HHI := Lib.hid (show g < wr.heap.size ∧ gf < wr.heap.size ∧ gt < wr.heap.size from ⟨ha.lt, ha.fb.lt, ha.tb.lt⟩)
          obtain ⟨wi, rfl⟩ : ∃ wi : World, wi = wr := ⟨_, rfl⟩
          by_cases hpos : 0 < qn
          · have HT1 := hts.1 hpos
            rw [if_pos HT1] at HSU
            clear ha ha2 ho HW hxx hqq hts HFX HT1
            go_wp2_with fail
            refine (HSV.out g _ _ HA2.out.at).mono ?_
            rw [HQQ.out]
            rintro e w5 ⟨rfl, hb5⟩
            have HA5 := Lib.hid (HA2.out.keep hb5)
            have HO5 := Lib.hid (own_keep HO2.out hb5)
            have HB5 := Lib.hid (HB2.out.trans (hb5.mono HB2.out.size))
            have hs5 := HB5.out.size
            have hwi : wi.heap.size ≤ w5.heap.size := by have := hb5.size; simpa using this
            clear hb5 HA2 HO2 HB2 z3 z4 f4 l4 d1
            simp only [v2n]
            go_wp2_with (at_builtin; refine wpList_append_own_at _ rfl _ _ 27 rfl w.heap.size 3 i0 (.int .i64 0) 1 8 Try.underlying27 hi hz0 hz1 hz2 rfl (by decide) _ _ _ rfl (HO5.out.alloc _) ⟨w5.heap.size, 0, none⟩ 1 1 [.int .i64 (s : Int)] rfl rfl (cell_one_new _ _ _) (by simp [Value.oneCell']) (by unfold maxLen; omega) (by omega) (by simp; omega) ?_; intro v' w6 hown6 hgrow6 hnil6 hat6)
            have HNB6 : Hid (∀ gg, v'.ownBlock = some gg → gg ≠ gf ∧ gg ≠ g ∧ gg ≠ gt) := Lib.hid (fun gg hgg => by
              rcases hat6 with h | h
              · exact HNB.out gg (h.symm.trans hgg)
              · rw [h] at hgg
                injection hgg with hgg
                have := HHI.out
                simp only [World.size_alloc] at hgg
                omega)
            have HA6 : Hid (AreaO w6 w.heap.size g gf gt N n (some ⟨g1, o1, none⟩) c l FF ((List.replicate n (-1)).set k (s : Int))) := Lib.hid ((HA5.out.keep ((Below.refl _ _).alloc (Nat.le_refl _) _)).grown hgrow6 (fun gg hgg => ⟨own_ge HO5.out gg hgg, HNB.out gg hgg⟩))
            have HB6 := Lib.hid ((HB5.out.alloc hs5 _).grown hgrow6 (by simp; omega) (own_ge HO5.out))
            have HO6 : Hid (w6.ownsRow w.heap.size 3 1 v' (startsL l N k q (s + 1)).length ((startsL l N k q (s + 1)).map intV)) := Lib.hid (by rw [HSU.out, List.length_append, List.map_append]; exact hown6)
            clear hown6 hgrow6 hnil6 hat6
            go_wp2_with fail
            go_roundw
            case rel => exact ⟨s + 1, _, by omega, by go_num, HA6.out, HFX2, HO6.out, HNB6, HB6.out⟩
            case measure => simp only [intOf]; omega
          · have hT1 : ¬ startT l N k q s = true := fun h => hpos (hts.2 h)
            rw [if_neg hT1] at HSU
            clear ha ha2 ho HW hxx hqq hts HFX hT1
            go_wp2_with fail
            refine (HSV.out g _ _ HA2.out.at).mono ?_
            rw [HQQ.out]
            rintro e w5 ⟨rfl, hb5⟩
            have HA5 := Lib.hid (HA2.out.keep hb5)
            have HO5 : Hid (w5.ownsRow w.heap.size 3 1 u10 (startsL l N k q (s + 1)).length ((startsL l N k q (s + 1)).map intV)) := Lib.hid (by rw [HSU.out]; exact own_keep HO2.out hb5)
            have HB5 := Lib.hid (HB2.out.trans (hb5.mono HB2.out.size))
            clear hb5 HA2 HO2 HB2 z3 z4 f4 l4 d1
            simp only [v2n]
            go_wp2_with fail
            go_roundw
            case rel => exact ⟨s + 1, _, by omega, by go_num, HA5.out, HFX2, HO5.out, HNB, HB5.out⟩
            case measure => simp only [intOf]; omega
        · obtain rfl : s = N + 1 - q := by omega
          have HO := Lib.hid ho
          have t1 : ¬ ((N + 1 - q : Nat) : Int) + (q : Int) ≤ (N : Int) := by omega
          clear ha ho HW HFX
          go_wp2_with fail
          go_ret2
          rw [HF.out]
          exact ⟨_, rfl, HO.out, HWW.out⟩
end Go.Proofs.Yteckijkmcafpaaa
