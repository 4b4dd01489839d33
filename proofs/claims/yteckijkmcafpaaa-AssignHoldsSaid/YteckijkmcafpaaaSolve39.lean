/- Contract of Solve: the first best assignment. -/
import Derived.Test.YteckijkmcafpaaaPs39
import Derived.Test.YteckijkmcafpaaaChk39
namespace Go.Proofs.Yteckijkmcafpaaa
open Go.RowKit

def slotC (n : Nat) (S : Nat → Slot) : List Value := tabL (n * 3) fun j => (S (j / 3)).cell (j % 3)
theorem slot_info : (Try.prog.info? 56).map (fun i => (i.zero, i.size, i.bytes)) = some (some (.agg (List.replicate 3 (.int .i64 0)).toArray), 3, 24) := by kernel_rfl
theorem made3 (n : Nat) : (madeCells (Value.agg (List.replicate 3 (.int .i64 0)).toArray).cells (n * 3)) = (slotC n (fun _ => ⟨0, 0, 0⟩)).toArray := by
  have hz : (Value.agg (List.replicate 3 (.int .i64 0)).toArray).cells = (List.replicate 3 (Value.int .i64 0)).toArray := by kernel_rfl
  rw [hz]
  unfold madeCells slotC tabL
  apply Array.toList_inj.1
  rw [Array.toList_map, Array.toList_range]
  refine List.map_congr_left fun i _ => ?_
  have h12 : i % 3 < 3 := Nat.mod_lt _ (by omega)
  have : ∀ k : Fin 3, ((List.replicate 3 (Value.int .i64 0)).toArray)[k.1]! = Value.int .i64 0 := fun k => by
    rw [getElem!_pos _ _ (by simp)]; simp only [List.getElem_toArray, List.getElem_replicate]
  refine (this ⟨i % 3, h12⟩).trans ?_
  unfold Slot.cell
  split <;> rfl
theorem mk_slots (N : Nat) (h : N ≤ 1000) (w : World) : (Instr.makeSlice 35 (.int .i64 (N : Int)) (.int .i64 (N : Int))).run Try.prog w = .ok (.slice (some ⟨w.heap.size, 0, none⟩) N N) (w.alloc (.cells (slotC N (fun _ => ⟨0, 0, 0⟩)).toArray 56)) := by
  obtain ⟨i, hi, hz, hs, hb⟩ := info_get slot_info
  have hr := run_make (P := Try.prog) w 35 56 i _ Try.underlying35 hi hz .i64 .i64 N N (by omega) (Int.le_refl _) (by rw [hb]; omega) (by omega)
  simp only [Int.toNat_natCast, hs, made3] at hr
  exact hr

/-- slots, their value and an error are returned -/
def SlotPost (r : List Slot × Int × Int) (w : World) (e : Ending) (w' : World) : Prop :=
  ∃ A c, e = .returned (.tuple #[.slice A r.1.length c, .int .i64 r.2.1, .int .i64 r.2.2]) ∧ RowS 3 Slot.cell w' w'.heap.size A r.1.length r.1 ∧ Below w.heap.size w w'
def slotsOf (l : List Claim) (f : List Int) : List Slot := List.zipWith (fun c s => (⟨c.win, s, c.cnt⟩ : Slot)) l f
def solveF (b : Int) (l : List Claim) (ws : List Wish) : List Slot × Int × Int :=
  if vwF b l ws = true then (slotsOf l (srF (psOf l ws (l.map Claim.win)) (List.replicate b.toNat false)).2.2, (srF (psOf l ws (l.map Claim.win)) (List.replicate b.toNat false)).2.1, 0) else ([], 0, 2)

theorem AreaO.other {w : World} {D g gf gt b n c : Nat} {A : Option Addr} {l : List Claim} {F : Nat → Nat → Int} {fx : List Int} (h : AreaO w D g gf gt b n A c l F fx) {h' o : Nat} (v : Value) (h1 : h' ≠ g) (h2 : h' ≠ gf) (h3 : h' ≠ gt) (h4 : D ≤ h') : AreaO (w.setCell ⟨h', o, none⟩ v) D g gf gt b n A c l F fx where
  c0 := cell_set h.c0 h1
  c1 := cell_set h.c1 h1
  c2 := cell_set h.c2 h1
  c3 := cell_set h.c3 h1
  cl := h.cl.below ((Below.refl _ _).setCell h4 _)
  tb := h.tb.other _ _ h3
  fb := h.fb.other _ _ h2
  fl := h.fl
  ne := h.ne
  lt := by simpa using h.lt
def updS (S : Nat → Slot) (i : Nat) (x : Slot) (j : Nat) : Slot := if j = i then x else S j
theorem slotC_set {w : World} {g t n : Nat} {S : Nat → Slot} (h : Blk w g t (slotC n S)) (i : Nat) (x : Slot) : Blk (((w.setCell ⟨g, i * 3, none⟩ (.int .i64 x.win)).setCell ⟨g, i * 3 + 1, none⟩ (.int .i64 x.start)).setCell ⟨g, i * 3 + 2, none⟩ (.int .i64 x.cnt)) g t (slotC n (updS S i x)) := by
  have := ((h.set_ (i * 3) (.int .i64 x.win)).set_ (i * 3 + 1) (.int .i64 x.start)).set_ (i * 3 + 2) (.int .i64 x.cnt)
  unfold slotC at this ⊢
  rw [tabL_set, tabL_set, tabL_set] at this
  refine this.tab fun j _ => ?_
  unfold updS
  by_cases e2 : j = i * 3 + 2
  · rw [if_pos e2, if_pos (by omega), show j % 3 = 2 by omega]; rfl
  · rw [if_neg e2]
    by_cases e1 : j = i * 3 + 1
    · rw [if_pos e1, if_pos (by omega), show j % 3 = 1 by omega]; rfl
    · rw [if_neg e1]
      by_cases e0 : j = i * 3
      · rw [if_pos e0, if_pos (by omega), show j % 3 = 0 by omega]; rfl
      · rw [if_neg e0, if_neg (by omega)]
theorem slotC_rows {w : World} {g t n D : Nat} {S : Nat → Slot} {xs : List Slot} (h : Blk w g t (slotC n S)) (hg : g < D) (hl : xs.length = n) (hx : ∀ i x, xs[i]? = some x → S i = x) : RowS 3 Slot.cell w D (some ⟨g, 0, none⟩) n xs := by
  refine ⟨hl, fun _ => ⟨g, 0, rfl, hg, fun k x hk j hj => ?_⟩⟩
  have hkn : k < n := by rw [← hl]; exact (List.getElem?_eq_some_iff.1 hk).1
  rw [Nat.zero_add, h.cell (tabL_at (show k * 3 + j < n * 3 by omega)), show (k * 3 + j) / 3 = k by omega, show (k * 3 + j) % 3 = j by omega, hx k x hk]

set_option maxRecDepth 100000 in
set_option maxHeartbeats 8000000 in
theorem psolve_any (b : Int) (A B : Option Addr) (n c m d : Nat) (w : World) (l : List Claim) (ws : List Wish) (hn : n ≤ 1000) (hm : m ≤ 1000) (hl : RowS 2 Claim.cell w w.heap.size A n l) (hw : RowS 3 Wish.cell w w.heap.size B m ws) :
    Calls Try.prog 20 #[.int .i64 b, .slice A n c, .slice B m d] w (SlotPost (solveF b l ws) w) := by
  have Hl := Lib.hid hl
  have Hw := Lib.hid hw
  have Hlen := Eqn.mk hl.1
  clear hl hw
  cases hv : vwF b l ws with
  | false =>
    have HV := Eqn.mk hv
    have HF : Eqn (solveF b l ws) ([], 0, 2) := by unfold solveF; rw [if_neg (by rw [hv]; simp)]; rfl
    clear hv
    go_enter Try.func20, Try.ntmps20
    go_wp2_with fail
    refine (vw_any b A B n c m d _ l ws hn hm Hl.out Hw.out).mono ?_
    rw [HV.out]
    rintro e w1 ⟨rfl, hb1⟩
    go_wp2_with fail
    go_ret3
    rw [HF.out]
    exact ⟨none, 0, rfl, RowS.nil _ _ _ _ _, hb1⟩
  | true =>
    have HV := Eqn.mk hv
    obtain ⟨hva, hvg⟩ := vwF_yes hv
    obtain ⟨v1, v2', v3, v4⟩ := validF_all hva
    obtain ⟨N, rfl⟩ := Int.eq_ofNat_of_zero_le (show 0 ≤ b by omega)
    have hPall : ∀ c ∈ l, (fun _ : Int => true) c.win = hasF (l.map Claim.win) c.win := fun c hc => by
      rw [hasF, eq_comm, List.any_eq_true]; exact ⟨c.win, List.mem_map.2 ⟨c, hc, rfl⟩, by simp⟩
    obtain ⟨v, f, hsr, hf1, hf2, hf3, hf4⟩ := first_best hv rfl (l.map Claim.win)
    have HF : Eqn (solveF N l ws) (slotsOf l f, v, 0) := by unfold solveF; rw [if_pos hv, Int.toNat_natCast, hsr]; rfl
    have HDP := Eqn.mk (dp_all (wn := l.map Claim.win) (P := fun _ => true) hv hPall rfl Hlen.out).1
    rw [hsr] at HDP
    have HTS := Lib.hid (fun (i : Nat) (hi : i < n) (s : Nat) => solve_test (P := fun _ => true) hv hPall rfl Hlen.out hf1 hf2 hf3 hf4 hi s)
    have hgl := (mem_rs _ (csOf_pos hva) _ f).1 hf1
    have Hfl : Eqn f.length n := by rw [Eqn, hgl.1]; simp [csOf, Hlen.out]
    have HFB : Hid (∀ i c, l[i]? = some c → 0 ≤ nth f i ∧ nth f i + c.cnt ≤ N) := Lib.hid (fun i c hc => by
      have h1 := hgl.2.1 i c.cnt.toNat (by unfold csOf; rw [List.getElem?_map, hc]; rfl)
      rw [List.length_replicate] at h1
      have := v4 c (List.mem_of_getElem? hc)
      omega)
    have HWO := Lib.hid (fun x hx => (vw_ok hva ws none hvg x hx).1)
    have HBD := Lib.hid (valOf_bd (n := n) (K := 1099511627776) (by omega) (tabG_bd l (fun _ => true) ws (fun _ _ => 0) (fun x hx => (vw_ok hva ws none hvg x hx).2) (fun i s => by omega)))
    have H4 := Lib.hid v4
    have mkS := fun w => mk_slots n hn w
    rw [Hlen.out] at v3
    have HSV := Lib.hid (fun (g : Nat) (w3 : World) (fx : List Int) (ha : AreaAt w3 w3.heap.size g N n l (rowsOf n (tabG l (fun _ => true) ws (fun _ _ => 0))) fx) => solve_any g N n w3 l _ fx (by omega) (by omega) v3 (fun x hx => ⟨(v4 x hx).2.2.1, by have := (v4 x hx).2.2.2; omega⟩) HBD.out ha)
    clear hv v4 hva hvg hsr hf1 hf2 hf3 hf4 hgl hPall
    generalize hFF : tabG l (fun _ => true) ws (fun _ _ => 0) = FF at *
    have HFF := Eqn.mk hFF
    clear hFF
    generalize nmF (csOf l) (List.replicate N false) = nmm at *
    go_enter Try.func20, Try.ntmps20
    go_wp2_with fail
    refine (vw_any N A B n c m d _ l ws hn hm Hl.out Hw.out).mono ?_
    rw [HV.out]
    rintro e w1 ⟨rfl, hb1⟩
    have B1 := Lib.hid hb1
    clear hb1
    go_wp2_with fail
    refine (table_all A B n c m d w1 l ws hn hm (by exact (Hl.out.below B1.out).up B1.out.size) (by exact (Hw.out.below B1.out).up B1.out.size) HWO.out).mono ?_
    rw [HFF.out]
    rintro e w2 ⟨gt, rfl, hgt, ht, hb2⟩
    have HT := Lib.hid ht
    have B2 := Lib.hid (B1.out.trans (hb2.mono B1.out.size))
    have hg2 : w.heap.size ≤ gt := Nat.le_trans B1.out.size hgt
    clear ht hb2 hgt
    go_wp2_with fail
    refine (newArea_any N n A c gt w.heap.size w2 l _ hn B2.out.size hg2 (by exact Hl.out.below B2.out) HT.out).mono ?_
    rintro e w3 ⟨g, gf, rfl, ha, hb3⟩
    have HA := Lib.hid ha
    have B3 := Lib.hid (B2.out.trans (hb3.mono B2.out.size))
    clear ha hb3 HT hg2 B2 B1
    go_wp2_with fail
    refine (HSV.out g w3 _ HA.out.at).mono ?_
    rw [HDP.out]
    rintro e w4 ⟨rfl, hb4⟩
    have HA4 := Lib.hid (HA.out.keep hb4)
    have B4 := Lib.hid (B3.out.trans (hb4.mono B3.out.size))
    clear hb4 HA B3
    simp only [v2n]
    have HA5 : Hid (AreaO (w4.alloc (.cells (slotC n (fun _ => ⟨0, 0, 0⟩)).toArray 56)) w.heap.size g gf gt N n A c l FF (fixP n f 0)) := Lib.hid (by
      have := HA4.out.keep ((Below.refl w4.heap.size w4).alloc (Nat.le_refl _) (.cells (slotC n (fun _ => ⟨0, 0, 0⟩)).toArray 56))
      have e : fixP n f 0 = List.replicate n (-1) := by simp [fixP]
      rw [e]; exact this)
    have HS5 : Hid (Blk (w4.alloc (.cells (slotC n (fun _ => ⟨0, 0, 0⟩)).toArray 56)) w4.heap.size 56 (slotC n (fun _ => ⟨0, 0, 0⟩))) := Lib.hid (blk_new w4 _ _)
    have B5 : Hid (Below w.heap.size w (w4.alloc (.cells (slotC n (fun _ => ⟨0, 0, 0⟩)).toArray 56))) := Lib.hid (B4.out.alloc B4.out.size _)
    have hgs1 : w4.heap.size ≠ g := fun e => by have := HA4.out.lt; omega
    have hgs2 : w4.heap.size ≠ gf := fun e => by have := HA4.out.fb.lt; omega
    have hgs3 : w4.heap.size ≠ gt := fun e => by have := HA4.out.tb.lt; omega
    have hgs4 : w.heap.size ≤ w4.heap.size := B4.out.size
    obtain ⟨gs, hgs⟩ : ∃ gs, gs = w4.heap.size := ⟨_, rfl⟩
    rw [← hgs] at HS5 hgs1 hgs2 hgs3 hgs4
    have HGS := Eqn.mk hgs
    clear hgs HA4 B4
    go_wp2_with fail
    rw [show w4.heap.size = gs from HGS.out.symm]
    go_loopw [39] (fun i wr => ∃ (k : Nat) (S : Nat → Slot), k ≤ n ∧ i = .int .i64 k ∧ AreaO wr w.heap.size g gf gt N n A c l FF (fixP n f k) ∧ Blk wr gs 56 (slotC n S) ∧ Hid (∀ j x, j < k → (slotsOf l f)[j]? = some x → S j = x) ∧ Below w.heap.size w wr) (fun i _ => n - (intOf i).toNat)
    case atStart => exact ⟨0, _, Nat.zero_le _, rfl, HA5.out, HS5.out, Lib.hid (fun j x hj => by omega), B5.out⟩
    case round =>
      clear HA5 HS5 B5
      obtain ⟨k, S, hk, rfl, ha, hs, HSS, HW⟩ := hrel
      have HA := Lib.hid ha
      have HS := Lib.hid hs
      have HWW := Lib.hid HW
      have hws := HW.size
      by_cases hlt : k < n
      · obtain ⟨p, hp, _⟩ := drop_at (xs := l) (k := k) (by rw [Hlen.out]; exact hlt)
        obtain ⟨g1, o1, rfl, hg1, hc1⟩ := (Hl.out.below HW).2 (by omega)
        have q0 := hc1 k p hp 0 (by omega)
        have q1 := hc1 k p hp 1 (by omega)
        simp only [Claim.cell, Nat.add_zero] at q0 q1
        have hfb := HFB.out k p hp
        have hpb := H4.out p (List.mem_of_getElem? hp)
        obtain ⟨q, hq⟩ := Int.eq_ofNat_of_zero_le (show 0 ≤ p.cnt by omega)
        obtain ⟨fi, hfi⟩ := Int.eq_ofNat_of_zero_le hfb.1
        have hSl : (slotsOf l f)[k]? = some ⟨p.win, fi, q⟩ := by
          unfold slotsOf
          rw [List.getElem?_zipWith, hp]
          have : f[k]? = some (fi : Int) := by
            have hkf : k < f.length := by rw [Hfl.out]; exact hlt
            rw [List.getElem?_eq_getElem hkf]
            unfold nth at hfi
            rw [List.getD_eq_getElem?_getD, List.getElem?_eq_getElem hkf] at hfi
            rw [← hfi]; rfl
          rw [this, ← hq]
        have HSL := Lib.hid hSl
        have HFN := Eqn.mk (fixP_next (n := n) Hfl.out hlt)
        have HT := Lib.hid (HTS.out k hlt)
        rw [hq] at q1 hfb hpb
        rw [hfi] at hfb HFN HT
        have lg1 : g1 < wr.heap.size := by omega
        have j0 : (k : Int) < (n : Int) := by omega
        have BA : Hid (Below w.heap.size w (wr.alloc (.cells #[.int .i64 p.win, .int .i64 (q : Int)] 59))) := Lib.hid (HW.alloc hws _)
        have AA : Hid (AreaO (wr.alloc (.cells #[.int .i64 p.win, .int .i64 (q : Int)] 59)) w.heap.size g gf gt N n (some ⟨g1, o1, none⟩) c l FF (fixP n f k)) := Lib.hid (ha.keep ((Below.refl _ _).alloc (Nat.le_refl _) _))
        have SA : Hid (Blk (wr.alloc (.cells #[.int .i64 p.win, .int .i64 (q : Int)] 59)) gs 56 (slotC n S)) := Lib.hid (hs.alloc _)
        have CA : Hid (Blk (wr.alloc (.cells #[.int .i64 p.win, .int .i64 (q : Int)] 59)) wr.heap.size 59 [.int .i64 p.win, .int .i64 (q : Int)]) := Lib.hid (blk_new wr _ _)
        have hgw : gs < wr.heap.size := hs.lt
        have hgfw : gf < wr.heap.size := ha.fb.lt
        obtain ⟨wo, rfl⟩ : ∃ wo : World, wo = wr := ⟨_, rfl⟩
        clear hc1 hp hq hfi hSl ha hs HW HA HS HWW
        have hgo : gs ≠ wo.heap.size := Nat.ne_of_lt hgw
        have hgfo : gf ≠ wo.heap.size := Nat.ne_of_lt hgfw
        go_wp2_with fail
        go_loopw [15] (fun i wi => ∃ (s : Nat) (fx : List Int), s ≤ fi ∧ i = .int .i64 s ∧ AreaO wi w.heap.size g gf gt N n (some ⟨g1, o1, none⟩) c l FF fx ∧ Hid (∀ t, fx.set k t = (fixP n f k).set k t) ∧ Blk wi gs 56 (slotC n S) ∧ Blk wi wo.heap.size 59 [.int .i64 p.win, .int .i64 (q : Int)] ∧ Below w.heap.size w wi) (fun i _ => fi + 1 - (intOf i).toNat)
        case atStart => exact ⟨0, _, Nat.zero_le _, rfl, AA.out, Lib.hid (fun _ => rfl), SA.out, CA.out, BA.out⟩
        case round =>
          clear AA SA CA BA
          obtain ⟨s, fx, hsf, rfl, ha, HFX, hs, hcp, HW⟩ := hrel
          have u1 := hcp.cell (i := 1) rfl
          have z3 := ha.c3
          obtain ⟨xx, hxx⟩ : ∃ xx, fx[k]? = some xx := ⟨_, List.getElem?_eq_getElem (by rw [ha.fl]; exact hlt)⟩
          have z4 := ha.fb.cell (i := k) (x := .int .i64 xx) (by rw [List.getElem?_map, hxx]; rfl)
          have f4 := ha.fb.frozen k
          have l4 := ha.fb.lt
          have ha2 := ha.set k s
          rw [HFX.out] at ha2
          have HA2 := Lib.hid ha2
          have HS2 := Lib.hid (hs.other ⟨gf, k, none⟩ (.int .i64 (s : Int)) (Ne.symm hgs2))
          have HC2 := Lib.hid (hcp.other ⟨gf, k, none⟩ (.int .i64 (s : Int)) hgfo)
          have HB2 : Hid (Below w.heap.size w (wr.setCell ⟨gf, k, none⟩ (.int .i64 (s : Int)))) := Lib.hid (HW.setCell ha.ne.2.2.2.1 _)
          have t1 : (s : Int) + (q : Int) ≤ (N : Int) := by omega
          have hts := HT.out s
          obtain ⟨qq, hqq⟩ : ∃ qq, dpT n N (cnOf l) (nth ((fixP n f k).set k (s : Int))) (valOf (rowsOf n FF)) N 0 (2 ^ n - 1) = qq := ⟨_, rfl⟩
          rw [hqq] at hts
          have HQQ := Eqn.mk hqq
          obtain ⟨qv, qn⟩ := qq
          dsimp only at hts
          have HTS2 := Lib.hid hts
          obtain ⟨wi, rfl⟩ : ∃ wi : World, wi = wr := ⟨_, rfl⟩
          clear ha ha2 hs hcp HW hxx hqq hts HFX
          go_wp2_with fail
          refine (HSV.out g _ _ HA2.out.at).mono ?_
          rw [HQQ.out]
          rintro e w5 ⟨rfl, hb5⟩
          have HA5 := Lib.hid (HA2.out.keep hb5)
          have HS5 := Lib.hid (HS2.out.keep hb5)
          have HC5 := Lib.hid (HC2.out.keep hb5)
          have HB5 := Lib.hid (HB2.out.trans (hb5.mono HB2.out.size))
          clear hb5 HA2 HS2 HC2 HB2 z3 z4 f4 l4 u1
          simp only [v2n]
          by_cases hse : s = fi
          · obtain ⟨hpos, hqv⟩ := HTS2.out.1 (by omega)
            subst hse
            subst hqv
            have t2 : (qv == qv) = true := by simp
            have HA6 : Hid (AreaO w5 w.heap.size g gf gt N n (some ⟨g1, o1, none⟩) c l FF (fixP n f (k + 1))) := Lib.hid (by rw [← HFN.out]; exact HA5.out)
            have u0 := HC5.out.cell (i := 0) rfl
            have u1 := HC5.out.cell (i := 1) rfl
            have z3 := HA5.out.c3
            have z4 := HA5.out.fb.cell (i := k) (x := .int .i64 (s : Int)) (by rw [List.getElem?_map, List.getElem?_set_self (by rw [fixP_len Hfl.out (by omega)]; exact hlt)]; rfl)
            have y0 := HS5.out.cell (tabL_at (show k * 3 < n * 3 by omega))
            have y1 := HS5.out.cell (tabL_at (show k * 3 + 1 < n * 3 by omega))
            have y2 := HS5.out.cell (tabL_at (show k * 3 + 2 < n * 3 by omega))
            have x0 := HS5.out.frozen (k * 3)
            have x1 := HS5.out.frozen (k * 3 + 1)
            have x2 := HS5.out.frozen (k * 3 + 2)
            have l5 := HS5.out.lt
            generalize (S (k * 3 / 3)).cell (k * 3 % 3) = yv0 at y0
            generalize (S ((k * 3 + 1) / 3)).cell ((k * 3 + 1) % 3) = yv1 at y1
            generalize (S ((k * 3 + 2) / 3)).cell ((k * 3 + 2) % 3) = yv2 at y2
            have HSS2 : Hid (∀ j x, j < k + 1 → (slotsOf l f)[j]? = some x → updS S k ⟨p.win, s, q⟩ j = x) := Lib.hid (fun j x hj hx => by
              unfold updS
              by_cases e : j = k
              · subst e
                rw [if_pos rfl]
                rw [HSL.out] at hx
                injection hx with hx
              · rw [if_neg e]
                exact HSS.out j x (by omega) hx)
            clear HA5 HTS2 HSS
            go_wp2_with fail
            refine Lx.region (C := fun _ => True) (hs := []) (by kernel_rfl) (by kernel_rfl) trivial ?_
            repeat' (first
              | (refine Lx.lex_no (Lx.n1 rfl rfl rfl (by with_reducible rfl)) (fun K hK => ?_); go_simp; refine hK _ ?_; clear hK K)
              | (refine Lx.lex_no (Lx.n0 rfl rfl rfl (by with_reducible rfl)) (fun K hK => ?_); go_simp; refine hK _ ?_; clear hK K)
              | (refine Lx.lex_no (Lx.n2 rfl rfl rfl) (fun K hK => ?_); go_simp; refine hK _ ?_; clear hK K)
              | (refine Lx.lex_pure (v := ?_) rfl (by first | exact Lx.w0 rfl | exact Lx.w1 rfl rfl rfl (by with_reducible rfl)) ?_ (fun K hK => ?_); rotate_left 1; (intro w' hCw; (try dsimp only at hCw); go_simp; done); go_simp; refine hK _ ?_; clear hK K)
              | (refine Lx.lex_pure (v := ?_) rfl (by first | exact Lx.w0 rfl | exact Lx.w1 rfl rfl rfl (by with_reducible rfl)) ?_ (fun K hK => ?_); rotate_left 1; (intro w' hCw; (try dsimp only at hCw); go_simp; with_reducible rfl); go_simp; refine hK _ ?_; clear hK K)
              | (refine Lx.lex_read (v := ?_) rfl (by first | exact Lx.w0 rfl | exact Lx.w1 rfl rfl rfl (by with_reducible rfl)) ?_ (fun K hK => ?_); rotate_left 1; (go_simp; done); go_simp; refine hK _ ?_; clear hK K)
              | (refine Lx.lex_read (v := ?_) rfl (by first | exact Lx.w0 rfl | exact Lx.w1 rfl rfl rfl (by with_reducible rfl)) ?_ (fun K hK => ?_); rotate_left 1; (go_simp; with_reducible rfl); go_simp; refine hK _ ?_; clear hK K)
              | (refine Lx.lex_eff rfl (by first | exact Lx.w0 rfl | exact Lx.w1 rfl rfl rfl (by with_reducible rfl)) (fun K hK => ?_); go_simp; (first | fail | skip); refine hK _ _ (trivial) ?_; clear hK K)
              | (refine Lx.lex_cases rfl rfl rfl (fun hgd K hK => ?_) (fun hgd K hK => ?_) <;> (try simp only [decide_eq_true_eq, decide_eq_false_iff_not] at hgd) <;> (first | (exfalso; omega) | (go_simp; refine hK _ ?_; clear hK K))))
            all_goals (refine Lx.lex_nil ?_)
            go_wp2_with fail
            go_roundw
            case rel => exact ⟨k + 1, updS S k ⟨p.win, s, q⟩, by omega, by go_num, ((((HA6.out.other _ hgs1 hgs2 hgs3 hgs4).other _ hgs1 hgs2 hgs3 hgs4).other _ hgs1 hgs2 hgs3 hgs4).keep (Below.refl _ _).drew), (slotC_set HS5.out k ⟨p.win, s, q⟩).drew, HSS2, (((HB5.out.setCell hgs4 _).setCell hgs4 _).setCell hgs4 _).drew⟩
            case measure => simp only [intOf]; omega
          · have hnt := HTS2.out.2 (by omega)
            have hcase : qn ≤ 0 ∨ (0 < qn ∧ (qv == v) = false) := by
              rcases Int.lt_or_le 0 qn with h | h
              · exact .inr ⟨h, by simpa using fun e => hnt ⟨h, e⟩⟩
              · exact .inl h
            have HFX2 : Hid (∀ t, ((fixP n f k).set k (s : Int)).set k t = (fixP n f k).set k t) := Lib.hid (fun t => List.set_set ..)
            clear HTS2 hnt
            rcases hcase with h1 | ⟨h1, h2⟩
            · go_wp2_with fail
              go_roundw
              case rel => exact ⟨s + 1, _, by omega, by go_num, HA5.out, HFX2, HS5.out, HC5.out, HB5.out⟩
              case measure => simp only [intOf]; omega
            · go_wp2_with fail
              go_roundw
              case rel => exact ⟨s + 1, _, by omega, by go_num, HA5.out, HFX2, HS5.out, HC5.out, HB5.out⟩
              case measure => simp only [intOf]; omega
      · obtain rfl : k = n := by omega
        have hsl : (slotsOf l f).length = k := by unfold slotsOf; rw [List.length_zipWith, Hlen.out, Hfl.out, Nat.min_self]
        have HRW := Lib.hid (slotC_rows (D := wr.heap.size) hs hs.lt hsl (fun i x hx => HSS.out i x (by rw [← hsl]; exact (List.getElem?_eq_some_iff.1 hx).1) hx))
        have HSLn := Eqn.mk hsl
        clear ha hs HW HA HS hsl
        go_wp2_with fail
        go_ret3
        rw [HF.out]
        exact ⟨some ⟨gs, 0, none⟩, k, by rw [HSLn.out]; rfl, by rw [HSLn.out]; exact HRW.out, HWW.out⟩
end Go.Proofs.Yteckijkmcafpaaa
