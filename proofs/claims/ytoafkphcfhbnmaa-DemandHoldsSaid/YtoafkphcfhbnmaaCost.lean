/- Contracts of demand.Cost and of the reference's Prices and Cost. -/
import Derived.Test.YtoafkphcfhbnmaaRef34A
namespace Go.Proofs.Ytoafkphcfhbnmaa
open Go.RowKit

def pricesOk : List Int → Bool
  | [] => true
  | p :: r => if p < 0 ∨ 549755813888 < p then false else pricesOk r
theorem pricesOk_mem : ∀ (l : List Int), pricesOk l = true → ∀ x ∈ l, 0 ≤ x ∧ x ≤ 549755813888 := by
  intro l
  induction l with
  | nil => intro _ x hx; cases hx
  | cons p r ih =>
    intro h x hx
    rw [pricesOk] at h
    split at h
    · cases h
    · rcases List.mem_cons.1 hx with rfl | hx
      · omega
      · exact ih h x hx

/-- Cost: the sum and an error -/
def costF (l : List Prod) (ps bs : List Int) : Int × Int := if dValid l bs = true ∧ ps.length = l.length ∧ pricesOk ps = true then (sumGo ps bs 0, 0) else (0, 2)
def v2' (x : Int × Int) : Value := .tuple #[.int .i64 x.1, .int .i64 x.2]

set_option maxHeartbeats 1000000 in
theorem cost_any (A P B : Option Addr) (n c m d q cq : Nat) (w : World) (l : List Prod) (ps bs : List Int) (hn : n ≤ 140) (hq : q ≤ 9223372036854775807) (hl : RowS 5 Prod.cell w w.heap.size A n l) (hp : Row1 intV w w.heap.size P q ps) (hb : Row1 intV w w.heap.size B m bs) :
    Calls Try.prog 17 #[.slice A n c, .slice P q cq, .slice B m d] w (RetPost (v2' (costF l ps bs)) w.heap.size w) := by
  have Hl := Lib.hid hl
  have Hb := Lib.hid hb
  have Hp := Lib.hid hp
  have Hlen := Eqn.mk hl.1
  have Hblen := Eqn.mk hb.1
  have Hplen := Eqn.mk hp.1
  clear hl hb hp
  cases hv : dValid l bs with
  | false =>
    have HV := Eqn.mk hv
    have HF : Eqn (costF l ps bs) (0, 2) := by unfold costF Eqn; rw [if_neg (by rw [hv]; simp)]
    clear hv
    go_enter Try.func17, Try.ntmps17
    go_wp2_with fail
    refine (dValid_any A B n c m d _ l bs hn Hl.out Hb.out).mono ?_
    rw [HV.out]
    rintro e w1 ⟨rfl, hb1⟩
    go_wp2_with fail
    go_ret2
    exact ⟨by rw [HF.out]; rfl, hb1⟩
  | true =>
    have HV := Eqn.mk hv
    by_cases hqn : q = n
    · subst hqn
      have HS : Hid (Sane l bs) := by
        unfold dValid at hv; rw [Bool.and_eq_true] at hv; exact sane_of hv.1 hv.2
      have Hmq : Eqn m q := by have := HS.out.1; rw [Hlen.out, Hblen.out] at this; exact this.symm
      have HF : Eqn (costF l ps bs) (if pricesOk ps = true then (sumGo ps bs 0, 0) else (0, 2)) := by
        unfold costF Eqn; rw [hv, Hlen.out, Hplen.out]; simp
      have h0 : ((q : Int) != (q : Int)) = false := by simp
      clear hv
      go_enter Try.func17, Try.ntmps17
      go_wp2_with fail
      refine (dValid_any A B q c m d _ l bs hn Hl.out Hb.out).mono ?_
      rw [HV.out]
      rintro e w1 ⟨rfl, hb1⟩
      have B1 := Lib.hid hb1
      have HP1 := Lib.hid (Hp.out.below hb1)
      have HB1 := Lib.hid (Hb.out.below hb1)
      clear hb1
      go_wp2_with fail
      go_loop [8, 24] (fun t i => ∃ (k : Nat) (acc : Int), k ≤ q ∧ i = .int .i64 k ∧ t = .int .i64 acc ∧ 0 ≤ acc ∧ acc ≤ k * 6597069766656 ∧ Eqn (pricesOk ps) (pricesOk (ps.drop k)) ∧ Eqn (sumGo ps bs 0) (sumGo (ps.drop k) (bs.drop k) acc)) (fun _ i => q - (intOf i).toNat)
      case atStart => exact ⟨0, 0, Nat.zero_le _, rfl, rfl, Int.le_refl _, by omega, rfl, rfl⟩
      case round =>
        obtain ⟨k, acc, hk, rfl, rfl, ha0, ha1, HA, HR⟩ := hrel
        by_cases hlt : k < q
        · obtain ⟨p, hp, hpd⟩ := drop_at (xs := ps) (k := k) (by rw [Hplen.out]; exact hlt)
          obtain ⟨y, hy, hyd⟩ := drop_at (xs := bs) (k := k) (by rw [Hblen.out, Hmq.out]; exact hlt)
          obtain ⟨b, off, rfl, hbl, hc⟩ := HP1.out.2 (by omega)
          obtain ⟨b', off', rfl, hbl', hc'⟩ := HB1.out.2 (by rw [Hmq.out]; omega)
          have c1 := hc k p hp
          have c2 := hc' k y hy
          simp only [intV] at c1 c2
          obtain ⟨z, hz⟩ : ∃ z, l[k]? = some z := ⟨_, List.getElem?_eq_getElem (by rw [Hlen.out]; exact hlt)⟩
          obtain ⟨g1, g2, _, _⟩ := HS.out.2 k z y hz hy
          have hkm : (k : Int) < (m : Int) := by rw [Hmq.out]; omega
          have HA' : Eqn (pricesOk ps) (if p < 0 ∨ 549755813888 < p then false else pricesOk (ps.drop (k + 1))) := by
            have := HA.out; rw [hpd, pricesOk] at this; exact this
          have HR' : Eqn (sumGo ps bs 0) (sumGo (ps.drop (k + 1)) (bs.drop (k + 1)) (acc + p * y)) := by
            have := HR.out; rw [hpd, hyd, sumGo] at this; exact this
          by_cases hp0 : p < 0 ∨ 549755813888 < p
          · have HF' : Eqn (costF l ps bs) (0, 2) := by rw [Eqn, HF.out, HA'.out, if_pos hp0]; rfl
            clear hc hc' hp hpd hy hyd HR HA hz
            rcases hp0 with hp0 | hp0
            all_goals
              go_wp2
              all_goals
                go_ret2
                exact ⟨by rw [HF'.out]; rfl, B1.out⟩
          · have n1 : ¬ p < 0 := by omega
            have n2 : ¬ 549755813888 < p := by omega
            obtain ⟨m1, m2⟩ := mul_le2 p y 549755813888 12 (by omega) (by omega) g1 g2
            have HA2 : Eqn (pricesOk ps) (pricesOk (ps.drop (k + 1))) := by rw [Eqn, HA'.out, if_neg hp0]
            clear hc hc' hp hpd hy hyd HR HA HA' hp0 hz
            go_wp2
            go_round
            case rel => exact ⟨k + 1, acc + p * y, by omega, by go_num, rfl, by omega, by omega, HA2, HR'⟩
            case measure => simp [intOf]; omega
        · have : k = q := by omega
          subst this
          have HA2 : Eqn (pricesOk ps) true := by rw [Eqn, HA.out, drop_end (by rw [Hplen.out]; omega)]; rfl
          have HR2 : Eqn (sumGo ps bs 0) acc := by rw [Eqn, HR.out, drop_end (xs := ps) (by rw [Hplen.out]; omega)]; rfl
          clear HA HR
          go_wp2
          go_ret2
          exact ⟨by rw [HF.out, HA2.out, HR2.out]; rfl, B1.out⟩
    · have HF : Eqn (costF l ps bs) (0, 2) := by unfold costF Eqn; rw [if_neg (by rw [Hplen.out, Hlen.out]; exact fun h => hqn h.2.1)]
      have h0 : ((q : Int) != (n : Int)) = true := by simp; omega
      clear hv
      go_enter Try.func17, Try.ntmps17
      go_wp2_with fail
      refine (dValid_any A B n c m d _ l bs hn Hl.out Hb.out).mono ?_
      rw [HV.out]
      rintro e w1 ⟨rfl, hb1⟩
      go_wp2_with fail
      go_ret2
      exact ⟨by rw [HF.out]; rfl, hb1⟩

set_option maxHeartbeats 1000000 in
theorem prices_any (P : Option Addr) (q cq : Nat) (many : Int) (w : World) (D : Nat) (ps : List Int) (hq : q ≤ 9223372036854775807) (hp : Row1 intV w D P q ps) :
    Calls Try.prog 39 #[.slice P q cq, .int .i64 many] w fun e w' => e = .returned (.bool (pricesOk ps && decide ((q : Int) = many))) ∧ w = w' := by
  have Hp := Lib.hid hp
  have Hplen := Eqn.mk hp.1
  clear hp
  go_enter Try.func39, Try.ntmps39
  go_wp2
  go_loop [5] (fun i => ∃ k : Nat, k ≤ q ∧ i = .int .i64 k ∧ Eqn (pricesOk ps) (pricesOk (ps.drop k))) (fun i => q - (intOf i).toNat)
  case atStart => exact ⟨0, Nat.zero_le _, rfl, rfl⟩
  case round =>
    obtain ⟨k, hk, rfl, HA⟩ := hrel
    by_cases hlt : k < q
    · obtain ⟨p, hp, hpd⟩ := drop_at (xs := ps) (k := k) (by rw [Hplen.out]; exact hlt)
      obtain ⟨b, off, rfl, hbl, hc⟩ := Hp.out.2 (by omega)
      have c1 := hc k p hp
      simp only [intV] at c1
      have HA' : Eqn (pricesOk ps) (if p < 0 ∨ 549755813888 < p then false else pricesOk (ps.drop (k + 1))) := by
        have := HA.out; rw [hpd, pricesOk] at this; exact this
      clear hc hp hpd HA
      by_cases hp0 : p < 0 ∨ 549755813888 < p
      · have HA2 : Eqn (pricesOk ps) false := by rw [Eqn, HA'.out, if_pos hp0]
        rcases hp0 with hp0 | hp0
        all_goals
          go_wp2
          all_goals
            go_ret
            exact ⟨ret_bool (by rw [HA2.out]; rfl), rfl⟩
      · have n1 : ¬ p < 0 := by omega
        have n2 : ¬ 549755813888 < p := by omega
        have HA2 : Eqn (pricesOk ps) (pricesOk (ps.drop (k + 1))) := by rw [Eqn, HA'.out, if_neg hp0]
        clear HA' hp0
        go_wp2
        go_round
        case rel => exact ⟨k + 1, by omega, by go_num, HA2⟩
        case measure => simp [intOf]; omega
    · have : k = q := by omega
      subst this
      have HA2 : Eqn (pricesOk ps) true := by rw [Eqn, HA.out, drop_end (by rw [Hplen.out]; omega)]; rfl
      clear HA
      go_wp2
      go_ret
      exact ⟨ret_bool (by rw [HA2.out]; simp [Bool.beq_eq_decide_eq]), rfl⟩

set_option maxHeartbeats 1000000 in
theorem rcost_any (A P B : Option Addr) (n c m d q cq : Nat) (w : World) (l : List Prod) (ps bs : List Int) (hn : n ≤ 140) (hq : q ≤ 9223372036854775807) (hl : RowS 5 Prod.cell w w.heap.size A n l) (hp : Row1 intV w w.heap.size P q ps) (hb : Row1 intV w w.heap.size B m bs) :
    Calls Try.prog 18 #[.slice A n c, .slice P q cq, .slice B m d] w (RetPost (v2' (costF l ps bs)) w.heap.size w) := by
  have Hl := Lib.hid hl
  have Hb := Lib.hid hb
  have Hp := Lib.hid hp
  have Hlen := Eqn.mk hl.1
  have Hblen := Eqn.mk hb.1
  have Hplen := Eqn.mk hp.1
  clear hl hb hp
  cases hv : dValid l bs with
  | false =>
    have HV := Eqn.mk hv
    have HF : Eqn (costF l ps bs) (0, 2) := by unfold costF Eqn; rw [if_neg (by rw [hv]; simp)]
    clear hv
    go_enter Try.func18, Try.ntmps18
    go_wp2_with fail
    refine (rdValid_any A B n c m d _ l bs hn Hl.out Hb.out).mono ?_
    rw [HV.out]
    rintro e w1 ⟨rfl, hb1⟩
    go_wp2_with fail
    go_ret2
    exact ⟨by rw [HF.out]; rfl, hb1⟩
  | true =>
    have HV := Eqn.mk hv
    have HS : Hid (Sane l bs) := by
      unfold dValid at hv; rw [Bool.and_eq_true] at hv; exact sane_of hv.1 hv.2
    have hmn : m ≤ 140 := by have := HS.out.1; rw [Hlen.out, Hblen.out] at this; omega
    cases hpo : (pricesOk ps && decide ((q : Int) = (n : Int))) with
    | false =>
      have HF : Eqn (costF l ps bs) (0, 2) := by
        unfold costF Eqn; rw [if_neg (fun h => by rw [h.2.2, decide_eq_true (by rw [← Hplen.out, ← Hlen.out]; exact congrArg _ h.2.1)] at hpo; simp at hpo)]
      have HPO := Eqn.mk hpo
      clear hv hpo
      go_enter Try.func18, Try.ntmps18
      go_wp2_with fail
      refine (rdValid_any A B n c m d _ l bs hn Hl.out Hb.out).mono ?_
      rw [HV.out]
      rintro e w1 ⟨rfl, hb1⟩
      have B1 := Lib.hid hb1
      clear hb1
      go_wp2_with fail
      refine (prices_any P q cq n _ w.heap.size ps hq (Hp.out.below B1.out)).mono ?_
      rw [HPO.out]
      rintro e w' ⟨rfl, rfl⟩
      go_wp2_with fail
      go_ret2
      exact ⟨by rw [HF.out]; rfl, B1.out⟩
    | true =>
      have hpo2 := hpo
      rw [Bool.and_eq_true, decide_eq_true_eq] at hpo2
      have HF : Eqn (costF l ps bs) (sumGo ps bs 0, 0) := by
        unfold costF Eqn; rw [if_pos ⟨hv, by rw [Hplen.out, Hlen.out]; have := hpo2.2; omega, hpo2.1⟩]
      have hsm : Hid (SmallM ps bs 549755813888 12) := by
        intro k x y hx hy
        have h1 := pricesOk_mem ps hpo2.1 x (List.mem_of_getElem? hx)
        have hkl : k < l.length := by rw [HS.out.1]; exact (List.getElem?_eq_some_iff.1 hy).1
        have h2 := HS.out.2 k _ y (List.getElem?_eq_getElem hkl) hy
        omega
      have hq2 : q ≤ 140 := by have := hpo2.2; omega
      have HPO := Eqn.mk hpo
      clear hv hpo hpo2
      go_enter Try.func18, Try.ntmps18
      go_wp2_with fail
      refine (rdValid_any A B n c m d _ l bs hn Hl.out Hb.out).mono ?_
      rw [HV.out]
      rintro e w1 ⟨rfl, hb1⟩
      have B1 := Lib.hid hb1
      clear hb1
      go_wp2_with fail
      refine (prices_any P q cq n _ w.heap.size ps hq (Hp.out.below B1.out)).mono ?_
      rw [HPO.out]
      rintro e w' ⟨rfl, rfl⟩
      go_wp2_with fail
      refine (sum_any P B q cq m d _ ps bs 549755813888 12 6597069766656 (by omega) (by omega) (by omega) hq2 (by omega) (Hp.out.keep B1.out) (Hb.out.keep B1.out) hsm.out).mono ?_
      rintro e w3 ⟨rfl, hb3⟩
      go_wp2
      go_ret2
      exact ⟨by rw [HF.out]; rfl, B1.out.trans (hb3.mono B1.out.size)⟩
end Go.Proofs.Ytoafkphcfhbnmaa
