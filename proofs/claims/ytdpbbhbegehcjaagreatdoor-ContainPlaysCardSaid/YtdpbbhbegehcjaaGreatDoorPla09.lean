/- The contracts of problem.members and problem.Valid. -/
import Derived.Deep.CutBlock
import Derived.Test.YtdpbbhbegehcjaaGreatDoorPla03
import Derived.Test.YtdpbbhbegehcjaaGreatDoorPla04
import Derived.Test.YtdpbbhbegehcjaaGreatDoorPla08
set_option maxRecDepth 100000
set_option maxHeartbeats 4000000
namespace Go.Proofs.YtdpbbhbegehcjaaGreatDoor
open Go.RowKit
def chGood (c : Int) : Bool := decide (2 ≤ c) && decide (c ≤ 51)
def goodD (d : Dom) : Bool := stF d.st && d.chs.all chGood && incF cmpF d.chs
def validD (ds : List Dom) (r : Rul) : Bool := ds.all goodD && rulesF r && incF (fun x y => cmpF x.st y.st) ds
def validP (ds : List Dom) (r : Rul) : Bool := validD ds r && (r.pairs.all (fun x => hasS (stS (ds.map Dom.st)) x.a && hasS (stS (ds.map Dom.st)) x.b) && (r.loads.all (fun x => hasS (stS (ds.map Dom.st)) x.a && hasS (stS (ds.map Dom.st)) x.b) && r.caps.all (fun x => hasS (stS (ds.map Dom.st)) x.a)))
theorem cmpF_less (x y : Int) : decide (0 ≤ cmpF x y) = !lessL [x] [y] := by
 unfold cmpF
 by_cases h1 : x < y
 ·rw [if_pos h1]
  have : x ≠ y := by omega
  simp [lessL, this, h1]
 ·rw [if_neg h1]
  by_cases h2 : y < x
  ·rw [if_pos h2]
   have : x ≠ y := by omega
   simp [lessL, this, h1]
  ·rw [if_neg h2]
   have : x = y := by omega
   simp [lessL, this]
theorem less_one (x y : Int) : lessL [x] [y] = true ↔ x < y := by
 by_cases h : x = y
 ·simp [lessL, h]
 ·simp [lessL, h]
theorem inc_cmpF (l : List Int) : incF cmpF l = true ↔ l.Pairwise (· < ·) := by
 rw [incF_pair cmpF (fun x => [x]) cmpF_less]
 simp only [less_one]
theorem inc_st (l : List Dom) : incF (fun x y : Dom => cmpF x.st y.st) l = true ↔ l.Pairwise (fun x y => x.st < y.st) := by
 rw [incF_pair (fun x y : Dom => cmpF x.st y.st) (fun x => [x.st]) (fun x y => cmpF_less x.st y.st)]
 simp only [less_one]
theorem inc_len : ∀ (l : List Int) (a b : Int), a ≤ b + 1 → l.Pairwise (· < ·) → (∀ x ∈ l, a ≤ x ∧ x ≤ b) → (l.length : Int) ≤ b - a + 1 := by
 intro l
 induction l with
 | nil => intro a b h _ _; simp; omega
 | cons x r ih =>
  intro a b h hp hb
  obtain ⟨h1, h2⟩ := List.pairwise_cons.1 hp
  have hx := hb x (by simp)
  have := ih (x + 1) b (by omega) h2 (fun y hy => ⟨by have := h1 y hy; omega, (hb y (by simp [hy])).2⟩)
  simp only [List.length_cons]
  omega
theorem chIn_iff : ∀ (l : List Int) (p : Option Int), chIn p l = true ↔ (∀ x ∈ l, 2 ≤ x ∧ x ≤ 51 ∧ (∀ q, p = some q → q < x)) ∧ l.Pairwise (· < ·) := by
 intro l
 induction l with
 | nil => intro p; simp [chIn]
 | cons x r ih =>
  intro p
  rw [chIn]
  by_cases hb : x < 2 ∨ 51 < x ∨ notUp p x = true
  ·rw [if_pos hb]
   refine ⟨fun h => (by cases h), fun h => ?_⟩
   obtain ⟨h1, h2, h3⟩ := h.1 x (by simp)
   rcases hb with hb | hb | hb
   ·omega
   ·omega
   ·cases p with
    | none => cases hb
    | some q => have := h3 q rfl; simp [notUp] at hb; omega
  ·rw [if_neg hb, ih]
   have hx2 : ¬ x < 2 := fun h => hb (.inl h)
   have hx5 : ¬ 51 < x := fun h => hb (.inr (.inl h))
   have hxp : ∀ q, p = some q → q < x := by
    rintro q rfl
    have : ¬ notUp (some q) x = true := fun h => hb (.inr (.inr h))
    simp [notUp] at this
    exact this
   constructor
   ·rintro ⟨h1, h2⟩
    refine ⟨fun y hy => ?_, List.pairwise_cons.2 ⟨fun y hy => (h1 y hy).2.2 x rfl, h2⟩⟩
    rcases List.mem_cons.1 hy with rfl | hy
    ·exact ⟨by omega, by omega, hxp⟩
    ·obtain ⟨g1, g2, g3⟩ := h1 y hy
     exact ⟨g1, g2, fun q hq => Int.lt_trans (hxp q hq) (g3 x rfl)⟩
   ·rintro ⟨h1, h2⟩
    obtain ⟨h3, h4⟩ := List.pairwise_cons.1 h2
    refine ⟨fun y hy => ?_, h4⟩
    obtain ⟨g1, g2, _⟩ := h1 y (by simp [hy])
    exact ⟨g1, g2, fun q hq => (by cases hq; exact h3 y hy)⟩
theorem chIn_good (l : List Int) : chIn none l = (l.all chGood && incF cmpF l) := by
 rw [Bool.eq_iff_iff, chIn_iff, Bool.and_eq_true, inc_cmpF, List.all_eq_true]
 constructor
 ·rintro ⟨h1, h2⟩
  refine ⟨fun x hx => ?_, h2⟩
  obtain ⟨g1, g2, _⟩ := h1 x hx
  simp [chGood, g1, g2]
 ·rintro ⟨h1, h2⟩
  refine ⟨fun x hx => ?_, h2⟩
  have := h1 x hx
  simp only [chGood, Bool.and_eq_true, decide_eq_true_eq] at this
  exact ⟨this.1, this.2, fun q hq => (by cases hq)⟩
theorem chIn_len {l : List Int} (h : chIn none l = true) : l.length ≤ 50 := by
 obtain ⟨h1, h2⟩ := (chIn_iff l none).1 h
 have := inc_len l 2 51 (by omega) h2 (fun x hx => ⟨(h1 x hx).1, (h1 x hx).2.1⟩)
 omega
theorem domGo_iff : ∀ (l : List Dom) (p : Option Int), domGo p l = true ↔ (∀ d ∈ l, stF d.st = true ∧ (∀ q, p = some q → q < d.st) ∧ d.len ≤ 50 ∧ chIn none d.chs = true) ∧ l.Pairwise (fun x y => x.st < y.st) := by
 intro l
 induction l with
 | nil => intro p; simp [domGo]
 | cons d r ih =>
  intro p
  rw [domGo]
  by_cases hb : stF d.st = false ∨ notUp p d.st = true ∨ 50 < d.len
  ·rw [if_pos hb]
   refine ⟨fun h => (by cases h), fun h => ?_⟩
   obtain ⟨h1, h2, h3, _⟩ := h.1 d (by simp)
   rcases hb with hb | hb | hb
   ·rw [h1] at hb; cases hb
   ·cases p with
    | none => cases hb
    | some q => have := h2 q rfl; simp [notUp] at hb; omega
   ·omega
  ·rw [if_neg hb]
   have hs : stF d.st = true := by
    cases h : stF d.st with
    | true => rfl
    | false => exact absurd (.inl h) hb
   have hl : d.len ≤ 50 := by have : ¬ 50 < d.len := fun h => hb (.inr (.inr h)); omega
   have hxp : ∀ q, p = some q → q < d.st := by
    rintro q rfl
    have : ¬ notUp (some q) d.st = true := fun h => hb (.inr (.inl h))
    simp [notUp] at this
    exact this
   cases hc : chIn none d.chs with
   | false =>
    simp only [Bool.false_eq_true, if_false]
    refine ⟨fun h => (by cases h), fun h => ?_⟩
    have := (h.1 d (by simp)).2.2.2
    rw [hc] at this
    cases this
   | true =>
    simp only [if_true]
    rw [ih]
    constructor
    ·rintro ⟨h1, h2⟩
     refine ⟨fun y hy => ?_, List.pairwise_cons.2 ⟨fun y hy => (h1 y hy).2.1 d.st rfl, h2⟩⟩
     rcases List.mem_cons.1 hy with rfl | hy
     ·exact ⟨hs, hxp, hl, hc⟩
     ·obtain ⟨g1, g2, g3, g4⟩ := h1 y hy
      exact ⟨g1, fun q hq => Int.lt_trans (hxp q hq) (g2 d.st rfl), g3, g4⟩
    ·rintro ⟨h1, h2⟩
     obtain ⟨h3, h4⟩ := List.pairwise_cons.1 h2
     refine ⟨fun y hy => ?_, h4⟩
     obtain ⟨g1, _, g3, g4⟩ := h1 y (by simp [hy])
     exact ⟨g1, fun q hq => (by cases hq; exact h3 y hy), g3, g4⟩
theorem domGo_good {l : List Dom} (hl : ∀ d ∈ l, d.len = d.chs.length) : domGo none l = (l.all goodD && incF (fun x y => cmpF x.st y.st) l) := by
 rw [Bool.eq_iff_iff, domGo_iff, Bool.and_eq_true, inc_st, List.all_eq_true]
 constructor
 ·rintro ⟨h1, h2⟩
  refine ⟨fun d hd => ?_, h2⟩
  obtain ⟨g1, _, _, g4⟩ := h1 d hd
  rw [chIn_good, Bool.and_eq_true] at g4
  simp [goodD, g1, g4.1, g4.2]
 ·rintro ⟨h1, h2⟩
  refine ⟨fun d hd => ?_, h2⟩
  have := h1 d hd
  simp only [goodD, Bool.and_eq_true] at this
  have hc : chIn none d.chs = true := by rw [chIn_good, this.1.2, this.2]; rfl
  exact ⟨this.1.1, fun q hq => (by cases hq), by rw [hl d hd]; exact chIn_len hc, hc⟩
theorem st_range {n : Int} (h : stF n = true) : 0 ≤ n ∧ n < 512 := by
 simp only [stF, Bool.and_eq_true, decide_eq_true_eq] at h
 omega
theorem domGo_len {l : List Dom} (h : domGo none l = true) : l.length ≤ 512 := by
 obtain ⟨h1, h2⟩ := (domGo_iff l none).1 h
 have h3 := inc_len (l.map Dom.st) 0 511 (by omega) (List.pairwise_map.2 h2) (fun x hx => by
  obtain ⟨d, hd, rfl⟩ := List.mem_map.1 hx
  have := st_range (h1 d hd).1
  omega)
 simp at h3
 omega
theorem domGo_st {l : List Dom} (h : domGo none l = true) : ∀ y ∈ l.map Dom.st, 0 ≤ y ∧ y < 512 := fun y hy => by
 obtain ⟨d, hd, rfl⟩ := List.mem_map.1 hy
 exact st_range (((domGo_iff l none).1 h).1 d hd).1
theorem valid_eq {ds : List Dom} {r : Rul} (hl : ∀ d ∈ ds, d.len = d.chs.length) : validP ds r = validR ds r := by
 unfold validP validD validR
 rw [domGo_good hl, rules_eq]
 by_cases hd : domGo none ds = true
 ·have h1 := domGo_len hd
  have h2 : ∀ x : Int, hasS (stS (ds.map Dom.st)) x = inD ds x := fun x => by rw [hasS_mem (domGo_st hd), inD_mem]
  rw [domGo_good hl, Bool.and_eq_true] at hd
  rw [hd.1, hd.2, decide_eq_true h1]
  simp only [h2, Bool.true_and, Bool.and_true]
 ·rw [domGo_good hl] at hd
  have hd' : (ds.all goodD && incF (fun x y => cmpF x.st y.st) ds) = false := by simpa using hd
  rw [hd', Bool.false_and, Bool.and_false]
  cases h1 : ds.all goodD with
  | false => simp
  | true =>
   rw [h1, Bool.true_and] at hd'
   rw [hd']
   simp
theorem goodCh_any (c : Int) (w : World) : Calls Tryz.prog 123 #[.int .i64 c] w fun e w' => e = .returned (.bool (chGood c)) ∧ w = w' := by
 have HB := Lib.hid (betw_any c 2 51 w)
 have hs : betwF c 2 51 = chGood c := rfl
 rw [hs] at HB
 generalize chGood c = r at *
 clear hs
 go_enter Tryz.func123, Tryz.ntmps123
 go_wp2_with fail
 refine HB.out.mono ?_
 rintro e w' ⟨rfl, rfl⟩
 go_wp2_with fail
 go_ret
 exact ⟨rfl, rfl⟩
theorem everyCh_any (A : Option Addr) (n c : Nat) (w : World) (l : List Int) (hn : n ≤ 9223372036854775807) (hl : Row1 intV w w.heap.size A n l) :
  Calls Tryz.prog 113 #[.slice A n c, .func (.func 123) #[] #[]] w fun e w' => e = .returned (.bool (l.all chGood)) ∧ w = w' := by
 have Hl := Lib.hid hl
 have Hlen := Eqn.mk hl.1
 have HG := Lib.hid (fun x W => goodCh_any x W)
 clear hl
 go_enter Tryz.func113, Tryz.ntmps113
 go_wp2_with fail
 go_loopw [9] (fun i wr => ∃ k : Nat, k ≤ n ∧ i = .int .i64 k ∧ Eqn (l.all chGood) ((l.drop k).all chGood) ∧ w = wr) (fun i _ => n - (intOf i).toNat)
 case atStart => exact ⟨0, Nat.zero_le _, rfl, rfl, rfl⟩
 case round =>
  obtain ⟨k, hk, rfl, HR, rfl⟩ := hrel
  by_cases hlt : k < n
  ·obtain ⟨p, hp, hpd⟩ := drop_at (xs := l) (k := k) (by rw [Hlen.out]; exact hlt)
   obtain ⟨b, off, hA, hbl, hc⟩ := Hl.out.2 (by omega)
   subst hA
   have c0 := hc k p hp
   simp only [intV] at c0
   have HR2 := HR.out
   rw [hpd, List.all_cons] at HR2
   have HGp := Lib.hid (HG.out p)
   have j0 : (k : Int) < (n : Int) := by omega
   generalize chGood p = r at *
   clear hc hp hpd HR
   go_wp2_with fail
   refine (HGp.out _).mono ?_
   rintro e w1 ⟨rfl, rfl⟩
   cases r with
   | true =>
    have HV : Eqn (l.all chGood) ((l.drop (k + 1)).all chGood) := by rw [Eqn, HR2]; rfl
    clear HR2
    go_wp2_with fail
    go_roundw
    case rel => exact ⟨k + 1, by omega, by go_num, HV, trivial⟩
    case measure => simp [intOf]; omega
   | false =>
    have HV : Eqn (l.all chGood) false := by rw [Eqn, HR2]; rfl
    clear HR2
    go_wp2_with fail
    go_ret
    exact ⟨ret_bool HV.out.symm, rfl⟩
  ·have HV : Eqn (l.all chGood) true := by rw [Eqn, HR.out, drop_end (by rw [Hlen.out]; omega)]; rfl
   clear HR
   go_wp2_with fail
   go_ret
   exact ⟨ret_bool HV.out.symm, rfl⟩
theorem everySt_any (A : Option Addr) (n c : Nat) (w : World) (l : List Int) (hn : n ≤ 9223372036854775807) (hl : Row1 intV w w.heap.size A n l) :
  Calls Tryz.prog 113 #[.slice A n c, .func (.func 82) #[] #[]] w fun e w' => e = .returned (.bool (l.all stF)) ∧ w = w' := by
 have Hl := Lib.hid hl
 have Hlen := Eqn.mk hl.1
 have HG := Lib.hid (fun x W => isSt_any x W)
 clear hl
 go_enter Tryz.func113, Tryz.ntmps113
 go_wp2_with fail
 go_loopw [9] (fun i wr => ∃ k : Nat, k ≤ n ∧ i = .int .i64 k ∧ Eqn (l.all stF) ((l.drop k).all stF) ∧ w = wr) (fun i _ => n - (intOf i).toNat)
 case atStart => exact ⟨0, Nat.zero_le _, rfl, rfl, rfl⟩
 case round =>
  obtain ⟨k, hk, rfl, HR, rfl⟩ := hrel
  by_cases hlt : k < n
  ·obtain ⟨p, hp, hpd⟩ := drop_at (xs := l) (k := k) (by rw [Hlen.out]; exact hlt)
   obtain ⟨b, off, hA, hbl, hc⟩ := Hl.out.2 (by omega)
   subst hA
   have c0 := hc k p hp
   simp only [intV] at c0
   have HR2 := HR.out
   rw [hpd, List.all_cons] at HR2
   have HGp := Lib.hid (HG.out p)
   have j0 : (k : Int) < (n : Int) := by omega
   generalize stF p = r at *
   clear hc hp hpd HR
   go_wp2_with fail
   refine (HGp.out _).mono ?_
   rintro e w1 ⟨rfl, rfl⟩
   cases r with
   | true =>
    have HV : Eqn (l.all stF) ((l.drop (k + 1)).all stF) := by rw [Eqn, HR2]; rfl
    clear HR2
    go_wp2_with fail
    go_roundw
    case rel => exact ⟨k + 1, by omega, by go_num, HV, trivial⟩
    case measure => simp [intOf]; omega
   | false =>
    have HV : Eqn (l.all stF) false := by rw [Eqn, HR2]; rfl
    clear HR2
    go_wp2_with fail
    go_ret
    exact ⟨ret_bool HV.out.symm, rfl⟩
  ·have HV : Eqn (l.all stF) true := by rw [Eqn, HR.out, drop_end (by rw [Hlen.out]; omega)]; rfl
   clear HR
   go_wp2_with fail
   go_ret
   exact ⟨ret_bool HV.out.symm, rfl⟩
theorem incI_any (A : Option Addr) (n c : Nat) (w : World) (l : List Int) (hn : n ≤ 9223372036854775807) (hl : Row1 intV w w.heap.size A n l) :
  Calls Tryz.prog 114 #[.slice A n c, .func (.func 103) #[] #[]] w (RetPost (.bool (incF cmpF l)) w.heap.size w) := by
 have Hl := Lib.hid hl
 have Hlen := Eqn.mk hl.1
 clear hl
 go_enter Tryz.func114, Tryz.ntmps114
 go_wp2_with fail
 go_loopw [5] (fun i wr => ∃ k : Nat, (k + 1 ≤ n ∨ k = 0) ∧ i = .int .i64 ((k + 1 : Nat) : Int) ∧ Eqn (incF cmpF l) (incF cmpF (l.drop k)) ∧ Below w.heap.size w wr) (fun i _ => n + 1 - (intOf i).toNat)
 case atStart => exact ⟨0, .inr rfl, rfl, rfl, Below.refl _ _⟩
 case round =>
  obtain ⟨k, hk, rfl, HR, hB⟩ := hrel
  have HB := Lib.hid hB
  have hbs := hB.size
  by_cases hlt : k + 1 < n
  ·obtain ⟨p, hp, hpd⟩ := drop_at (xs := l) (k := k) (by rw [Hlen.out]; omega)
   obtain ⟨q, hq, hqd⟩ := drop_at (xs := l) (k := k + 1) (by rw [Hlen.out]; exact hlt)
   obtain ⟨b, off, hA, hbl, hc⟩ := (Hl.out.below hB).2 (by omega)
   subst hA
   have c0 := hc k _ hp
   have d0 := hc (k + 1) _ hq
   simp only [intV] at c0 d0
   have HG := Lib.hid (fun W => compare_any p q W)
   have HR2 := HR.out
   rw [hpd, hqd, incF_cons, ← hqd] at HR2
   have hbw : b < wr.heap.size := by omega
   obtain ⟨ki, hki⟩ : ∃ ki : Int, ((k + 1 : Nat) : Int) = ki := ⟨_, rfl⟩
   rw [hki]
   have j0 : ki < (n : Int) := by omega
   have j1 : 1 ≤ ki := by omega
   have e1 : IntKind.i64.wrap (ki - 1) = (k : Int) := by rw [IntWalk.i64_in _ (by omega)]; omega
   have e2 : ki.toNat = k + 1 := by omega
   have e3 : (ki - 1).toNat = k := by omega
   have e4 : 0 ≤ ki - 1 := by omega
   have e5 : ki - 1 < (n : Int) := by omega
   have e6 : (k : Int) < (n : Int) := by omega
   have e7 : (0 : Int) ≤ (k : Int) := by omega
   have e8 : 0 ≤ ki := by omega
   have HKI := Lib.hid hki
   generalize cmpF p q = r at *
   clear hc hp hpd hq hqd HR hB hki
   by_cases hr : 0 ≤ r
   ·have HV := Eqn.mk (HR2.trans (if_pos hr))
    clear HR2
    go_wp2_with fail
    refine Lx.region (C := fun _ => True) (hs := []) (by kernel_rfl) (by kernel_rfl) trivial ?_
    repeat' (first | ((first | refine Lx.ln (fun K hK => ?_) | (first | (refine Lx.lp (v := ?_) ?_ (fun K hK => ?_); rotate_left 1; intro w' hCw; try dsimp only at hCw) | (refine Lx.lr (v := ?_) ?_ (fun K hK => ?_); rotate_left 1)); go_simp; first | done | with_reducible rfl); go_simp; refine hK _ ?_; clear hK K) | (refine Lx.le (fun K hK => ?_); go_simp; (first | (go_at_call 103; refine (HG.out _).mono ?_; rintro e w1 ⟨rfl, rfl⟩; have HB3 := Lib.hid HB.out.drew)); refine hK _ _ (trivial) ?_; clear hK K))
    all_goals (refine Lx.lex_nil ?_)
    go_wp2_with fail
    go_ret
    exact ⟨ret_bool HV.out.symm, HB3.out⟩
   ·have HV := Eqn.mk (HR2.trans (if_neg hr))
    clear HR2
    go_wp2_with fail
    refine Lx.region (C := fun _ => True) (hs := []) (by kernel_rfl) (by kernel_rfl) trivial ?_
    repeat' (first | ((first | refine Lx.ln (fun K hK => ?_) | (first | (refine Lx.lp (v := ?_) ?_ (fun K hK => ?_); rotate_left 1; intro w' hCw; try dsimp only at hCw) | (refine Lx.lr (v := ?_) ?_ (fun K hK => ?_); rotate_left 1)); go_simp; first | done | with_reducible rfl); go_simp; refine hK _ ?_; clear hK K) | (refine Lx.le (fun K hK => ?_); go_simp; (first | (go_at_call 103; refine (HG.out _).mono ?_; rintro e w1 ⟨rfl, rfl⟩; have HB3 := Lib.hid HB.out.drew)); refine hK _ _ (trivial) ?_; clear hK K))
    all_goals (refine Lx.lex_nil ?_)
    go_wp2_with fail
    clear e1 e2 e3 e4 e5
    go_roundw
    case rel => exact ⟨k + 1, .inl (by omega), by rw [← HKI.out]; go_num, HV, HB3.out⟩
    case measure => rw [← HKI.out]; simp [intOf]; omega
  ·have HV : Eqn (incF cmpF l) true := by
    rw [Eqn, HR.out]
    by_cases h0 : k < l.length
    ·obtain ⟨p, hp, hpd⟩ := drop_at (xs := l) (k := k) h0
     have hl2 := Hlen.out
     rw [hpd, drop_end (by omega)]; rfl
    ·rw [drop_end (by omega)]; rfl
   have j0 : ¬ ((k + 1 : Nat) : Int) < (n : Int) := by omega
   clear HR hB
   go_wp2_with fail
   go_ret
   exact ⟨ret_bool HV.out.symm, HB.out⟩
theorem goodD_any (d : Dom) (w : World) (hn : d.len ≤ 9223372036854775807) (hr : Row1 intV w w.heap.size d.adr d.len d.chs) : Calls Tryz.prog 100 #[d.val] w (RetPost (.bool (goodD d)) w.heap.size w) := by
 obtain ⟨st, adr, len, cap, chs⟩ := d
 dsimp only at hn hr
 obtain ⟨W0, hW0⟩ : ∃ W0, W0 = w.alloc (.cells #[.int .i64 st, .slice adr len cap] 78) := ⟨_, rfl⟩
 have hB0 : Below w.heap.size w W0 := by rw [hW0]; exact (Below.refl _ w).alloc (Nat.le_refl _) _
 have z0 : W0.cell? ⟨w.heap.size, 0, none⟩ = some (.int .i64 st) := by rw [hW0]; simp [go_sem]
 have z1 : W0.cell? ⟨w.heap.size, 1, none⟩ = some (.slice adr len cap) := by rw [hW0]; simp [go_sem]
 have HST := Lib.hid (isSt_any st W0)
 have HEV := Lib.hid (everyCh_any adr len cap W0 chs hn (hr.keep hB0))
 have HIN := Lib.hid (incI_any adr len cap W0 chs hn (hr.keep hB0))
 have HB0 := Lib.hid hB0
 unfold Dom.val goodD
 dsimp only
 generalize stF st = t0 at *
 generalize chs.all chGood = t1 at *
 generalize incF cmpF chs = t2 at *
 clear hr hB0
 go_enter Tryz.func100, Tryz.ntmps100
 go_wp2_with fail
 rw [← hW0]
 clear hW0
 refine HST.out.mono ?_
 rintro e w1 ⟨rfl, rfl⟩
 cases t0 with
 | false =>
  go_wp2_with fail
  go_ret
  exact ⟨rfl, HB0.out⟩
 | true =>
  go_wp2_with fail
  refine HEV.out.mono ?_
  rintro e w1 ⟨rfl, rfl⟩
  cases t1 with
  | false =>
   go_wp2_with fail
   go_ret
   exact ⟨rfl, HB0.out⟩
  | true =>
   go_wp2_with fail
   refine HIN.out.mono ?_
   rintro e w1 ⟨rfl, hb1⟩
   have HB1 := Lib.hid (HB0.out.trans (hb1.mono HB0.out.size))
   clear hb1
   go_wp2_with fail
   go_ret
   exact ⟨rfl, HB1.out⟩
theorem everyD_any (A : Option Addr) (n c : Nat) (w : World) (l : List Dom) (hd : ∀ d ∈ l, d.len ≤ 9223372036854775807) (hn : n ≤ 9223372036854775807) (hl : DomsAt w w.heap.size A n l) :
  Calls Tryz.prog 99 #[.slice A n c, .func (.func 100) #[] #[]] w (RetPost (.bool (l.all goodD)) w.heap.size w) := by
 have Hl := Lib.hid hl
 have Hlen := Eqn.mk hl.1.1
 skip
 clear hl
 go_enter Tryz.func99, Tryz.ntmps99
 go_wp2_with fail
 go_loopw [9] (fun i wr => ∃ k : Nat, k ≤ n ∧ i = .int .i64 k ∧ Eqn (l.all goodD) ((l.drop k).all goodD) ∧ Below w.heap.size w wr) (fun i _ => n - (intOf i).toNat)
 case atStart => exact ⟨0, Nat.zero_le _, rfl, rfl, Below.refl _ _⟩
 case round =>
  obtain ⟨k, hk, rfl, HR, hB⟩ := hrel
  have HB := Lib.hid hB
  have hbs := hB.size
  by_cases hlt : k < n
  ·obtain ⟨p, hp, hpd⟩ := drop_at (xs := l) (k := k) (by rw [Hlen.out]; exact hlt)
   obtain ⟨b, off, hA, hbl, hc⟩ := (Hl.out.1.below hB).2 (by omega)
   have hrow := ((Hl.out.2 p (List.mem_of_getElem? hp)).below hB).up hbs
   subst hA
   obtain ⟨st, adr, len, cap, chs⟩ := p
   have c0 := hc k _ hp 0 (by omega)
   have c1 := hc k _ hp 1 (by omega)
   simp only [Dom.cell, Nat.add_zero] at c0 c1
   have HG : Hid (∀ W, Below wr.heap.size wr W → Calls Tryz.prog 100 #[.agg #[.int .i64 st, .slice adr len cap]] W (RetPost (.bool (goodD ⟨st, adr, len, cap, chs⟩)) W.heap.size W)) := Lib.hid (fun W hW => goodD_any ⟨st, adr, len, cap, chs⟩ W (hd _ (List.mem_of_getElem? hp)) (hrow.keep hW))
   have HR2 := HR.out
   rw [hpd, List.all_cons] at HR2
   try dsimp only at HG
   have hbw : b < wr.heap.size := by omega
   have j0 : (k : Int) < (n : Int) := by omega
   have HB2 := Lib.hid (hB.alloc hbs (.cells #[.int .i64 st, .slice adr len cap] 78))
   generalize goodD ⟨st, adr, len, cap, chs⟩ = r at *
   clear hc hp hpd HR hB
   go_wp2_with fail
   refine (HG.out _ ((Below.refl _ _).alloc (Nat.le_refl _) _)).mono ?_
   rintro e w1 ⟨rfl, hb1⟩
   have HB3 := Lib.hid (HB2.out.trans (hb1.mono HB2.out.size))
   clear hb1
   cases r with
   | true =>
    have HV : Eqn (l.all goodD) ((l.drop (k + 1)).all goodD) := by rw [Eqn, HR2]; rfl
    clear HR2
    go_wp2_with fail
    go_roundw
    case rel => exact ⟨k + 1, by omega, by go_num, HV, HB3.out⟩
    case measure => simp [intOf]; omega
   | false =>
    have HV : Eqn (l.all goodD) false := by rw [Eqn, HR2]; rfl
    clear HR2
    go_wp2_with fail
    go_ret
    exact ⟨ret_bool HV.out.symm, HB3.out⟩
  ·have HV : Eqn (l.all goodD) true := by rw [Eqn, HR.out, drop_end (by rw [Hlen.out]; omega)]; rfl
   clear HR hB
   go_wp2_with fail
   go_ret
   exact ⟨ret_bool HV.out.symm, HB.out⟩
theorem bySt_any (x y : Dom) (w : World) : Calls Tryz.prog 102 #[x.val, y.val] w (RetPost (.int .i64 (cmpF x.st y.st)) w.heap.size w) := by
 obtain ⟨a, a1, a2, a3, a4⟩ := x
 obtain ⟨b, b1, b2, b3, b4⟩ := y
 have HC := Lib.hid (fun W => compare_any a b W)
 have HB : Hid (Below w.heap.size w ((w.alloc (.cells #[.int .i64 a, .slice a1 a2 a3] 78)).alloc (.cells #[.int .i64 b, .slice b1 b2 b3] 78))) := Lib.hid (((Below.refl _ w).alloc (Nat.le_refl _) _).alloc (by simp) _)
 unfold Dom.val
 dsimp only
 generalize cmpF a b = r at *
 go_enter Tryz.func102, Tryz.ntmps102
 go_wp2_with fail
 refine (HC.out _).mono ?_
 rintro e w1 ⟨rfl, rfl⟩
 go_wp2_with fail
 go_ret
 exact ⟨rfl, HB.out⟩
theorem incD_any (A : Option Addr) (n c : Nat) (w : World) (l : List Dom) (hn : n ≤ 9223372036854775807) (hl : RowS 2 Dom.cell w w.heap.size A n l) :
  Calls Tryz.prog 104 #[.slice A n c, .func (.func 102) #[] #[]] w (RetPost (.bool (incF (fun x y => cmpF x.st y.st) l)) w.heap.size w) := by
 have Hl := Lib.hid hl
 have Hlen := Eqn.mk hl.1
 clear hl
 go_enter Tryz.func104, Tryz.ntmps104
 go_wp2_with fail
 go_loopw [5] (fun i wr => ∃ k : Nat, (k + 1 ≤ n ∨ k = 0) ∧ i = .int .i64 ((k + 1 : Nat) : Int) ∧ Eqn (incF (fun x y => cmpF x.st y.st) l) (incF (fun x y => cmpF x.st y.st) (l.drop k)) ∧ Below w.heap.size w wr) (fun i _ => n + 1 - (intOf i).toNat)
 case atStart => exact ⟨0, .inr rfl, rfl, rfl, Below.refl _ _⟩
 case round =>
  obtain ⟨k, hk, rfl, HR, hB⟩ := hrel
  have HB := Lib.hid hB
  have hbs := hB.size
  by_cases hlt : k + 1 < n
  ·obtain ⟨p, hp, hpd⟩ := drop_at (xs := l) (k := k) (by rw [Hlen.out]; omega)
   obtain ⟨q, hq, hqd⟩ := drop_at (xs := l) (k := k + 1) (by rw [Hlen.out]; exact hlt)
   obtain ⟨b, off, hA, hbl, hc⟩ := (Hl.out.below hB).2 (by omega)
   subst hA
   obtain ⟨p0, p1, p2, p3, p4⟩ := p
   obtain ⟨q0, q1, q2, q3, q4⟩ := q
   have c0 := hc k _ hp 0 (by omega)
   have c1 := hc k _ hp 1 (by omega)
   have d0 := hc (k + 1) _ hq 0 (by omega)
   have d1 := hc (k + 1) _ hq 1 (by omega)
   simp only [Dom.cell, Nat.add_zero] at c0 c1 d0 d1
   have HG := Lib.hid (fun W => bySt_any ⟨p0, p1, p2, p3, p4⟩ ⟨q0, q1, q2, q3, q4⟩ W)
   have HR2 := HR.out
   rw [hpd, hqd, incF_cons, ← hqd] at HR2
   unfold Dom.val at HG
   dsimp only at HG HR2
   have hbw : b < wr.heap.size := by omega
   obtain ⟨ki, hki⟩ : ∃ ki : Int, ((k + 1 : Nat) : Int) = ki := ⟨_, rfl⟩
   rw [hki]
   have j0 : ki < (n : Int) := by omega
   have j1 : 1 ≤ ki := by omega
   have e1 : IntKind.i64.wrap (ki - 1) = (k : Int) := by rw [IntWalk.i64_in _ (by omega)]; omega
   have e2 : ki.toNat = k + 1 := by omega
   have e3 : (ki - 1).toNat = k := by omega
   have e4 : 0 ≤ ki - 1 := by omega
   have e5 : ki - 1 < (n : Int) := by omega
   have e6 : (k : Int) < (n : Int) := by omega
   have e7 : (0 : Int) ≤ (k : Int) := by omega
   have e8 : 0 ≤ ki := by omega
   have HKI := Lib.hid hki
   generalize cmpF p0 q0 = r at *
   clear hc hp hpd hq hqd HR hB hki
   by_cases hr : 0 ≤ r
   ·have HV := Eqn.mk (HR2.trans (if_pos hr))
    clear HR2
    go_wp2_with fail
    refine Lx.region (C := fun _ => True) (hs := []) (by kernel_rfl) (by kernel_rfl) trivial ?_
    repeat' (first | ((first | refine Lx.ln (fun K hK => ?_) | (first | (refine Lx.lp (v := ?_) ?_ (fun K hK => ?_); rotate_left 1; intro w' hCw; try dsimp only at hCw) | (refine Lx.lr (v := ?_) ?_ (fun K hK => ?_); rotate_left 1)); go_simp; first | done | with_reducible rfl); go_simp; refine hK _ ?_; clear hK K) | (refine Lx.le (fun K hK => ?_); go_simp; (first | (go_at_call 102; refine (HG.out _).mono ?_; rintro e w1 ⟨rfl, hb1⟩; have HB3 := Lib.hid (HB.out.drew.trans (hb1.mono (by exact hbs))); clear hb1)); refine hK _ _ (trivial) ?_; clear hK K))
    all_goals (refine Lx.lex_nil ?_)
    go_wp2_with fail
    go_ret
    exact ⟨ret_bool HV.out.symm, HB3.out⟩
   ·have HV := Eqn.mk (HR2.trans (if_neg hr))
    clear HR2
    go_wp2_with fail
    refine Lx.region (C := fun _ => True) (hs := []) (by kernel_rfl) (by kernel_rfl) trivial ?_
    repeat' (first | ((first | refine Lx.ln (fun K hK => ?_) | (first | (refine Lx.lp (v := ?_) ?_ (fun K hK => ?_); rotate_left 1; intro w' hCw; try dsimp only at hCw) | (refine Lx.lr (v := ?_) ?_ (fun K hK => ?_); rotate_left 1)); go_simp; first | done | with_reducible rfl); go_simp; refine hK _ ?_; clear hK K) | (refine Lx.le (fun K hK => ?_); go_simp; (first | (go_at_call 102; refine (HG.out _).mono ?_; rintro e w1 ⟨rfl, hb1⟩; have HB3 := Lib.hid (HB.out.drew.trans (hb1.mono (by exact hbs))); clear hb1)); refine hK _ _ (trivial) ?_; clear hK K))
    all_goals (refine Lx.lex_nil ?_)
    go_wp2_with fail
    clear e1 e2 e3 e4 e5
    go_roundw
    case rel => exact ⟨k + 1, .inl (by omega), by rw [← HKI.out]; go_num, HV, HB3.out⟩
    case measure => rw [← HKI.out]; simp [intOf]; omega
  ·have HV : Eqn (incF (fun x y : Dom => cmpF x.st y.st) l) true := by
    rw [Eqn, HR.out]
    by_cases h0 : k < l.length
    ·obtain ⟨p, hp, hpd⟩ := drop_at (xs := l) (k := k) h0
     have hl2 := Hlen.out
     rw [hpd, drop_end (by omega)]; rfl
    ·rw [drop_end (by omega)]; rfl
   have j0 : ¬ ((k + 1 : Nat) : Int) < (n : Int) := by omega
   clear HR hB
   go_wp2_with fail
   go_ret
   exact ⟨ret_bool HV.out.symm, HB.out⟩
theorem cloPair_any (x : R5) (g S : Nat) (w : World) (h : Blk w g 100 (tabL 8 (sC S))) : Calls Tryz.prog 106 #[x.val, .pointer (some ⟨g, 0, none⟩)] w (RetPost (.bool (hasS S x.a && hasS S x.b)) w.heap.size w) := by
 obtain ⟨x0, x1, x2, x3, x4⟩ := x
 obtain ⟨W0, hW0⟩ : ∃ W0, W0 = w.alloc (.cells #[.int .i64 x0, .int .i64 x1, .int .i64 x2, .int .i64 x3, .int .i64 x4] 84) := ⟨_, rfl⟩
 have hB0 : Below w.heap.size w W0 := by rw [hW0]; exact (Below.refl _ w).alloc (Nat.le_refl _) _
 have hx : Blk W0 w.heap.size 84 [.int .i64 x0, .int .i64 x1, .int .i64 x2, .int .i64 x3, .int .i64 x4] := by rw [hW0]; exact blk_new w _ _
 have HX := Lib.hid hx
 have HS := Lib.hid (h.keep hB0)
 have z0 : W0.cell? ⟨w.heap.size, 0, none⟩ = some (.int .i64 x0) := hx.cell rfl
 have zl := hx.lt
 have HHA := Lib.hid (fun W => has_any S x0 W)
 have HHB := Lib.hid (fun W => has_any S x1 W)
 have HB0 := Lib.hid hB0
 obtain ⟨q0, q1, q2, q3, q4, q5, q6, q7⟩ := HS.out.eight
 have ql := HS.out.lt
 unfold R5.val
 unfold sV at HHA HHB
 dsimp only
 generalize hasS S x0 = b0 at *
 generalize hasS S x1 = b1 at *
 clear h hB0 hx
 go_enter Tryz.func106, Tryz.ntmps106
 go_upto_region 1 with fail
 rw [← hW0]
 clear hW0
 go_wp2_with fail
 clear q0 q1 q2 q3 q4 q5 q6 q7
 refine (HHA.out _).mono ?_
 rintro e W1 ⟨rfl, hb1⟩
 have HB1 := Lib.hid (HB0.out.trans (hb1.mono HB0.out.size))
 have hS1 := HS.out.keep hb1
 obtain ⟨q0, q1, q2, q3, q4, q5, q6, q7⟩ := hS1.eight
 have ql1 := hS1.lt
 have z1 : W1.cell? ⟨w.heap.size, 1, none⟩ = some (.int .i64 x1) := (HX.out.keep hb1).cell rfl
 have zl1 := (HX.out.keep hb1).lt
 clear hb1 hS1
 cases b0 with
 | false =>
  go_wp2_with fail
  go_ret
  exact ⟨rfl, HB1.out⟩
 | true =>
  go_wp2_with fail
  clear q0 q1 q2 q3 q4 q5 q6 q7
  refine (HHB.out _).mono ?_
  rintro e W2 ⟨rfl, hb2⟩
  have HB2 := Lib.hid (HB1.out.trans (hb2.mono HB1.out.size))
  clear hb2
  go_wp2_with fail
  go_ret
  exact ⟨rfl, HB2.out⟩
theorem everySPair_any (A : Option Addr) (n c : Nat) (w : World) (l : List R5) (g S : Nat) (hs : Blk w g 100 (tabL 8 (sC S))) (hn : n ≤ 9223372036854775807) (hl : RowS 5 R5.cell w w.heap.size A n l) :
  Calls Tryz.prog 105 #[.slice A n c, .func (.func 106) #[] #[.pointer (some ⟨g, 0, none⟩)]] w (RetPost (.bool (l.all (fun x => hasS S x.a && hasS S x.b))) w.heap.size w) := by
 have Hl := Lib.hid hl
 have Hlen := Eqn.mk hl.1
 have HS := Lib.hid hs
 clear hl hs
 go_enter Tryz.func105, Tryz.ntmps105
 go_wp2_with fail
 go_loopw [9] (fun i wr => ∃ k : Nat, k ≤ n ∧ i = .int .i64 k ∧ Eqn (l.all (fun x => hasS S x.a && hasS S x.b)) ((l.drop k).all (fun x => hasS S x.a && hasS S x.b)) ∧ Below w.heap.size w wr) (fun i _ => n - (intOf i).toNat)
 case atStart => exact ⟨0, Nat.zero_le _, rfl, rfl, Below.refl _ _⟩
 case round =>
  obtain ⟨k, hk, rfl, HR, hB⟩ := hrel
  have HB := Lib.hid hB
  have hbs := hB.size
  by_cases hlt : k < n
  ·obtain ⟨p, hp, hpd⟩ := drop_at (xs := l) (k := k) (by rw [Hlen.out]; exact hlt)
   obtain ⟨b, off, hA, hbl, hc⟩ := (Hl.out.below hB).2 (by omega)
   skip
   subst hA
   obtain ⟨p0, p1, p2, p3, p4⟩ := p
   have c0 := hc k _ hp 0 (by omega)
   have c1 := hc k _ hp 1 (by omega)
   have c2 := hc k _ hp 2 (by omega)
   have c3 := hc k _ hp 3 (by omega)
   have c4 := hc k _ hp 4 (by omega)
   simp only [R5.cell, Nat.add_zero] at c0 c1 c2 c3 c4
   have HG : Hid (∀ W, Below wr.heap.size wr W → Calls Tryz.prog 106 #[.agg #[.int .i64 p0, .int .i64 p1, .int .i64 p2, .int .i64 p3, .int .i64 p4], .pointer (some ⟨g, 0, none⟩)] W (RetPost (.bool (hasS S p0 && hasS S p1)) W.heap.size W)) := Lib.hid (fun W hW => cloPair_any ⟨p0, p1, p2, p3, p4⟩ g S W ((HS.out.keep hB).keep hW))
   have HR2 := HR.out
   rw [hpd, List.all_cons] at HR2
   try dsimp only at HG
   have hbw : b < wr.heap.size := by omega
   have j0 : (k : Int) < (n : Int) := by omega
   have HB2 := Lib.hid (hB.alloc hbs (.cells #[.int .i64 p0, .int .i64 p1, .int .i64 p2, .int .i64 p3, .int .i64 p4] 84))
   dsimp only at HR2
   generalize (hasS S p0 && hasS S p1) = r at *
   clear hc hp hpd HR hB
   go_wp2_with fail
   refine (HG.out _ ((Below.refl _ _).alloc (Nat.le_refl _) _)).mono ?_
   rintro e w1 ⟨rfl, hb1⟩
   have HB3 := Lib.hid (HB2.out.trans (hb1.mono HB2.out.size))
   clear hb1
   cases r with
   | true =>
    have HV : Eqn (l.all (fun x => hasS S x.a && hasS S x.b)) ((l.drop (k + 1)).all (fun x => hasS S x.a && hasS S x.b)) := by rw [Eqn, HR2]; rfl
    clear HR2
    go_wp2_with fail
    go_roundw
    case rel => exact ⟨k + 1, by omega, by go_num, HV, HB3.out⟩
    case measure => simp [intOf]; omega
   | false =>
    have HV : Eqn (l.all (fun x => hasS S x.a && hasS S x.b)) false := by rw [Eqn, HR2]; rfl
    clear HR2
    go_wp2_with fail
    go_ret
    exact ⟨ret_bool HV.out.symm, HB3.out⟩
  ·have HV : Eqn (l.all (fun x => hasS S x.a && hasS S x.b)) true := by rw [Eqn, HR.out, drop_end (by rw [Hlen.out]; omega)]; rfl
   clear HR hB
   go_wp2_with fail
   go_ret
   exact ⟨ret_bool HV.out.symm, HB.out⟩
theorem cloLoad_any (x : R5) (g S : Nat) (w : World) (h : Blk w g 100 (tabL 8 (sC S))) : Calls Tryz.prog 108 #[x.val, .pointer (some ⟨g, 0, none⟩)] w (RetPost (.bool (hasS S x.a && hasS S x.b)) w.heap.size w) := by
 obtain ⟨x0, x1, x2, x3, x4⟩ := x
 obtain ⟨W0, hW0⟩ : ∃ W0, W0 = w.alloc (.cells #[.int .i64 x0, .int .i64 x1, .int .i64 x2, .int .i64 x3, .int .i64 x4] 86) := ⟨_, rfl⟩
 have hB0 : Below w.heap.size w W0 := by rw [hW0]; exact (Below.refl _ w).alloc (Nat.le_refl _) _
 have hx : Blk W0 w.heap.size 86 [.int .i64 x0, .int .i64 x1, .int .i64 x2, .int .i64 x3, .int .i64 x4] := by rw [hW0]; exact blk_new w _ _
 have HX := Lib.hid hx
 have HS := Lib.hid (h.keep hB0)
 have z0 : W0.cell? ⟨w.heap.size, 0, none⟩ = some (.int .i64 x0) := hx.cell rfl
 have zl := hx.lt
 have HHA := Lib.hid (fun W => has_any S x0 W)
 have HHB := Lib.hid (fun W => has_any S x1 W)
 have HB0 := Lib.hid hB0
 obtain ⟨q0, q1, q2, q3, q4, q5, q6, q7⟩ := HS.out.eight
 have ql := HS.out.lt
 unfold R5.val
 unfold sV at HHA HHB
 dsimp only
 generalize hasS S x0 = b0 at *
 generalize hasS S x1 = b1 at *
 clear h hB0 hx
 go_enter Tryz.func108, Tryz.ntmps108
 go_upto_region 1 with fail
 rw [← hW0]
 clear hW0
 go_wp2_with fail
 clear q0 q1 q2 q3 q4 q5 q6 q7
 refine (HHA.out _).mono ?_
 rintro e W1 ⟨rfl, hb1⟩
 have HB1 := Lib.hid (HB0.out.trans (hb1.mono HB0.out.size))
 have hS1 := HS.out.keep hb1
 obtain ⟨q0, q1, q2, q3, q4, q5, q6, q7⟩ := hS1.eight
 have ql1 := hS1.lt
 have z1 : W1.cell? ⟨w.heap.size, 1, none⟩ = some (.int .i64 x1) := (HX.out.keep hb1).cell rfl
 have zl1 := (HX.out.keep hb1).lt
 clear hb1 hS1
 cases b0 with
 | false =>
  go_wp2_with fail
  go_ret
  exact ⟨rfl, HB1.out⟩
 | true =>
  go_wp2_with fail
  clear q0 q1 q2 q3 q4 q5 q6 q7
  refine (HHB.out _).mono ?_
  rintro e W2 ⟨rfl, hb2⟩
  have HB2 := Lib.hid (HB1.out.trans (hb2.mono HB1.out.size))
  clear hb2
  go_wp2_with fail
  go_ret
  exact ⟨rfl, HB2.out⟩
theorem everySLoad_any (A : Option Addr) (n c : Nat) (w : World) (l : List R5) (g S : Nat) (hs : Blk w g 100 (tabL 8 (sC S))) (hn : n ≤ 9223372036854775807) (hl : RowS 5 R5.cell w w.heap.size A n l) :
  Calls Tryz.prog 107 #[.slice A n c, .func (.func 108) #[] #[.pointer (some ⟨g, 0, none⟩)]] w (RetPost (.bool (l.all (fun x => hasS S x.a && hasS S x.b))) w.heap.size w) := by
 have Hl := Lib.hid hl
 have Hlen := Eqn.mk hl.1
 have HS := Lib.hid hs
 clear hl hs
 go_enter Tryz.func107, Tryz.ntmps107
 go_wp2_with fail
 go_loopw [9] (fun i wr => ∃ k : Nat, k ≤ n ∧ i = .int .i64 k ∧ Eqn (l.all (fun x => hasS S x.a && hasS S x.b)) ((l.drop k).all (fun x => hasS S x.a && hasS S x.b)) ∧ Below w.heap.size w wr) (fun i _ => n - (intOf i).toNat)
 case atStart => exact ⟨0, Nat.zero_le _, rfl, rfl, Below.refl _ _⟩
 case round =>
  obtain ⟨k, hk, rfl, HR, hB⟩ := hrel
  have HB := Lib.hid hB
  have hbs := hB.size
  by_cases hlt : k < n
  ·obtain ⟨p, hp, hpd⟩ := drop_at (xs := l) (k := k) (by rw [Hlen.out]; exact hlt)
   obtain ⟨b, off, hA, hbl, hc⟩ := (Hl.out.below hB).2 (by omega)
   skip
   subst hA
   obtain ⟨p0, p1, p2, p3, p4⟩ := p
   have c0 := hc k _ hp 0 (by omega)
   have c1 := hc k _ hp 1 (by omega)
   have c2 := hc k _ hp 2 (by omega)
   have c3 := hc k _ hp 3 (by omega)
   have c4 := hc k _ hp 4 (by omega)
   simp only [R5.cell, Nat.add_zero] at c0 c1 c2 c3 c4
   have HG : Hid (∀ W, Below wr.heap.size wr W → Calls Tryz.prog 108 #[.agg #[.int .i64 p0, .int .i64 p1, .int .i64 p2, .int .i64 p3, .int .i64 p4], .pointer (some ⟨g, 0, none⟩)] W (RetPost (.bool (hasS S p0 && hasS S p1)) W.heap.size W)) := Lib.hid (fun W hW => cloLoad_any ⟨p0, p1, p2, p3, p4⟩ g S W ((HS.out.keep hB).keep hW))
   have HR2 := HR.out
   rw [hpd, List.all_cons] at HR2
   try dsimp only at HG
   have hbw : b < wr.heap.size := by omega
   have j0 : (k : Int) < (n : Int) := by omega
   have HB2 := Lib.hid (hB.alloc hbs (.cells #[.int .i64 p0, .int .i64 p1, .int .i64 p2, .int .i64 p3, .int .i64 p4] 86))
   dsimp only at HR2
   generalize (hasS S p0 && hasS S p1) = r at *
   clear hc hp hpd HR hB
   go_wp2_with fail
   refine (HG.out _ ((Below.refl _ _).alloc (Nat.le_refl _) _)).mono ?_
   rintro e w1 ⟨rfl, hb1⟩
   have HB3 := Lib.hid (HB2.out.trans (hb1.mono HB2.out.size))
   clear hb1
   cases r with
   | true =>
    have HV : Eqn (l.all (fun x => hasS S x.a && hasS S x.b)) ((l.drop (k + 1)).all (fun x => hasS S x.a && hasS S x.b)) := by rw [Eqn, HR2]; rfl
    clear HR2
    go_wp2_with fail
    go_roundw
    case rel => exact ⟨k + 1, by omega, by go_num, HV, HB3.out⟩
    case measure => simp [intOf]; omega
   | false =>
    have HV : Eqn (l.all (fun x => hasS S x.a && hasS S x.b)) false := by rw [Eqn, HR2]; rfl
    clear HR2
    go_wp2_with fail
    go_ret
    exact ⟨ret_bool HV.out.symm, HB3.out⟩
  ·have HV : Eqn (l.all (fun x => hasS S x.a && hasS S x.b)) true := by rw [Eqn, HR.out, drop_end (by rw [Hlen.out]; omega)]; rfl
   clear HR hB
   go_wp2_with fail
   go_ret
   exact ⟨ret_bool HV.out.symm, HB.out⟩
theorem cloCap_any (x : R4) (g S : Nat) (w : World) (h : Blk w g 100 (tabL 8 (sC S))) : Calls Tryz.prog 110 #[x.val, .pointer (some ⟨g, 0, none⟩)] w (RetPost (.bool (hasS S x.a)) w.heap.size w) := by
 obtain ⟨x0, x1, x2, x3⟩ := x
 obtain ⟨W0, hW0⟩ : ∃ W0, W0 = w.alloc (.cells #[.int .i64 x0, .int .i64 x1, .int .i64 x2, .int .i64 x3] 88) := ⟨_, rfl⟩
 have hB0 : Below w.heap.size w W0 := by rw [hW0]; exact (Below.refl _ w).alloc (Nat.le_refl _) _
 have hx : Blk W0 w.heap.size 88 [.int .i64 x0, .int .i64 x1, .int .i64 x2, .int .i64 x3] := by rw [hW0]; exact blk_new w _ _
 have HX := Lib.hid hx
 have HS := Lib.hid (h.keep hB0)
 have z0 : W0.cell? ⟨w.heap.size, 0, none⟩ = some (.int .i64 x0) := hx.cell rfl
 have zl := hx.lt
 have HHA := Lib.hid (fun W => has_any S x0 W)
 have HHB := Lib.hid (fun W => has_any S x1 W)
 have HB0 := Lib.hid hB0
 obtain ⟨q0, q1, q2, q3, q4, q5, q6, q7⟩ := HS.out.eight
 have ql := HS.out.lt
 unfold R4.val
 unfold sV at HHA HHB
 dsimp only
 generalize hasS S x0 = b0 at *
 generalize hasS S x1 = b1 at *
 clear h hB0 hx
 go_enter Tryz.func110, Tryz.ntmps110
 go_upto_region 1 with fail
 rw [← hW0]
 clear hW0
 go_wp2_with fail
 clear q0 q1 q2 q3 q4 q5 q6 q7
 refine (HHA.out _).mono ?_
 rintro e W1 ⟨rfl, hb1⟩
 have HB1 := Lib.hid (HB0.out.trans (hb1.mono HB0.out.size))
 clear hb1
 go_wp2_with fail
 go_ret
 exact ⟨rfl, HB1.out⟩
theorem everySCap_any (A : Option Addr) (n c : Nat) (w : World) (l : List R4) (g S : Nat) (hs : Blk w g 100 (tabL 8 (sC S))) (hn : n ≤ 9223372036854775807) (hl : RowS 4 R4.cell w w.heap.size A n l) :
  Calls Tryz.prog 109 #[.slice A n c, .func (.func 110) #[] #[.pointer (some ⟨g, 0, none⟩)]] w (RetPost (.bool (l.all (fun x => hasS S x.a))) w.heap.size w) := by
 have Hl := Lib.hid hl
 have Hlen := Eqn.mk hl.1
 have HS := Lib.hid hs
 clear hl hs
 go_enter Tryz.func109, Tryz.ntmps109
 go_wp2_with fail
 go_loopw [9] (fun i wr => ∃ k : Nat, k ≤ n ∧ i = .int .i64 k ∧ Eqn (l.all (fun x => hasS S x.a)) ((l.drop k).all (fun x => hasS S x.a)) ∧ Below w.heap.size w wr) (fun i _ => n - (intOf i).toNat)
 case atStart => exact ⟨0, Nat.zero_le _, rfl, rfl, Below.refl _ _⟩
 case round =>
  obtain ⟨k, hk, rfl, HR, hB⟩ := hrel
  have HB := Lib.hid hB
  have hbs := hB.size
  by_cases hlt : k < n
  ·obtain ⟨p, hp, hpd⟩ := drop_at (xs := l) (k := k) (by rw [Hlen.out]; exact hlt)
   obtain ⟨b, off, hA, hbl, hc⟩ := (Hl.out.below hB).2 (by omega)
   skip
   subst hA
   obtain ⟨p0, p1, p2, p3⟩ := p
   have c0 := hc k _ hp 0 (by omega)
   have c1 := hc k _ hp 1 (by omega)
   have c2 := hc k _ hp 2 (by omega)
   have c3 := hc k _ hp 3 (by omega)
   simp only [R4.cell, Nat.add_zero] at c0 c1 c2 c3
   have HG : Hid (∀ W, Below wr.heap.size wr W → Calls Tryz.prog 110 #[.agg #[.int .i64 p0, .int .i64 p1, .int .i64 p2, .int .i64 p3], .pointer (some ⟨g, 0, none⟩)] W (RetPost (.bool (hasS S p0)) W.heap.size W)) := Lib.hid (fun W hW => cloCap_any ⟨p0, p1, p2, p3⟩ g S W ((HS.out.keep hB).keep hW))
   have HR2 := HR.out
   rw [hpd, List.all_cons] at HR2
   try dsimp only at HG
   have hbw : b < wr.heap.size := by omega
   have j0 : (k : Int) < (n : Int) := by omega
   have HB2 := Lib.hid (hB.alloc hbs (.cells #[.int .i64 p0, .int .i64 p1, .int .i64 p2, .int .i64 p3] 88))
   dsimp only at HR2
   generalize (hasS S p0) = r at *
   clear hc hp hpd HR hB
   go_wp2_with fail
   refine (HG.out _ ((Below.refl _ _).alloc (Nat.le_refl _) _)).mono ?_
   rintro e w1 ⟨rfl, hb1⟩
   have HB3 := Lib.hid (HB2.out.trans (hb1.mono HB2.out.size))
   clear hb1
   cases r with
   | true =>
    have HV : Eqn (l.all (fun x => hasS S x.a)) ((l.drop (k + 1)).all (fun x => hasS S x.a)) := by rw [Eqn, HR2]; rfl
    clear HR2
    go_wp2_with fail
    go_roundw
    case rel => exact ⟨k + 1, by omega, by go_num, HV, HB3.out⟩
    case measure => simp [intOf]; omega
   | false =>
    have HV : Eqn (l.all (fun x => hasS S x.a)) false := by rw [Eqn, HR2]; rfl
    clear HR2
    go_wp2_with fail
    go_ret
    exact ⟨ret_bool HV.out.symm, HB3.out⟩
  ·have HV : Eqn (l.all (fun x => hasS S x.a)) true := by rw [Eqn, HR.out, drop_end (by rw [Hlen.out]; omega)]; rfl
   clear HR hB
   go_wp2_with fail
   go_ret
   exact ⟨ret_bool HV.out.symm, HB.out⟩
theorem mi_zero_iff {S T : Nat} (hS : Fit S) : mi S T = 0 ↔ ∀ k, k < 8 → wd (mi S T) k = 0 := by
 constructor
 ·intro h k _; rw [h, wd_zero]
 ·intro h
  exact eq_of_wd (mi_lt T hS) fit_zero (fun k hk => by rw [h k hk, wd_zero])
theorem subset_any (S T : Nat) (hS : Fit S) (w : World) : Calls Tryz.prog 42 #[sV S, sV T] w (RetPost (.bool (decide (mi S T = 0))) w.heap.size w) := by
 have HZ := Lib.hid (mi_zero_iff (T := T) hS)
 have hop : ∀ k, bits .andNot .u64 (wd S k) (wd T k) = ((wd (mi S T) k : Nat) : Int) := fun k => by rw [u64_andNot_nat _ _ (wd_lt S k) (wd_lt T k), andNot_mi _ _ (wd_lt S k) (wd_lt T k), wd_mi]
 have HOP := Lib.hid hop
 clear hop hS
 generalize mi S T = U at *
 unfold sV
 go_enter Tryz.func42, Tryz.ntmps42
 go_wp2_with fail
 obtain ⟨W0, hW0⟩ : ∃ W0, W0 = (w.alloc (.cells (sL S).toArray 100)).alloc (.cells (sL T).toArray 100) := ⟨_, rfl⟩
 have hT : Blk W0 (w.heap.size + 1) 100 (tabL 8 (sC T)) := by
  rw [hW0, ← sL_tab]; have := blk_new (w.alloc (.cells (sL S).toArray 100)) (sL T) 100; rwa [World.size_alloc] at this
 have HB : Hid (Below w.heap.size w W0) := Lib.hid (by rw [hW0]; exact ((Below.refl _ w).alloc (Nat.le_refl _) _).alloc (by simp) _)
 unfold sL at hW0
 rw [← hW0]
 have HT := Lib.hid hT
 have hlt := hT.lt
 clear hW0 hT
 go_loop [9] (fun i => ∃ k : Nat, k ≤ 8 ∧ i = .int .i64 k ∧ Hid (∀ j, j < k → wd U j = 0)) (fun i => 8 - (intOf i).toNat)
 case atStart => exact ⟨0, by decide, rfl, Lib.hid (fun j h => by omega)⟩
 case round =>
  obtain ⟨k, hk, rfl, HI⟩ := hrel
  by_cases h8 : k = 8
  ·subst h8
   have HF : Eqn (decide (U = 0)) true := by rw [Eqn]; exact decide_eq_true (HZ.out.2 HI.out)
   go_wp2_with fail
   go_ret
   exact ⟨ret_bool HF.out.symm, HB.out⟩
  ·have hx := idx_at S k (by omega)
   have c1 : W0.cell? ⟨w.heap.size + 1, k, none⟩ = some (.int .u64 (wd T k)) := HT.out.cell (tabL_at (by omega))
   have e1 := HOP.out k
   have j1 : (k : Int) < 8 := by omega
   by_cases hz : wd U k = 0
   ·rw [hz] at e1
    go_wp2_with fail
    go_round
    case rel => exact ⟨k + 1, by omega, by go_num, Lib.hid (fun j hj => by rcases Nat.lt_or_ge j k with h | h; exact HI.out j h; rw [show j = k by omega]; exact hz)⟩
    case measure => simp [intOf]; omega
   ·have HF : Eqn (decide (U = 0)) false := by
     rw [Eqn]; exact decide_eq_false (fun h => hz (HZ.out.1 h k (by omega)))
    have hne : ((wd U k : Int) != 0) = true := by simp; omega
    clear hz
    go_wp2_with fail
    go_ret
    exact ⟨ret_bool HF.out.symm, HB.out⟩
def zero8 (W : World) (g : Nat) : World :=
 (((((((W.setCell ⟨g, 0, none⟩ (.int .u64 0)).setCell ⟨g, 1, none⟩ (.int .u64 0)).setCell ⟨g, 2, none⟩ (.int .u64 0)).setCell ⟨g, 3, none⟩ (.int .u64 0)).setCell ⟨g, 4, none⟩ (.int .u64 0)).setCell ⟨g, 5, none⟩ (.int .u64 0)).setCell ⟨g, 6, none⟩ (.int .u64 0)).setCell ⟨g, 7, none⟩ (.int .u64 0)
theorem set8_zero (W : World) (g : Nat) : set8 W g 0 = zero8 W g := by simp [set8, zero8, wd_zero]
def ofGo (acc : Nat) : List Int → Option Nat
 | [] => some acc
 | i :: r => if 0 ≤ i ∧ i < 512 then ofGo (acc ||| 2 ^ i.toNat) r else none
def ofF (l : List Int) : Nat × Int := match ofGo 0 l with | some S => (S, 0) | none => (0, 2)
theorem of_any (A : Option Addr) (n c : Nat) (w : World) (l : List Int) (hn : n ≤ 9223372036854775807) (hl : Row1 intV w w.heap.size A n l) :
  Calls Tryz.prog 36 #[.slice A n c] w (RetPost (.tuple #[sV (ofF l).1, .int .i64 (ofF l).2]) w.heap.size w) := by
 have Hl := Lib.hid hl
 have Hlen := Eqn.mk hl.1
 clear hl
 go_enter Tryz.func36, Tryz.ntmps36
 go_wp2_with fail
 obtain ⟨W0, hW0⟩ : ∃ W0, W0 = (w.alloc (.cells (sL 0).toArray 100)).alloc (.cells (sL 0).toArray 100) := ⟨_, rfl⟩
 have hR : Blk W0 w.heap.size 100 (tabL 8 (sC 0)) := by rw [hW0, ← sL_tab]; exact (blk_new w _ _).alloc _
 have hS : Blk W0 (w.heap.size + 1) 100 (tabL 8 (sC 0)) := by
  rw [hW0, ← sL_tab]; have := blk_new (w.alloc (.cells (sL 0).toArray 100)) (sL 0) 100; rwa [World.size_alloc] at this
 have hB : Below w.heap.size w W0 := by rw [hW0]; exact ((Below.refl _ w).alloc (Nat.le_refl _) _).alloc (by simp) _
 rw [sL_zero] at hW0
 rw [← hW0]
 have HS := Lib.hid hS
 have HR := Lib.hid hR
 have HB := Lib.hid hB
 clear hW0 hS hR hB
 go_loopw [9] (fun i wr => ∃ (k S : Nat), k ≤ n ∧ i = .int .i64 k ∧ Blk wr (w.heap.size + 1) 100 (tabL 8 (sC S)) ∧ Blk wr w.heap.size 100 (tabL 8 (sC 0)) ∧ Below w.heap.size w wr ∧ Eqn (ofGo 0 l) (ofGo S (l.drop k))) (fun i _ => n - (intOf i).toNat)
 case atStart => exact ⟨0, 0, Nat.zero_le _, rfl, HS.out, HR.out, HB.out, rfl⟩
 case round =>
  clear HS HR HB
  obtain ⟨k, S, hk, rfl, hS, hR, hB, HE⟩ := hrel
  have HB := Lib.hid hB
  have HS := Lib.hid hS
  have HR := Lib.hid hR
  obtain ⟨wo, hwo⟩ : ∃ wo : World, wo = wr := ⟨_, rfl⟩
  by_cases hlt : k < n
  ·obtain ⟨p, hp, hpd⟩ := drop_at (xs := l) (k := k) (by rw [Hlen.out]; exact hlt)
   obtain ⟨b, off, rfl, hbl, hc⟩ := (Hl.out.below hB).2 (by omega)
   have c0 := hc k p hp
   simp only [intV] at c0
   have HE' : Eqn (ofGo 0 l) (if 0 ≤ p ∧ p < 512 then ofGo (S ||| 2 ^ p.toNat) (l.drop (k + 1)) else none) := by
    have := HE.out; rw [hpd, ofGo] at this; exact this
   have j0 : (k : Int) < (n : Int) := by omega
   clear hc hp hpd HE hS hR hB
   by_cases hi : 0 ≤ p ∧ p < 512
   ·have HE2 : Eqn (ofGo 0 l) (ofGo (S ||| 2 ^ p.toNat) (l.drop (k + 1))) := by rw [Eqn, HE'.out, if_pos hi]
    obtain ⟨q, j, hq, hj, hqj⟩ : ∃ q j : Nat, q < 8 ∧ j < 64 ∧ p = 64 * (q : Int) + (j : Int) := ⟨(p / 64).toNat, (p % 64).toNat, by omega, by omega, by omega⟩
    have HQ := Lib.hid hqj
    have e1 : IntKind.i64.wrap (p.tdiv 64) = (q : Int) := by rw [IntWalk.i64_quo _ _ (by omega)]; omega
    have e2 : p.tmod 64 = (j : Int) := by rw [IntWalk.rem_in _ _ (by omega)]; omega
    have e3 := wrap_pow hj
    have h1 : decide (0 ≤ p ∧ p < 512) = true := by simpa using hi
    have j1 : (q : Int) < 8 := by omega
    have c1 : wr.cell? ⟨w.heap.size + 1, q, none⟩ = some (.int .u64 (wd S q)) := HS.out.cell (tabL_at hq)
    have f1 : wr.frozen? ⟨w.heap.size + 1, q, none⟩ = false := HS.out.frozen q
    have hlt2 := HS.out.lt
    clear hqj hi HE' hwo
    go_wp2_with fail
    refine (inRange_any p _).mono ?_
    rintro e w1 ⟨rfl, rfl⟩
    go_wp2_with fail
    refine Lx.region (C := fun _ => True) (hs := []) (by kernel_rfl) (by kernel_rfl) trivial ?_
    repeat' (first | ((first | refine Lx.ln (fun K hK => ?_) | (first | (refine Lx.lp (v := ?_) ?_ (fun K hK => ?_); rotate_left 1; intro w' hCw; try dsimp only at hCw) | (refine Lx.lr (v := ?_) ?_ (fun K hK => ?_); rotate_left 1)); go_simp; first | done | with_reducible rfl); go_simp; refine hK _ ?_; clear hK K) | (refine Lx.le (fun K hK => ?_); go_simp; (first | fail | skip); refine hK _ _ (trivial) ?_; clear hK K) | (refine Lx.lex_cases rfl rfl rfl (fun hgd K hK => ?_) (fun hgd K hK => ?_) <;> (try simp only [decide_eq_true_eq, decide_eq_false_iff_not] at hgd) <;> (first | (exfalso; omega) | (go_simp; refine hK _ ?_; clear hK K))))
    all_goals (refine Lx.lex_nil ?_)
    go_wp2_with fail
    clear e1 e2 e3
    go_roundw
    case rel => exact ⟨k + 1, S ||| 2 ^ p.toNat, by omega, by go_num, by rw [show p.toNat = 64 * q + j by have := HQ.out; omega]; exact (HS.out.orbit hj).drew, (HR.out.other _ _ (by simp)).drew, (HB.out.setCell (p := ⟨w.heap.size + 1, q, none⟩) (by simp) _).drew, HE2⟩
    case measure => simp [intOf]; omega
   ·have HF : Eqn (ofF l) (0, 2) := by rw [Eqn, ofF, HE'.out, if_neg hi]
    have h1 : decide (0 ≤ p ∧ p < 512) = false := by simpa using hi
    obtain ⟨d0, d1, d2, d3, d4, d5, d6, d7⟩ := HR.out.eight
    have hf : ∀ o, wr.frozen? ⟨w.heap.size, o, none⟩ = false := HR.out.frozen
    have hlt2 := HR.out.lt
    clear hi HE' hwo
    go_wp2_with fail
    refine (inRange_any p _).mono ?_
    rintro e w1 ⟨rfl, rfl⟩
    go_wp2_with fail
    have b2 := HR.out.set8 0
    have HB2 := below_set8 0 HB.out (Nat.le_refl w.heap.size)
    rw [set8_zero] at b2 HB2
    change bodyPost _ _ _ _ _ (zero8 wr w.heap.size)
    generalize zero8 wr w.heap.size = W2 at *
    obtain ⟨x0, x1, x2, x3, x4, x5, x6, x7⟩ := b2.eight
    refine bodyPost_ret (v := .tuple #[sV 0, .int .i64 2]) (by simp [results, Tryz.results36, go_sem, sV, x0, x1, x2, x3, x4, x5, x6, x7]) rfl ⟨by rw [HF.out], HB2⟩
  ·have HF : Eqn (ofF l) (S, 0) := by
    have := HE.out
    rw [drop_end (by rw [Hlen.out]; omega), ofGo] at this
    rw [Eqn, ofF, this]
   obtain ⟨c0, c1, c2, c3, c4, c5, c6, c7⟩ := hS.eight
   obtain ⟨d0, d1, d2, d3, d4, d5, d6, d7⟩ := hR.eight
   have hf : ∀ o, wr.frozen? ⟨w.heap.size, o, none⟩ = false := hR.frozen
   have hlt2 := hR.lt
   clear hS hR hB hwo HE
   go_wp2_with fail
   have b2 := HR.out.set8 S
   have HB2 := below_set8 S HB.out (Nat.le_refl w.heap.size)
   change bodyPost _ _ _ _ _ (set8 wr w.heap.size S)
   generalize set8 wr w.heap.size S = W2 at *
   obtain ⟨x0, x1, x2, x3, x4, x5, x6, x7⟩ := b2.eight
   refine bodyPost_ret (v := .tuple #[sV S, .int .i64 0]) (by simp [results, Tryz.results36, go_sem, sV, x0, x1, x2, x3, x4, x5, x6, x7]) rfl ⟨by rw [HF.out], HB2⟩
theorem ofGo_in : ∀ (l : List Int) (acc : Nat), (∀ i ∈ l, 0 ≤ i ∧ i < 512) → ofGo acc l = some (l.foldl (fun a i => a ||| 2 ^ i.toNat) acc) := by
 intro l
 induction l with
 | nil => intro acc _; rfl
 | cons i r ih =>
  intro acc h
  rw [ofGo, if_pos (h i (by simp)), ih _ (fun j hj => h j (by simp [hj]))]
  rfl
theorem ofF_in {l : List Int} (h : ∀ i ∈ l, 0 ≤ i ∧ i < 512) : ofF l = (stS l, 0) := by
 unfold ofF
 rw [ofGo_in l 0 h]
 rfl
theorem members_any (s : PrbS) (w : World) (ds : List Dom) (hn : s.nd ≤ 100000) (hst : ∀ y ∈ ds.map Dom.st, 0 ≤ y ∧ y < 512) (hl : RowS 2 Dom.cell w w.heap.size s.ad s.nd ds) :
  Calls Tryz.prog 76 #[s.val] w (RetPost (sV (stS (ds.map Dom.st))) w.heap.size w) := by
 obtain ⟨A, n, c, ⟨A0, n0, c0, A1, n1, c1, A2, n2, c2⟩⟩ := s
 obtain ⟨i0, hi, hz0, hz1, hz2⟩ := info_parts int_info
 dsimp only at hn hl
 obtain ⟨W0, hW0⟩ : ∃ W0, W0 = (w.alloc (.cells #[.slice A n c, .slice A0 n0 c0, .slice A1 n1 c1, .slice A2 n2 c2] 29)).alloc (.cells (sL 0).toArray 100) := ⟨_, rfl⟩
 have hB0 : Below w.heap.size w W0 := by rw [hW0]; exact ((Below.refl _ w).alloc (Nat.le_refl _) _).alloc (by simp) _
 have hs0 : W0.heap.size = w.heap.size + 2 := by rw [hW0]; simp
 have hX : Blk W0 w.heap.size 29 [.slice A n c, .slice A0 n0 c0, .slice A1 n1 c1, .slice A2 n2 c2] := by rw [hW0]; exact (blk_new w _ _).alloc _
 have hS : Blk W0 (w.heap.size + 1) 100 (tabL 8 (sC 0)) := by
  rw [hW0, ← sL_tab]
  have := blk_new (w.alloc (.cells #[.slice A n c, .slice A0 n0 c0, .slice A1 n1 c1, .slice A2 n2 c2] 29)) (sL 0) 100
  rwa [World.size_alloc] at this
 have Hl := Lib.hid (hl.keep hB0)
 have Hlen := Eqn.mk hl.1
 have HS := Lib.hid hS
 have HX := Lib.hid hX
 have q0 : W0.cell? ⟨w.heap.size, 0, none⟩ = some (.slice A n c) := hX.cell rfl
 have HB0 := Lib.hid hB0
 obtain ⟨L, hL⟩ : ∃ L, L = ds.map Dom.st := ⟨_, rfl⟩
 have HLl : Eqn L.length n := by rw [Eqn, hL, List.length_map, Hlen.out]
 have HLE := Eqn.mk hL
 have HOF : Eqn (ofF L) (stS L, 0) := ofF_in (by rw [hL]; exact hst)
 rw [← hL]
 unfold PrbS.val
 dsimp only
 have hlw : w.heap.size < W0.heap.size := by omega
 clear hl hX hS hB0 hst hL hs0
 go_enter Tryz.func76, Tryz.ntmps76
 rw [sL_zero] at hW0
 go_upto_region 1 with fail
 rw [← hW0]
 clear hW0
 go_wp2_with (at_make; refine wpList_make_full _ rfl _ _ 31 rfl W0.heap.size 3 i0 (.int .i64 0) 1 Tryz.underlying31 hi hz0 hz1 .i64 .i64 _ _ n rfl rfl rfl rfl (by rw [hz2]; omega) (by unfold maxLen; omega) (Nat.le_refl _) ?_; intro w2 hown hgrow; have hq : w2.cell? ⟨w.heap.size, 0, none⟩ = some (.slice A n c) := (((Below.refl W0.heap.size W0).grown hgrow (Nat.le_refl _) (fun g hg => by cases hg)).cell (p := ⟨w.heap.size, 0, none⟩) (by dsimp only; omega)).trans q0; have hown' := Lib.hid (made_zeros (f := intV) rfl hown); have B2 : Hid (Below W0.heap.size W0 w2) := Lib.hid ((Below.refl _ _).grown hgrow (Nat.le_refl _) (fun g hg => by cases hg)); clear hown hgrow q0)
 clear hq
 go_loopw [15] (fun i wr => ∃ k : Nat, k ≤ n ∧ i = .int .i64 k ∧ wr.ownsRow W0.heap.size 3 1 (.slice (some ⟨W0.heap.size, 0, none⟩) n n) n ((L.take k ++ List.replicate (n - k) 0).map intV) ∧ Below W0.heap.size W0 wr) (fun i _ => n - (intOf i).toNat)
 case atStart => exact ⟨0, Nat.zero_le _, rfl, by simpa using hown'.out, B2.out⟩
 case round =>
  obtain ⟨k, hk, rfl, HO, HW⟩ := hrel
  have HWW := Lib.hid HW
  have hws := HW.size
  by_cases hlt : k < n
  ·obtain ⟨p, hp, _⟩ := drop_at (xs := ds) (k := k) (by rw [Hlen.out]; exact hlt)
   obtain ⟨b, off, hA, hbl, hc⟩ := (Hl.out.below HW).2 (by omega)
   have HLk : L[k]? = some p.st := by rw [HLE.out, List.getElem?_map, hp]; rfl
   obtain ⟨st, adr, len, cap, chs⟩ := p
   have e0 := hc k _ hp 0 (by omega)
   have e1 := hc k _ hp 1 (by omega)
   simp only [Dom.cell, Nat.add_zero] at e0 e1
   subst hA
   have HOA : wr.alloc (.cells #[.int .i64 st, .slice adr len cap] 78) |>.ownsRow W0.heap.size 3 1 (.slice (some ⟨W0.heap.size, 0, none⟩) n n) n ((L.take k ++ List.replicate (n - k) 0).map intV) := HO.alloc _
   have hfr := HOA.frozenAt k
   obtain ⟨u0, hu0⟩ := own_cell HOA hlt
   have hgl := (HOA.lt W0.heap.size rfl).2
   have HSt := Lib.hid (fun u => (HOA.stored k u).1)
   have HX2 : Eqn (L.take k ++ List.replicate (n - k) 0 |>.set k st) (L.take (k + 1) ++ List.replicate (n - (k + 1)) 0) := fill_set 0 L n k _ HLl.out HLk
   have j0 : (k : Int) < (n : Int) := by omega
   have hbw : b < wr.heap.size := by omega
   obtain ⟨V, hV⟩ : ∃ V, V = wr.alloc (.cells #[.int .i64 st, .slice adr len cap] 78) := ⟨_, rfl⟩
   have v0 : V.cell? ⟨wr.heap.size, 0, none⟩ = some (.int .i64 st) := by rw [hV]; simp [go_sem]
   have hvl : wr.heap.size < V.heap.size := by rw [hV]; simp
   rw [← hV] at hfr hu0 hgl HSt
   have HVB : Hid (Below W0.heap.size W0 V) := Lib.hid (by rw [hV]; exact HW.alloc hws _)
   clear hc hp HO HW HLk HOA
   go_upto_region 5 with fail
   rw [← hV]
   clear hV e0 e1
   go_wp2_with fail
   go_roundw
   case rel =>
    refine ⟨k + 1, by omega, by go_num, ?_, HVB.out.setCell (by simp) _⟩
    rw [← HX2.out, List.map_set]
    exact HSt.out _
   case measure => simp [intOf]; omega
  ·obtain rfl : k = n := by omega
   have hT : L.take k ++ List.replicate (k - k) 0 = L := by rw [List.take_of_length_le (by rw [HLl.out]; omega)]; simp
   rw [hT] at HO
   have HRW : Hid (Row1 intV wr wr.heap.size (some ⟨W0.heap.size, 0, none⟩) k L) := Lib.hid (row1_own HO)
   have HOFA := Lib.hid (of_any _ k k wr L (by omega) HRW.out)
   rw [HOF.out] at HOFA
   dsimp only at HOFA
   clear HO HW hT
   go_wp2_with fail
   refine HOFA.out.mono ?_
   rintro e W2 ⟨rfl, hb2⟩
   have HB2 := Lib.hid (HWW.out.trans (hb2.mono hws))
   have hS2 := (HS.out.keep HWW.out).keep hb2
   have HS2 := Lib.hid hS2
   clear hb2
   generalize stS L = S at *
   obtain ⟨V, hV⟩ : ∃ V, V = W2.alloc (.cells (sL S).toArray 100) := ⟨_, rfl⟩
   have hbv : Below W2.heap.size W2 V := by rw [hV]; exact (Below.refl _ _).alloc (Nat.le_refl _) _
   have hs6 : Blk V W2.heap.size 100 (tabL 8 (sC S)) := by rw [hV, ← sL_tab]; exact blk_new _ _ _
   obtain ⟨d0, d1, d2, d3, d4, d5, d6, d7⟩ := hs6.eight
   have hd := hs6.lt
   have hSV := HS2.out.keep hbv
   have hf : ∀ o, V.frozen? ⟨w.heap.size + 1, o, none⟩ = false := hSV.frozen
   obtain ⟨x0, x1, x2, x3, x4, x5, x6, x7⟩ := hSV.eight
   have hlt' := hSV.lt
   have HSV := Lib.hid hSV
   have HBV := Lib.hid (HB0.out.trans ((HB2.out.trans (hbv.mono HB2.out.size)).mono (by omega)))
   unfold sL at hV
   unfold sV
   clear hS2 hbv hs6 hSV
   go_upto_region 8 with fail
   rw [← hV]
   clear hV
   go_wp2_with fail
   have b := HSV.out.set8 S
   have HB3 := below_set8 S HBV.out (Nat.le_add_right w.heap.size 1)
   change bodyPost _ _ _ _ _ (set8 V (w.heap.size + 1) S)
   generalize set8 V (w.heap.size + 1) S = V2 at *
   obtain ⟨y0, y1, y2, y3, y4, y5, y6, y7⟩ := b.eight
   refine bodyPost_ret (v := sV S) (by simp [results, Tryz.results76, go_sem, sV, y0, y1, y2, y3, y4, y5, y6, y7]) rfl ⟨rfl, HB3⟩
end Go.Proofs.YtdpbbhbegehcjaaGreatDoor
