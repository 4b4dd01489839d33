/- Contracts of product.Supply, Worth and Find, and of the reference's. -/
import Derived.Test.YtpgomblalmnonaaDoorOwn
import Derived.Test.YtpgomblalmnonaaDoorPlain33
import Derived.Test.YtpgomblalmnonaaDoorLex
namespace Go.Proofs.YtpgomblalmnonaaDoor
open Go.RowKit

theorem pv_ok {l : List Prod} (h : prodValid l = true) : ∀ p ∈ l, ¬ badP p := by
  rw [prodValid_eq] at h
  exact refGo_ok l none h

def sumP (g : Prod → Int) : List Prod → Int → Int
  | [], acc => acc
  | p :: r, acc => sumP g r (acc + g p)
def worP (p : Prod) : Int := p.sup * p.res
def supplyF (l : List Prod) : Int × Int := if prodValid l = true then (sumP Prod.sup l 0, 0) else (0, 2)
def worthF (l : List Prod) : Int × Int := if prodValid l = true then (sumP worP l 0, 0) else (0, 2)
def findGo (a c : Int) : List Prod → Int → Int × Int
  | [], _ => (0, 9)
  | p :: r, k => if p.area = a ∧ p.cat = c then (k, 0) else findGo a c r (k + 1)
def findF (l : List Prod) (a c : Int) : Int × Int := if prodValid l = true then findGo a c l 0 else (0, 2)

theorem mul_bd2 (x y u v : Int) (h0 : 0 ≤ x) (h1 : x ≤ u) (h2 : 0 ≤ y) (h3 : y ≤ v) : 0 ≤ x * y ∧ x * y ≤ u * v :=
  ⟨Int.mul_nonneg h0 h2, Int.mul_le_mul h1 h3 h2 (by omega)⟩

set_option maxHeartbeats 1000000 in
theorem supply_any (A : Option Addr) (n c : Nat) (w : World) (l : List Prod) (hn : n ≤ 140) (hl : RowS 5 Prod.cell w w.heap.size A n l) :
    Calls Tryd.prog 20 #[.slice A n c] w (RetPost (v2 (supplyF l)) w.heap.size w) := by
  have Hl := Lib.hid hl
  have Hlen := Eqn.mk hl.1
  clear hl
  cases hv : prodValid l with
  | false =>
    have HV : Eqn (prodValid l) false := hv
    have HF : Eqn (supplyF l) (0, 2) := by unfold supplyF Eqn; rw [if_neg (by rw [hv]; simp)]
    clear hv
    go_enter Tryd.func20, Tryd.ntmps20
    go_wp2_with fail
    refine (prodValid_any A n c l _ hn Hl.out).mono ?_
    rw [HV.out]
    rintro e w1 ⟨rfl, hb1⟩
    go_wp2_with fail
    go_ret2
    exact ⟨by rw [HF.out]; rfl, hb1⟩
  | true =>
    have HV : Eqn (prodValid l) true := hv
    have HF : Eqn (supplyF l) (sumP Prod.sup l 0, 0) := by unfold supplyF Eqn; rw [if_pos hv]
    have HOK := Lib.hid (pv_ok hv)
    clear hv
    go_enter Tryd.func20, Tryd.ntmps20
    go_wp2_with fail
    refine (prodValid_any A n c l _ hn Hl.out).mono ?_
    rw [HV.out]
    rintro e w1 ⟨rfl, hb1⟩
    have B1 := Lib.hid hb1
    clear hb1
    go_wp2_with fail
    go_loopw [4, 12] (fun t i wr => ∃ (k : Nat) (acc : Int), k ≤ n ∧ i = .int .i64 k ∧ t = .int .i64 acc ∧ 0 ≤ acc ∧ acc ≤ k * 12 ∧ Eqn (sumP Prod.sup l 0) (sumP Prod.sup (l.drop k) acc) ∧ Below w.heap.size w wr) (fun _ i _ => n - (intOf i).toNat)
    case atStart => exact ⟨0, 0, Nat.zero_le _, rfl, rfl, Int.le_refl _, by omega, rfl, B1.out⟩
    case round =>
      obtain ⟨k, acc, hk, rfl, rfl, ha0, ha1, HR, HW⟩ := hrel
      have HWW := Lib.hid HW
      have hws := HW.size
      by_cases hlt : k < n
      · obtain ⟨p, hp, hpd⟩ := drop_at (xs := l) (k := k) (by rw [Hlen.out]; exact hlt)
        obtain ⟨b, off, rfl, hbl, hc⟩ := (Hl.out.below HW).2 (by omega)
        have c0 := hc k p hp 0 (by omega)
        have c1 := hc k p hp 1 (by omega)
        have c2 := hc k p hp 2 (by omega)
        have c3 := hc k p hp 3 (by omega)
        have c4 := hc k p hp 4 (by omega)
        simp only [Prod.cell, Nat.add_zero] at c0 c1 c2 c3 c4
        have hbad := HOK.out p (List.mem_of_getElem? hp)
        unfold badP at hbad
        obtain ⟨b1, b2, b3, b4⟩ : 1 ≤ p.sup ∧ p.sup ≤ 12 ∧ 0 ≤ p.res ∧ p.res ≤ 549755813888 := by omega
        have hbs : b < wr.heap.size := by omega
        have HR' : Eqn (sumP Prod.sup l 0) (sumP Prod.sup (l.drop (k + 1)) (acc + p.sup)) := by
          have := HR.out; rw [hpd, sumP] at this; exact this
        clear hc hp hpd HR HW hbad
        go_wp2_with fail
        go_roundw
        case rel => exact ⟨k + 1, acc + p.sup, by omega, by go_num, rfl, by omega, by omega, HR', HWW.out.alloc hws _⟩
        case measure => simp [intOf]; omega
      · have HR2 : Eqn (sumP Prod.sup l 0) acc := by rw [Eqn, HR.out, drop_end (by rw [Hlen.out]; omega)]; rfl
        clear HR HW
        go_wp2_with fail
        go_ret2
        exact ⟨by rw [HF.out, HR2.out]; rfl, HWW.out⟩

set_option maxHeartbeats 1000000 in
theorem rsupply_any (A : Option Addr) (n c : Nat) (w : World) (l : List Prod) (hn : n ≤ 140) (hl : RowS 5 Prod.cell w w.heap.size A n l) :
    Calls Tryd.prog 21 #[.slice A n c] w (RetPost (v2 (supplyF l)) w.heap.size w) := by
  have Hl := Lib.hid hl
  have Hlen := Eqn.mk hl.1
  clear hl
  cases hv : prodValid l with
  | false =>
    have HV : Eqn (refValid l) false := by rw [← prodValid_eq]; exact hv
    have HF : Eqn (supplyF l) (0, 2) := by unfold supplyF Eqn; rw [if_neg (by rw [hv]; simp)]
    clear hv
    go_enter Tryd.func21, Tryd.ntmps21
    go_wp2_with fail
    refine (refValid_any A n c l _ hn Hl.out).mono ?_
    rw [HV.out]
    rintro e w1 ⟨rfl, hb1⟩
    go_wp2_with fail
    go_ret2
    exact ⟨by rw [HF.out]; rfl, hb1⟩
  | true =>
    have HV : Eqn (refValid l) true := by rw [← prodValid_eq]; exact hv
    have HF : Eqn (supplyF l) (sumP Prod.sup l 0, 0) := by unfold supplyF Eqn; rw [if_pos hv]
    have HOK := Lib.hid (pv_ok hv)
    clear hv
    go_enter Tryd.func21, Tryd.ntmps21
    go_wp2_with fail
    refine (refValid_any A n c l _ hn Hl.out).mono ?_
    rw [HV.out]
    rintro e w1 ⟨rfl, hb1⟩
    have B1 := Lib.hid hb1
    clear hb1
    go_wp2_with fail
    go_loopw [4, 5] (fun t i wr => ∃ (k : Nat) (acc : Int), k ≤ n ∧ i = .int .i64 k ∧ t = .int .i64 acc ∧ 0 ≤ acc ∧ acc ≤ k * 12 ∧ Eqn (sumP Prod.sup l 0) (sumP Prod.sup (l.drop k) acc) ∧ Below w.heap.size w wr) (fun _ i _ => n - (intOf i).toNat)
    case atStart => exact ⟨0, 0, Nat.zero_le _, rfl, rfl, Int.le_refl _, by omega, rfl, B1.out⟩
    case round =>
      obtain ⟨k, acc, hk, rfl, rfl, ha0, ha1, HR, HW⟩ := hrel
      have HWW := Lib.hid HW
      have hws := HW.size
      by_cases hlt : k < n
      · obtain ⟨p, hp, hpd⟩ := drop_at (xs := l) (k := k) (by rw [Hlen.out]; exact hlt)
        obtain ⟨b, off, rfl, hbl, hc⟩ := (Hl.out.below HW).2 (by omega)
        have c2 := hc k p hp 2 (by omega)
        simp only [Prod.cell] at c2
        have hbad := HOK.out p (List.mem_of_getElem? hp)
        unfold badP at hbad
        obtain ⟨b1, b2, b3, b4⟩ : 1 ≤ p.sup ∧ p.sup ≤ 12 ∧ 0 ≤ p.res ∧ p.res ≤ 549755813888 := by omega
        have hbs : b < wr.heap.size := by omega
        have HR' : Eqn (sumP Prod.sup l 0) (sumP Prod.sup (l.drop (k + 1)) (acc + p.sup)) := by
          have := HR.out; rw [hpd, sumP] at this; exact this
        clear hc hp hpd HR HW hbad
        go_wp2_with fail
        go_roundw
        case rel => exact ⟨k + 1, acc + p.sup, by omega, by go_num, rfl, by omega, by omega, HR', HWW.out⟩
        case measure => simp [intOf]; omega
      · have HR2 : Eqn (sumP Prod.sup l 0) acc := by rw [Eqn, HR.out, drop_end (by rw [Hlen.out]; omega)]; rfl
        clear HR HW
        go_wp2_with fail
        go_ret2
        exact ⟨by rw [HF.out, HR2.out]; rfl, HWW.out⟩

set_option maxHeartbeats 1000000 in
theorem worth_any (A : Option Addr) (n c : Nat) (w : World) (l : List Prod) (hn : n ≤ 140) (hl : RowS 5 Prod.cell w w.heap.size A n l) :
    Calls Tryd.prog 22 #[.slice A n c] w (RetPost (v2 (worthF l)) w.heap.size w) := by
  have Hl := Lib.hid hl
  have Hlen := Eqn.mk hl.1
  clear hl
  cases hv : prodValid l with
  | false =>
    have HV : Eqn (prodValid l) false := hv
    have HF : Eqn (worthF l) (0, 2) := by unfold worthF Eqn; rw [if_neg (by rw [hv]; simp)]
    clear hv
    go_enter Tryd.func22, Tryd.ntmps22
    go_wp2_with fail
    refine (prodValid_any A n c l _ hn Hl.out).mono ?_
    rw [HV.out]
    rintro e w1 ⟨rfl, hb1⟩
    go_wp2_with fail
    go_ret2
    exact ⟨by rw [HF.out]; rfl, hb1⟩
  | true =>
    have HV : Eqn (prodValid l) true := hv
    have HF : Eqn (worthF l) (sumP worP l 0, 0) := by unfold worthF Eqn; rw [if_pos hv]
    have HOK := Lib.hid (pv_ok hv)
    clear hv
    go_enter Tryd.func22, Tryd.ntmps22
    go_wp2_with fail
    refine (prodValid_any A n c l _ hn Hl.out).mono ?_
    rw [HV.out]
    rintro e w1 ⟨rfl, hb1⟩
    have B1 := Lib.hid hb1
    clear hb1
    go_wp2_with fail
    go_loopw [4, 12] (fun t i wr => ∃ (k : Nat) (acc : Int), k ≤ n ∧ i = .int .i64 k ∧ t = .int .i64 acc ∧ 0 ≤ acc ∧ acc ≤ k * 6597069766656 ∧ Eqn (sumP worP l 0) (sumP worP (l.drop k) acc) ∧ Below w.heap.size w wr) (fun _ i _ => n - (intOf i).toNat)
    case atStart => exact ⟨0, 0, Nat.zero_le _, rfl, rfl, Int.le_refl _, by omega, rfl, B1.out⟩
    case round =>
      obtain ⟨k, acc, hk, rfl, rfl, ha0, ha1, HR, HW⟩ := hrel
      have HWW := Lib.hid HW
      have hws := HW.size
      by_cases hlt : k < n
      · obtain ⟨p, hp, hpd⟩ := drop_at (xs := l) (k := k) (by rw [Hlen.out]; exact hlt)
        obtain ⟨b, off, rfl, hbl, hc⟩ := (Hl.out.below HW).2 (by omega)
        have c0 := hc k p hp 0 (by omega)
        have c1 := hc k p hp 1 (by omega)
        have c2 := hc k p hp 2 (by omega)
        have c3 := hc k p hp 3 (by omega)
        have c4 := hc k p hp 4 (by omega)
        simp only [Prod.cell, Nat.add_zero] at c0 c1 c2 c3 c4
        have hbad := HOK.out p (List.mem_of_getElem? hp)
        unfold badP at hbad
        obtain ⟨b1, b2, b3, b4⟩ : 1 ≤ p.sup ∧ p.sup ≤ 12 ∧ 0 ≤ p.res ∧ p.res ≤ 549755813888 := by omega
        have hbs : b < wr.heap.size := by omega
        have HR' : Eqn (sumP worP l 0) (sumP worP (l.drop (k + 1)) (acc + p.sup * p.res)) := by
          have := HR.out; rw [hpd, sumP] at this; exact this
        obtain ⟨m1, m2⟩ := mul_bd2 p.sup p.res 12 549755813888 (by omega) b2 b3 b4
        clear hc hp hpd HR HW hbad
        go_wp2_with fail
        go_roundw
        case rel => exact ⟨k + 1, acc + p.sup * p.res, by omega, by go_num, rfl, by omega, by omega, HR', HWW.out.alloc hws _⟩
        case measure => simp [intOf]; omega
      · have HR2 : Eqn (sumP worP l 0) acc := by rw [Eqn, HR.out, drop_end (by rw [Hlen.out]; omega)]; rfl
        clear HR HW
        go_wp2_with fail
        go_ret2
        exact ⟨by rw [HF.out, HR2.out]; rfl, HWW.out⟩

set_option maxHeartbeats 1000000 in
theorem rworth_any (A : Option Addr) (n c : Nat) (w : World) (l : List Prod) (hn : n ≤ 140) (hl : RowS 5 Prod.cell w w.heap.size A n l) :
    Calls Tryd.prog 23 #[.slice A n c] w (RetPost (v2 (worthF l)) w.heap.size w) := by
  have Hl := Lib.hid hl
  have Hlen := Eqn.mk hl.1
  clear hl
  cases hv : prodValid l with
  | false =>
    have HV : Eqn (refValid l) false := by rw [← prodValid_eq]; exact hv
    have HF : Eqn (worthF l) (0, 2) := by unfold worthF Eqn; rw [if_neg (by rw [hv]; simp)]
    clear hv
    go_enter Tryd.func23, Tryd.ntmps23
    go_wp2_with fail
    refine (refValid_any A n c l _ hn Hl.out).mono ?_
    rw [HV.out]
    rintro e w1 ⟨rfl, hb1⟩
    go_wp2_with fail
    go_ret2
    exact ⟨by rw [HF.out]; rfl, hb1⟩
  | true =>
    have HV : Eqn (refValid l) true := by rw [← prodValid_eq]; exact hv
    have HF : Eqn (worthF l) (sumP worP l 0, 0) := by unfold worthF Eqn; rw [if_pos hv]
    have HOK := Lib.hid (pv_ok hv)
    clear hv
    go_enter Tryd.func23, Tryd.ntmps23
    go_wp2_with fail
    refine (refValid_any A n c l _ hn Hl.out).mono ?_
    rw [HV.out]
    rintro e w1 ⟨rfl, hb1⟩
    have B1 := Lib.hid hb1
    clear hb1
    go_wp2_with fail
    go_loopw [4, 5] (fun t i wr => ∃ (k : Nat) (acc : Int), k ≤ n ∧ i = .int .i64 k ∧ t = .int .i64 acc ∧ 0 ≤ acc ∧ acc ≤ k * 6597069766656 ∧ Eqn (sumP worP l 0) (sumP worP (l.drop k) acc) ∧ Below w.heap.size w wr) (fun _ i _ => n - (intOf i).toNat)
    case atStart => exact ⟨0, 0, Nat.zero_le _, rfl, rfl, Int.le_refl _, by omega, rfl, B1.out⟩
    case round =>
      obtain ⟨k, acc, hk, rfl, rfl, ha0, ha1, HR, HW⟩ := hrel
      have HWW := Lib.hid HW
      have hws := HW.size
      by_cases hlt : k < n
      · obtain ⟨p, hp, hpd⟩ := drop_at (xs := l) (k := k) (by rw [Hlen.out]; exact hlt)
        obtain ⟨b, off, rfl, hbl, hc⟩ := (Hl.out.below HW).2 (by omega)
        have c2 := hc k p hp 2 (by omega)
        have c4 := hc k p hp 4 (by omega)
        simp only [Prod.cell] at c2 c4
        have hbad := HOK.out p (List.mem_of_getElem? hp)
        unfold badP at hbad
        obtain ⟨b1, b2, b3, b4⟩ : 1 ≤ p.sup ∧ p.sup ≤ 12 ∧ 0 ≤ p.res ∧ p.res ≤ 549755813888 := by omega
        have hbs : b < wr.heap.size := by omega
        have HR' : Eqn (sumP worP l 0) (sumP worP (l.drop (k + 1)) (acc + p.sup * p.res)) := by
          have := HR.out; rw [hpd, sumP] at this; exact this
        obtain ⟨m1, m2⟩ := mul_bd2 p.sup p.res 12 549755813888 (by omega) b2 b3 b4
        have e1 : IntKind.i64.wrap (p.sup * p.res) = p.sup * p.res := by rw [IntKind.wrap_i64]; omega
        have e2 : IntKind.i64.wrap (acc + p.sup * p.res) = acc + p.sup * p.res := by rw [IntKind.wrap_i64]; omega
        have j0 : (0 : Int) ≤ (k : Int) := by omega
        have j1 : (k : Int) < (n : Int) := by omega
        clear hc hp hpd HR HW hbad
        go_wp2_with fail
        refine Lx.region (C := fun _ => True) (hs := []) (by kernel_rfl) (by kernel_rfl) trivial ?_
        repeat' (first
          | (refine Lx.lex_no (Lx.n1 rfl rfl rfl (by with_reducible rfl)) (fun K hK => ?_); go_simp; refine hK _ ?_; clear hK K)
          | (refine Lx.lex_no (Lx.n0 rfl rfl rfl (by with_reducible rfl)) (fun K hK => ?_); go_simp; refine hK _ ?_; clear hK K)
          | (refine Lx.lex_no (Lx.n2 rfl rfl rfl) (fun K hK => ?_); go_simp; refine hK _ ?_; clear hK K)
          | (refine Lx.lex_pure (v := ?_) rfl (by first | exact Lx.w0 rfl | exact Lx.w1 rfl rfl rfl (by with_reducible rfl)) ?_ (fun K hK => ?_); rotate_left 1; (intro w' hCw; (try dsimp only at hCw); go_simp; done); go_simp; refine hK _ ?_; clear hK K)
          | (refine Lx.lex_pure (v := ?_) rfl (by first | exact Lx.w0 rfl | exact Lx.w1 rfl rfl rfl (by with_reducible rfl)) ?_ (fun K hK => ?_); rotate_left 1; (intro w' hCw; (try dsimp only at hCw); go_simp; with_reducible rfl); go_simp; refine hK _ ?_; clear hK K)
          | (refine Lx.lex_read (v := ?_) rfl (by first | exact Lx.w0 rfl | exact Lx.w1 rfl rfl rfl (by with_reducible rfl)) ?_ (fun K hK => ?_); rotate_left 1; (go_simp; done); go_simp; refine hK _ ?_; clear hK K)
          | (refine Lx.lex_read (v := ?_) rfl (by first | exact Lx.w0 rfl | exact Lx.w1 rfl rfl rfl (by with_reducible rfl)) ?_ (fun K hK => ?_); rotate_left 1; (go_simp; with_reducible rfl); go_simp; refine hK _ ?_; clear hK K)
          | (refine Lx.lex_eff rfl (by first | exact Lx.w0 rfl | exact Lx.w1 rfl rfl rfl (by with_reducible rfl)) (fun K hK => ?_); go_simp; (first | fail | skip); refine hK _ _ (trivial) ?_; clear hK K)
          | (refine Lx.lex_cases rfl rfl rfl (fun hgd K hK => ?_) (fun hgd K hK => ?_) <;> (try simp only [decide_eq_true_eq, decide_eq_false_iff_not] at hgd) <;> (first | (exfalso; omega) | (go_simp; refine hK _ ?_; clear hK K))))
        all_goals (refine Lx.lex_nil ?_)
        clear e1 e2
        go_wp2_with fail
        go_roundw
        case rel => exact ⟨k + 1, acc + p.sup * p.res, by omega, by go_num, rfl, by omega, by omega, HR', HWW.out.drew⟩
        case measure => simp [intOf]; omega
      · have HR2 : Eqn (sumP worP l 0) acc := by rw [Eqn, HR.out, drop_end (by rw [Hlen.out]; omega)]; rfl
        clear HR HW
        go_wp2_with fail
        go_ret2
        exact ⟨by rw [HF.out, HR2.out]; rfl, HWW.out⟩

set_option maxHeartbeats 1000000 in
theorem find_any (A : Option Addr) (n c : Nat) (ar ca : Int) (w : World) (l : List Prod) (hn : n ≤ 140) (hl : RowS 5 Prod.cell w w.heap.size A n l) :
    Calls Tryd.prog 28 #[.slice A n c, .int .i64 ar, .int .i64 ca] w (RetPost (v2 (findF l ar ca)) w.heap.size w) := by
  have Hl := Lib.hid hl
  have Hlen := Eqn.mk hl.1
  clear hl
  cases hv : prodValid l with
  | false =>
    have HV : Eqn (prodValid l) false := hv
    have HF : Eqn (findF l ar ca) (0, 2) := by unfold findF Eqn; rw [if_neg (by rw [hv]; simp)]
    clear hv
    go_enter Tryd.func28, Tryd.ntmps28
    go_wp2_with fail
    refine (prodValid_any A n c l _ hn Hl.out).mono ?_
    rw [HV.out]
    rintro e w1 ⟨rfl, hb1⟩
    go_wp2_with fail
    go_ret2
    exact ⟨by rw [HF.out]; rfl, hb1⟩
  | true =>
    have HV : Eqn (prodValid l) true := hv
    have HF : Eqn (findF l ar ca) (findGo ar ca l 0) := by unfold findF Eqn; rw [if_pos hv]
    clear hv
    go_enter Tryd.func28, Tryd.ntmps28
    go_wp2_with fail
    refine (prodValid_any A n c l _ hn Hl.out).mono ?_
    rw [HV.out]
    rintro e w1 ⟨rfl, hb1⟩
    have B1 := Lib.hid hb1
    clear hb1
    go_wp2_with fail
    go_loopw [15] (fun i wr => ∃ k : Nat, k ≤ n ∧ i = .int .i64 k ∧ Eqn (findF l ar ca) (findGo ar ca (l.drop k) k) ∧ Below w.heap.size w wr) (fun i _ => n - (intOf i).toNat)
    case atStart => exact ⟨0, Nat.zero_le _, rfl, HF, B1.out⟩
    case round =>
      obtain ⟨k, hk, rfl, HR, HW⟩ := hrel
      have HWW := Lib.hid HW
      have hws := HW.size
      by_cases hlt : k < n
      · obtain ⟨p, hp, hpd⟩ := drop_at (xs := l) (k := k) (by rw [Hlen.out]; exact hlt)
        obtain ⟨b, off, rfl, hbl, hc⟩ := (Hl.out.below HW).2 (by omega)
        have c0 := hc k p hp 0 (by omega)
        have c1 := hc k p hp 1 (by omega)
        have c2 := hc k p hp 2 (by omega)
        have c3 := hc k p hp 3 (by omega)
        have c4 := hc k p hp 4 (by omega)
        simp only [Prod.cell, Nat.add_zero] at c0 c1 c2 c3 c4
        have hbs : b < wr.heap.size := by omega
        have HR' : Eqn (findF l ar ca) (if p.area = ar ∧ p.cat = ca then ((k : Int), 0) else findGo ar ca (l.drop (k + 1)) (k + 1)) := by
          have := HR.out; rw [hpd, findGo] at this; exact this
        clear hc hp hpd HR HW
        by_cases e1 : p.area = ar
        · have t1 : (p.area == ar) = true := by simpa using e1
          by_cases e2 : p.cat = ca
          · have t2 : (p.cat == ca) = true := by simpa using e2
            have HR2 : Eqn (findF l ar ca) ((k : Int), 0) := by rw [Eqn, HR'.out, if_pos ⟨e1, e2⟩]
            clear HR' e1 e2
            go_wp2_with fail
            go_ret2
            exact ⟨by rw [HR2.out]; rfl, HWW.out.alloc hws _⟩
          · have t2 : (p.cat == ca) = false := by simpa using e2
            have HR2 : Eqn (findF l ar ca) (findGo ar ca (l.drop (k + 1)) (k + 1)) := by rw [Eqn, HR'.out, if_neg (fun h => e2 h.2)]
            clear HR' e1 e2
            go_wp2_with fail
            go_roundw
            case rel => exact ⟨k + 1, by omega, by go_num, HR2, HWW.out.alloc hws _⟩
            case measure => simp [intOf]; omega
        · have t1 : (p.area == ar) = false := by simpa using e1
          have HR2 : Eqn (findF l ar ca) (findGo ar ca (l.drop (k + 1)) (k + 1)) := by rw [Eqn, HR'.out, if_neg (fun h => e1 h.1)]
          clear HR' e1
          go_wp2_with fail
          go_roundw
          case rel => exact ⟨k + 1, by omega, by go_num, HR2, HWW.out.alloc hws _⟩
          case measure => simp [intOf]; omega
      · have HR2 : Eqn (findF l ar ca) (0, 9) := by rw [Eqn, HR.out, drop_end (by rw [Hlen.out]; omega)]; rfl
        clear HR HW
        go_wp2_with fail
        go_ret2
        exact ⟨by rw [HR2.out]; rfl, HWW.out⟩

set_option maxHeartbeats 1000000 in
theorem rfind_any (A : Option Addr) (n c : Nat) (ar ca : Int) (w : World) (l : List Prod) (hn : n ≤ 140) (hl : RowS 5 Prod.cell w w.heap.size A n l) :
    Calls Tryd.prog 29 #[.slice A n c, .int .i64 ar, .int .i64 ca] w (RetPost (v2 (findF l ar ca)) w.heap.size w) := by
  have Hl := Lib.hid hl
  have Hlen := Eqn.mk hl.1
  clear hl
  cases hv : prodValid l with
  | false =>
    have HV : Eqn (refValid l) false := by rw [← prodValid_eq]; exact hv
    have HF : Eqn (findF l ar ca) (0, 2) := by unfold findF Eqn; rw [if_neg (by rw [hv]; simp)]
    clear hv
    go_enter Tryd.func29, Tryd.ntmps29
    go_wp2_with fail
    refine (refValid_any A n c l _ hn Hl.out).mono ?_
    rw [HV.out]
    rintro e w1 ⟨rfl, hb1⟩
    go_wp2_with fail
    go_ret2
    exact ⟨by rw [HF.out]; rfl, hb1⟩
  | true =>
    have HV : Eqn (refValid l) true := by rw [← prodValid_eq]; exact hv
    have HF : Eqn (findF l ar ca) (findGo ar ca l 0) := by unfold findF Eqn; rw [if_pos hv]
    clear hv
    go_enter Tryd.func29, Tryd.ntmps29
    go_wp2_with fail
    refine (refValid_any A n c l _ hn Hl.out).mono ?_
    rw [HV.out]
    rintro e w1 ⟨rfl, hb1⟩
    have B1 := Lib.hid hb1
    clear hb1
    go_wp2_with fail
    go_loopw [8] (fun i wr => ∃ k : Nat, k ≤ n ∧ i = .int .i64 k ∧ Eqn (findF l ar ca) (findGo ar ca (l.drop k) k) ∧ Below w.heap.size w wr) (fun i _ => n - (intOf i).toNat)
    case atStart => exact ⟨0, Nat.zero_le _, rfl, HF, B1.out⟩
    case round =>
      obtain ⟨k, hk, rfl, HR, HW⟩ := hrel
      have HWW := Lib.hid HW
      have hws := HW.size
      by_cases hlt : k < n
      · obtain ⟨p, hp, hpd⟩ := drop_at (xs := l) (k := k) (by rw [Hlen.out]; exact hlt)
        obtain ⟨b, off, rfl, hbl, hc⟩ := (Hl.out.below HW).2 (by omega)
        have c0 := hc k p hp 0 (by omega)
        have c1 := hc k p hp 1 (by omega)
        simp only [Prod.cell, Nat.add_zero] at c0 c1
        have hbs : b < wr.heap.size := by omega
        have HR' : Eqn (findF l ar ca) (if p.area = ar ∧ p.cat = ca then ((k : Int), 0) else findGo ar ca (l.drop (k + 1)) (k + 1)) := by
          have := HR.out; rw [hpd, findGo] at this; exact this
        clear hc hp hpd HR HW
        by_cases e1 : p.area = ar
        · have t1 : (p.area == ar) = true := by simpa using e1
          by_cases e2 : p.cat = ca
          · have t2 : (p.cat == ca) = true := by simpa using e2
            have HR2 : Eqn (findF l ar ca) ((k : Int), 0) := by rw [Eqn, HR'.out, if_pos ⟨e1, e2⟩]
            clear HR' e1 e2
            go_wp2_with fail
            go_ret2
            exact ⟨by rw [HR2.out]; rfl, HWW.out⟩
          · have t2 : (p.cat == ca) = false := by simpa using e2
            have HR2 : Eqn (findF l ar ca) (findGo ar ca (l.drop (k + 1)) (k + 1)) := by rw [Eqn, HR'.out, if_neg (fun h => e2 h.2)]
            clear HR' e1 e2
            go_wp2_with fail
            go_roundw
            case rel => exact ⟨k + 1, by omega, by go_num, HR2, HWW.out⟩
            case measure => simp [intOf]; omega
        · have t1 : (p.area == ar) = false := by simpa using e1
          have HR2 : Eqn (findF l ar ca) (findGo ar ca (l.drop (k + 1)) (k + 1)) := by rw [Eqn, HR'.out, if_neg (fun h => e1 h.1)]
          clear HR' e1
          go_wp2_with fail
          go_roundw
          case rel => exact ⟨k + 1, by omega, by go_num, HR2, HWW.out⟩
          case measure => simp [intOf]; omega
      · have HR2 : Eqn (findF l ar ca) (0, 9) := by rw [Eqn, HR.out, drop_end (by rw [Hlen.out]; omega)]; rfl
        clear HR HW
        go_wp2_with fail
        go_ret2
        exact ⟨by rw [HR2.out]; rfl, HWW.out⟩
end Go.Proofs.YtpgomblalmnonaaDoor
