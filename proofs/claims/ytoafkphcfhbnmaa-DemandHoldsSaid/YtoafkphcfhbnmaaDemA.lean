/- Contracts of package demand: fits, units, Valid, Units. -/
import Derived.Test.YtoafkphcfhbnmaaPVal
namespace Go.Proofs.Ytoafkphcfhbnmaa
open Go.RowKit

def fitsF : List Prod → List Int → Bool
  | p :: l, n :: bs => if n < 0 ∨ p.sup < n then false else fitsF l bs
  | [], [] => true
  | _, _ => false
theorem fitsF_len (l : List Prod) : ∀ (bs : List Int), l.length ≠ bs.length → fitsF l bs = false := by
  induction l with
  | nil => intro bs h; cases bs with
    | nil => simp at h
    | cons => rfl
  | cons p l ih => intro bs h; cases bs with
    | nil => rfl
    | cons x bs => rw [fitsF, ih bs (by simpa using h)]; simp

theorem fits_any (A B : Option Addr) (n c m d : Nat) (w : World) (D : Nat) (l : List Prod) (bs : List Int) (hn : n ≤ 140) (hl : RowS 5 Prod.cell w D A n l) (hb : Row1 intV w D B m bs) :
    Calls Try.prog 34 #[.slice A n c, .slice B m d] w fun e w' => e = .returned (.bool (fitsF l bs)) ∧ w = w' := by
  by_cases hnm : m = n
  · subst hnm
    have Hl := Lib.hid hl
    have Hb := Lib.hid hb
    clear hl hb
    have h0 : ((m : Int) != (m : Int)) = false := by simp
    go_enter Try.func34, Try.ntmps34
    go_wp2
    go_loop [14] (fun i => ∃ k : Nat, k ≤ m ∧ i = .int .i64 k ∧ Eqn (fitsF l bs) (fitsF (l.drop k) (bs.drop k))) (fun i => m - (intOf i).toNat)
    case atStart => exact ⟨0, Nat.zero_le _, rfl, Eqn.mk rfl⟩
    case round =>
      obtain ⟨k, hk, rfl, HR⟩ := hrel
      by_cases hlt : k < m
      · obtain ⟨p, hp, hpd⟩ := drop_at (xs := l) (k := k) (by rw [Hl.out.1]; exact hlt)
        obtain ⟨x, hx, hxd⟩ := drop_at (xs := bs) (k := k) (by rw [Hb.out.1]; exact hlt)
        obtain ⟨b, off, rfl, hbl, hc⟩ := Hl.out.2 (by omega)
        obtain ⟨b', off', rfl, hbl', hc'⟩ := Hb.out.2 (by omega)
        have c1 := hc k p hp 2 (by omega)
        have c2 := hc' k x hx
        simp only [Prod.cell, intV] at c1 c2
        have HR' : Eqn (fitsF l bs) (if x < 0 ∨ p.sup < x then false else fitsF (l.drop (k + 1)) (bs.drop (k + 1))) := by
          have := HR.out; rw [hpd, hxd, fitsF] at this; exact this
        clear hc hc' hp hpd hx hxd HR
        go_wp2
        · go_ret
          exact ⟨ret_bool (by rw [HR'.out, if_pos (by omega)]), rfl⟩
        · go_round
          case rel => exact ⟨k + 1, by omega, by go_num, by have := HR'.out; rw [if_neg (by omega)] at this; exact this⟩
          case measure => simp [intOf]; omega
        · go_ret
          exact ⟨ret_bool (by rw [HR'.out, if_pos (by omega)]), rfl⟩
      · have : k = m := by omega
        subst this
        go_wp2
        go_ret
        exact ⟨ret_bool (by rw [HR.out, drop_end (by rw [Hl.out.1]; omega), drop_end (by rw [Hb.out.1]; omega)]; rfl), rfl⟩
  · have h0 : ((m : Int) != (n : Int)) = true := by simp; omega
    have h1 := Eqn.mk (fitsF_len l bs (by rw [hl.1, hb.1]; omega))
    clear hl hb
    go_enter Try.func34, Try.ntmps34
    go_wp2
    go_ret
    exact ⟨ret_bool (by rw [h1.out]), rfl⟩

def unitsGo : List Prod → List Int → Int → Int
  | p :: l, n :: bs, acc => unitsGo l bs (acc + n * p.units)
  | _, _, acc => acc
def unitsF (l : List Prod) (bs : List Int) : Int := unitsGo l bs 0

/-- products and blocks as Valid leaves them -/
def Sane (l : List Prod) (bs : List Int) : Prop := l.length = bs.length ∧ ∀ (k : Nat) (p : Prod) (x : Int), l[k]? = some p → bs[k]? = some x → 0 ≤ x ∧ x ≤ 12 ∧ 1 ≤ p.units ∧ p.units ≤ 100000

theorem mul_le (x u : Int) (h0 : 0 ≤ x) (h1 : x ≤ 12) (h2 : 1 ≤ u) (h3 : u ≤ 100000) : 0 ≤ x * u ∧ x * u ≤ 1200000 := by
  refine ⟨Int.mul_nonneg h0 (by omega), ?_⟩
  have h4 : x * u ≤ 12 * u := Int.mul_le_mul_of_nonneg_right h1 (by omega)
  omega

theorem units_any (A B : Option Addr) (n c m d : Nat) (w : World) (D : Nat) (l : List Prod) (bs : List Int) (hn : n ≤ 140) (hl : RowS 5 Prod.cell w D A n l) (hb : Row1 intV w D B m bs) (hs : Sane l bs) :
    Calls Try.prog 36 #[.slice A n c, .slice B m d] w fun e w' => e = .returned (.int .i64 (unitsF l bs)) ∧ w = w' := by
  obtain rfl : n = m := by have := hs.1; rw [hl.1, hb.1] at this; exact this
  have Hl := Lib.hid hl
  have Hb := Lib.hid hb
  have Hs := Lib.hid hs
  clear hl hb hs
  go_enter Try.func36, Try.ntmps36
  go_wp2
  go_loop [5, 10] (fun t i => ∃ (k : Nat) (acc : Int), k ≤ n ∧ i = .int .i64 k ∧ t = .int .i64 acc ∧ 0 ≤ acc ∧ acc ≤ k * 1200000 ∧ Eqn (unitsF l bs) (unitsGo (l.drop k) (bs.drop k) acc)) (fun _ i => n - (intOf i).toNat)
  case atStart => exact ⟨0, 0, Nat.zero_le _, rfl, rfl, Int.le_refl _, by omega, Eqn.mk rfl⟩
  case round =>
    obtain ⟨k, acc, hk, rfl, rfl, ha0, ha1, HR⟩ := hrel
    by_cases hlt : k < n
    · obtain ⟨p, hp, hpd⟩ := drop_at (xs := l) (k := k) (by rw [Hl.out.1]; exact hlt)
      obtain ⟨x, hx, hxd⟩ := drop_at (xs := bs) (k := k) (by rw [Hb.out.1]; exact hlt)
      obtain ⟨b, off, rfl, hbl, hc⟩ := Hl.out.2 (by omega)
      obtain ⟨b', off', rfl, hbl', hc'⟩ := Hb.out.2 (by omega)
      have c1 := hc k p hp 3 (by omega)
      have c2 := hc' k x hx
      simp only [Prod.cell, intV] at c1 c2
      obtain ⟨g1, g2, g3, g4⟩ := Hs.out.2 k p x hp hx
      obtain ⟨m1, m2⟩ := mul_le x p.units g1 g2 g3 g4
      have HR' : Eqn (unitsF l bs) (unitsGo (l.drop (k + 1)) (bs.drop (k + 1)) (acc + x * p.units)) := by
        have := HR.out; rw [hpd, hxd, unitsGo] at this; exact this
      clear hc hc' hp hpd hx hxd HR
      go_wp2
      go_round
      case rel => exact ⟨k + 1, acc + x * p.units, by omega, by go_num, rfl, by omega, by omega, HR'⟩
      case measure => simp [intOf]; omega
    · have : k = n := by omega
      subst this
      go_wp2
      go_ret
      exact ⟨ret_int (by rw [HR.out, drop_end (by rw [Hl.out.1]; omega)]; rfl), rfl⟩

/-- demand.Valid -/
def dValid (l : List Prod) (bs : List Int) : Bool := prodValid l && fitsF l bs

theorem dValid_any (A B : Option Addr) (n c m d : Nat) (w : World) (l : List Prod) (bs : List Int) (hn : n ≤ 140) (hl : RowS 5 Prod.cell w w.heap.size A n l) (hb : Row1 intV w w.heap.size B m bs) :
    Calls Try.prog 13 #[.slice A n c, .slice B m d] w (OrdPost (dValid l bs) w.heap.size w) := by
  have Hl := Lib.hid hl
  have Hb := Lib.hid hb
  clear hl hb
  cases hv : prodValid l with
  | true =>
    have HV := Eqn.mk hv
    go_enter Try.func13, Try.ntmps13
    go_wp2_with fail
    refine (prodValid_any A n c l _ hn Hl.out).mono ?_
    rintro e w1 ⟨rfl, hb1⟩
    go_wp2_with fail
    refine (fits_any A B n c m d _ _ l bs hn (Hl.out.keep hb1) (Hb.out.keep hb1)).mono ?_
    rintro e w' ⟨rfl, rfl⟩
    go_wp2
    go_ret
    exact ⟨ret_bool (by unfold dValid; rw [HV.out]; rfl), hb1⟩
  | false =>
    have HV := Eqn.mk hv
    go_enter Try.func13, Try.ntmps13
    go_wp2_with fail
    refine (prodValid_any A n c l _ hn Hl.out).mono ?_
    rintro e w1 ⟨rfl, hb1⟩
    go_wp2_with fail
    go_ret
    exact ⟨ret_bool (by unfold dValid; rw [HV.out]; rfl), hb1⟩
end Go.Proofs.Ytoafkphcfhbnmaa
