/- The reference's Valid for products, and that product.Valid answers as it does. -/
import Derived.Test.YtpgomblalmnonaaDoorPVal
namespace Go.Proofs.YtpgomblalmnonaaDoor
open Go.RowKit

def badP (p : Prod) : Prop := p.area < 0 ∨ 63 < p.area ∨ p.cat < 1 ∨ 2 < p.cat ∨ p.sup < 1 ∨ 12 < p.sup ∨ p.units < 1 ∨ 100000 < p.units ∨ p.res < 0 ∨ 549755813888 < p.res
def badQ (q p : Prod) : Prop := p.area < q.area ∨ p.area = q.area ∧ (p.cat ≤ q.cat ∨ 12 < p.sup + q.sup)
instance (p : Prod) : Decidable (badP p) := by unfold badP; infer_instance
instance (q p : Prod) : Decidable (badQ q p) := by unfold badQ; infer_instance

def refGo : List Prod → Option Prod → Bool
  | [], _ => true
  | p :: l, prev =>
    if badP p then false
    else match prev with
      | none => refGo l (some p)
      | some q => if badQ q p then false else refGo l (some p)
def refValid (l : List Prod) : Bool := refGo l none

set_option maxHeartbeats 1000000 in
set_option maxRecDepth 100000 in
theorem refValid_any (A : Option Addr) (n c : Nat) (l : List Prod) (w : World) (hn : n ≤ 140) (hl : RowS 5 Prod.cell w w.heap.size A n l) :
    Calls Tryd.prog 19 #[.slice A n c] w (OrdPost (refValid l) w.heap.size w) := by
  have Hl := Lib.hid hl
  clear hl
  go_enter Tryd.func19, Tryd.ntmps19
  go_wp2
  go_loopw [3] (fun i wr => ∃ (k : Nat) (prev : Option Prod), k ≤ n ∧ i = .int .i64 k ∧ Eqn prev (if k = 0 then none else l[k - 1]?) ∧ Eqn (refValid l) (refGo (l.drop k) prev) ∧ (∀ q, Eqn prev (some q) → 1 ≤ q.sup ∧ q.sup ≤ 12) ∧ Below w.heap.size w wr) (fun i _ => n - (intOf i).toNat)
  case atStart => exact ⟨0, none, Nat.zero_le _, rfl, Eqn.mk rfl, Eqn.mk rfl, fun q h => (by cases h.out), Below.refl _ _⟩
  case round =>
    obtain ⟨k, prev, hk, rfl, HP, HR, HQ, HW⟩ := hrel
    have HQ' := Lib.hid HQ
    have HWW := Lib.hid HW
    by_cases hlt : k < n
    · obtain ⟨p, hp, hpd⟩ := drop_at (xs := l) (k := k) (by rw [Hl.out.1]; exact hlt)
      obtain ⟨b, off, rfl, hbl, hc⟩ := (Hl.out.below HW).2 (by omega)
      have c0 := hc k p hp 0 (by omega)
      have c1 := hc k p hp 1 (by omega)
      have c2 := hc k p hp 2 (by omega)
      have c3 := hc k p hp 3 (by omega)
      have c4 := hc k p hp 4 (by omega)
      simp only [Prod.cell, Nat.add_zero] at c0 c1 c2 c3 c4
      have Hpd := Eqn.mk hpd
      have HPl : Eqn (some p) (if k + 1 = 0 then none else l[k + 1 - 1]?) := by rw [Eqn, if_neg (by omega), Nat.add_sub_cancel]; exact hp.symm
      have hws := HW.size
      have hbs : b < wr.heap.size := by omega
      have hR1 : Hid (badP p → refValid l = false) := by
        intro hb
        have := HR.out; rw [Hpd.out] at this; unfold refGo at this; rw [if_pos hb] at this; exact this
      by_cases hk0 : k = 0
      · have hk0' : decide (0 < k) = false := by simp [hk0]
        have hR2 : Hid (¬ badP p → refValid l = refGo (l.drop (k + 1)) (some p)) := by
          intro hb
          have hp0 : prev = none := by have := HP.out; rw [if_pos hk0] at this; exact this
          have := HR.out; rw [Hpd.out, hp0] at this; unfold refGo at this; rw [if_neg hb] at this; exact this
        clear hc hpd hp HQ HW hk0
        go_wp2
        case roundEnd =>
          go_roundw
          case rel => exact ⟨k + 1, some p, by omega, by go_num, HPl, Eqn.mk (hR2.out (by unfold badP; omega)), (fun q hq => by have := hq.out; injection this with this; subst this; omega), HWW.out.trans ((Below.refl _ _).alloc (by omega) _)⟩
          case measure => simp [intOf]; omega
        all_goals
          go_ret
          exact ⟨ret_bool (hR1.out (by unfold badP; omega)).symm, HWW.out.trans ((Below.refl _ _).alloc (by omega) _)⟩
      · have hk1 : 0 < k := by omega
        have hk1' : decide (0 < k) = true := by simpa using hk1
        obtain ⟨q, hq⟩ : ∃ q, l[k - 1]? = some q := ⟨_, List.getElem?_eq_getElem (by rw [Hl.out.1]; omega)⟩
        have hpq : prev = some q := by have := HP.out; rw [if_neg hk0, hq] at this; exact this
        obtain ⟨q1, q2⟩ := HQ q (Eqn.mk hpq)
        have d0 := hc (k - 1) q hq 0 (by omega)
        have d1 := hc (k - 1) q hq 1 (by omega)
        have d2 := hc (k - 1) q hq 2 (by omega)
        have d3 := hc (k - 1) q hq 3 (by omega)
        have d4 := hc (k - 1) q hq 4 (by omega)
        simp only [Prod.cell, Nat.add_zero] at d0 d1 d2 d3 d4
        have hR2 : Hid (¬ badP p → badQ q p → refValid l = false) := by
          intro hb hb2
          have := HR.out; rw [Hpd.out, hpq] at this; unfold refGo at this; rw [if_neg hb] at this; dsimp only at this; rw [if_pos hb2] at this; exact this
        have hR3 : Hid (¬ badP p → ¬ badQ q p → refValid l = refGo (l.drop (k + 1)) (some p)) := by
          intro hb hb2
          have := HR.out; rw [Hpd.out, hpq] at this; unfold refGo at this; rw [if_neg hb] at this; dsimp only at this; rw [if_neg hb2] at this; exact this
        clear hc hpd hp HQ HW hk0 hq hpq
        go_wp2
        all_goals first
          | (go_ret; exact ⟨ret_bool (hR1.out (by unfold badP; omega)).symm, HWW.out.trans ((Below.refl _ _).alloc (by omega) _)⟩)
          | (go_ret; exact ⟨ret_bool (hR2.out (by unfold badP; omega) (by unfold badQ; omega)).symm, HWW.out.trans (((Below.refl _ _).alloc (by omega) _).alloc (by simp; omega) _)⟩)
          | skip
        all_goals
          go_roundw
          case rel => exact ⟨k + 1, some p, by omega, by go_num, HPl, Eqn.mk (hR3.out (by unfold badP; omega) (by unfold badQ; omega)), (fun q hq => by have := hq.out; injection this with this; subst this; omega), HWW.out.trans (((Below.refl _ _).alloc (by omega) _).alloc (by simp; omega) _)⟩
          case measure => simp [intOf]; omega
    · have : k = n := by omega
      subst this
      clear HW HQ
      go_wp2
      go_ret
      exact ⟨ret_bool (by rw [HR.out, drop_end (by rw [Hl.out.1]; omega)]; rfl), HWW.out⟩
end Go.Proofs.YtpgomblalmnonaaDoor
