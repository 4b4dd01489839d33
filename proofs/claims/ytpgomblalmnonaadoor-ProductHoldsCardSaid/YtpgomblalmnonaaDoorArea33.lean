/- Contracts of validAreas and of the reference's Areas. -/
import Derived.Test.YtpgomblalmnonaaDoorOwn
import Derived.Test.YtpgomblalmnonaaDoorLex
namespace Go.Proofs.YtpgomblalmnonaaDoor
open Go.RowKit

structure Area where
  id : Int
  people : Int
def Area.cell (a : Area) : Nat → Value
  | 0 => .int .i64 a.id
  | _ => .int .i64 a.people
def Area.val (a : Area) : Value := .agg #[.int .i64 a.id, .int .i64 a.people]
def badA (a : Area) : Prop := a.id < 0 ∨ 63 < a.id ∨ a.people < 0 ∨ 4096000000 < a.people
instance (a : Area) : Decidable (badA a) := by unfold badA; infer_instance
def okAr (a : Area) : Bool := withinB a.id 0 63 && withinB a.people 0 4096000000
theorem okAr_iff (a : Area) : okAr a = true ↔ ¬ badA a := by
  unfold okAr badA withinB
  simp only [Bool.and_eq_true, decide_eq_true_eq]
  omega
def prevA : Option Int → Int → Bool
  | none, _ => false
  | some q, x => decide (x ≤ q)
/-- the loop over areas: the last ID -/
def areasGo : List Area → Option Int → Bool
  | [], _ => true
  | a :: r, prev => if badA a then false else if prevA prev a.id = true then false else areasGo r (some a.id)
def areasF (l : List Area) : Bool := areasGo l none

theorem area1_any (a : Area) (w : World) : Calls Tryd.prog 48 #[a.val] w (RetPost (.bool (okAr a)) w.heap.size w) := by
  unfold Area.val okAr
  cases h1 : withinB a.id 0 63 with
  | true =>
    go_enter Tryd.func48, Tryd.ntmps48
    go_wp2_with (go_at_call 30; refine (pwithin_any _ _ _ _).mono ?_; rintro e w' ⟨rfl, rfl⟩)
    go_ret
    exact ⟨rfl, (Below.refl _ _).alloc (Nat.le_refl _) _⟩
  | false =>
    go_enter Tryd.func48, Tryd.ntmps48
    go_wp2_with (go_at_call 30; refine (pwithin_any _ _ _ _).mono ?_; rintro e w' ⟨rfl, rfl⟩)
    go_ret
    exact ⟨rfl, (Below.refl _ _).alloc (Nat.le_refl _) _⟩

theorem area2_any (a b : Area) (w : World) : Calls Tryd.prog 49 #[a.val, b.val] w (RetPost (.int .i64 (cmpF a.id b.id)) w.heap.size w) := by
  unfold Area.val
  go_enter Tryd.func49, Tryd.ntmps49
  go_wp2_with (go_at_call 44; refine (compare_any _ _ _).mono ?_; rintro e w' ⟨rfl, rfl⟩)
  go_ret
  exact ⟨rfl, ((Below.refl _ _).alloc (Nat.le_refl _) _).alloc (by simp) _⟩

theorem cmpF_ge (x y : Int) : decide (0 ≤ cmpF x y) = decide (y ≤ x) := by
  unfold cmpF
  split
  · simp; omega
  · split
    · simp; omega
    · simp; omega

set_option maxHeartbeats 1000000 in
theorem ordA_any (A : Option Addr) (n c : Nat) (l : List Area) (w : World) (hn : n ≤ 140) (hl : RowS 2 Area.cell w w.heap.size A n l) :
    Calls Tryd.prog 47 #[.slice A n c, .func (.func 48) #[] #[], .func (.func 49) #[] #[]] w (OrdPost (areasF l) w.heap.size w) := by
  have Hl := Lib.hid hl
  have Hlen := Eqn.mk hl.1
  clear hl
  go_enter Tryd.func47, Tryd.ntmps47
  go_wp2_with fail
  go_loopw [11] (fun i wr => ∃ (k : Nat) (prev : Option Int), k ≤ n ∧ i = .int .i64 k ∧ Eqn prev (if k = 0 then none else (l[k - 1]?).map Area.id) ∧ Eqn (areasF l) (areasGo (l.drop k) prev) ∧ Below w.heap.size w wr) (fun i _ => n - (intOf i).toNat)
  case atStart => exact ⟨0, none, Nat.zero_le _, rfl, rfl, rfl, Below.refl _ _⟩
  case round =>
    obtain ⟨k, prev, hk, rfl, HP, HR, HW⟩ := hrel
    have HWW := Lib.hid HW
    have hws := HW.size
    by_cases hlt : k < n
    · obtain ⟨p, hp, hpd⟩ := drop_at (xs := l) (k := k) (by rw [Hlen.out]; exact hlt)
      obtain ⟨b, off, rfl, hbl, hc⟩ := (Hl.out.below HW).2 (by omega)
      have c0 := hc k p hp 0 (by omega)
      have c1 := hc k p hp 1 (by omega)
      simp only [Area.cell, Nat.add_zero] at c0 c1
      have Hc := Lib.hid hc
      have HPl : Eqn (some p.id) (if k + 1 = 0 then none else (l[k + 1 - 1]?).map Area.id) := by rw [Eqn, if_neg (by omega), Nat.add_sub_cancel, hp]; rfl
      have HR' : Eqn (areasF l) (if badA p then false else if prevA prev p.id = true then false else areasGo (l.drop (k + 1)) (some p.id)) := by
        have := HR.out; rw [hpd, areasGo] at this; exact this
      have hbs : b < wr.heap.size := by omega
      clear hc hpd hp HW HR
      by_cases hbad : badA p
      · have HRf : Eqn (areasF l) false := by rw [Eqn, HR'.out, if_pos hbad]
        have hok : Eqn (okAr p) false := by
          cases h : okAr p with
          | false => rfl
          | true => exact absurd hbad ((okAr_iff p).1 h)
        clear hbad HR'
        go_wp2_with fail
        refine Lx.region (C := fun _ => True) (hs := []) (by kernel_rfl) (by kernel_rfl) trivial ?_
        repeat' (first
          | (refine Lx.lex_no (Lx.n1 rfl rfl rfl (by with_reducible rfl)) (fun K hK => ?_); go_simp; refine hK _ ?_; clear hK K)
          | (refine Lx.lex_no (Lx.n0 rfl rfl rfl (by with_reducible rfl)) (fun K hK => ?_); go_simp; refine hK _ ?_; clear hK K)
          | (refine Lx.lex_no (Lx.n2 rfl rfl rfl) (fun K hK => ?_); go_simp; refine hK _ ?_; clear hK K)
          | (refine Lx.lex_pure (v := ?_) rfl (by first | exact Lx.w0 rfl | exact Lx.w1 rfl rfl rfl (by with_reducible rfl)) ?_ (fun K hK => ?_); rotate_left 1; (intro w' hCw; (try dsimp only at hCw); go_simp; done); go_simp; refine hK _ ?_; clear hK K)
          | (refine Lx.lex_pure (v := ?_) rfl (by first | exact Lx.w0 rfl | exact Lx.w1 rfl rfl rfl (by with_reducible rfl)) ?_ (fun K hK => ?_); rotate_left 1; (intro w' hCw; (try dsimp only at hCw); go_simp; with_reducible rfl); go_simp; refine hK _ ?_; clear hK K)
          | (refine Lx.lex_read (v := ?_) rfl (by first | exact Lx.w0 rfl | exact Lx.w1 rfl rfl rfl (by with_reducible rfl)) ?_ (fun K hK => ?_); rotate_left 1; (go_simp; done); go_simp; refine hK _ ?_; clear hK K)
          | (refine Lx.lex_read (v := ?_) rfl (by first | exact Lx.w0 rfl | exact Lx.w1 rfl rfl rfl (by with_reducible rfl)) ?_ (fun K hK => ?_); rotate_left 1; (go_simp; with_reducible rfl); go_simp; refine hK _ ?_; clear hK K)
          | (refine Lx.lex_eff rfl (by first | exact Lx.w0 rfl | exact Lx.w1 rfl rfl rfl (by with_reducible rfl)) (fun K hK => ?_); go_simp; (first | (go_at_call 48; refine (area1_any p _).mono ?_; rw [hok.out]; rintro e w1 ⟨rfl, hb1⟩) | skip); refine hK _ _ (trivial) ?_; clear hK K)
          | (refine Lx.lex_cases rfl rfl rfl (fun hgd K hK => ?_) (fun hgd K hK => ?_) <;> (try simp only [decide_eq_true_eq, decide_eq_false_iff_not] at hgd) <;> (first | (exfalso; omega) | (go_simp; refine hK _ ?_; clear hK K))))
        all_goals (refine Lx.lex_nil ?_)
        go_wp2_with fail
        go_ret
        exact ⟨ret_bool (by rw [HRf.out]), (HWW.out.alloc hws _).drew.trans (hb1.mono (by simp; omega))⟩
      · have hok : Eqn (okAr p) true := (okAr_iff p).2 hbad
        by_cases hk0 : k = 0
        · have g0 : decide (0 < k) = false := by simp [hk0]
          have g1 : ¬ (0 : Int) < (k : Int) := by omega
          have HRt : Eqn (areasF l) (areasGo (l.drop (k + 1)) (some p.id)) := by
            have hp0 : prev = none := by have := HP.out; rw [if_pos hk0] at this; exact this
            rw [Eqn, HR'.out, if_neg hbad, hp0, if_neg (by simp [prevA])]
          clear hbad HR' hk0 HP
          go_wp2_with fail
          refine Lx.region (C := fun _ => True) (hs := []) (by kernel_rfl) (by kernel_rfl) trivial ?_
          repeat' (first
            | (refine Lx.lex_no (Lx.n1 rfl rfl rfl (by with_reducible rfl)) (fun K hK => ?_); go_simp; refine hK _ ?_; clear hK K)
            | (refine Lx.lex_no (Lx.n0 rfl rfl rfl (by with_reducible rfl)) (fun K hK => ?_); go_simp; refine hK _ ?_; clear hK K)
            | (refine Lx.lex_no (Lx.n2 rfl rfl rfl) (fun K hK => ?_); go_simp; refine hK _ ?_; clear hK K)
            | (refine Lx.lex_pure (v := ?_) rfl (by first | exact Lx.w0 rfl | exact Lx.w1 rfl rfl rfl (by with_reducible rfl)) ?_ (fun K hK => ?_); rotate_left 1; (intro w' hCw; (try dsimp only at hCw); go_simp; done); go_simp; refine hK _ ?_; clear hK K)
            | (refine Lx.lex_pure (v := ?_) rfl (by first | exact Lx.w0 rfl | exact Lx.w1 rfl rfl rfl (by with_reducible rfl)) ?_ (fun K hK => ?_); rotate_left 1; (intro w' hCw; (try dsimp only at hCw); go_simp; with_reducible rfl); go_simp; refine hK _ ?_; clear hK K)
            | (refine Lx.lex_read (v := ?_) rfl (by first | exact Lx.w0 rfl | exact Lx.w1 rfl rfl rfl (by with_reducible rfl)) ?_ (fun K hK => ?_); rotate_left 1; (go_simp; done); go_simp; refine hK _ ?_; clear hK K)
            | (refine Lx.lex_read (v := ?_) rfl (by first | exact Lx.w0 rfl | exact Lx.w1 rfl rfl rfl (by with_reducible rfl)) ?_ (fun K hK => ?_); rotate_left 1; (go_simp; with_reducible rfl); go_simp; refine hK _ ?_; clear hK K)
            | (refine Lx.lex_eff rfl (by first | exact Lx.w0 rfl | exact Lx.w1 rfl rfl rfl (by with_reducible rfl)) (fun K hK => ?_); go_simp; (first | (go_at_call 48; refine (area1_any p _).mono ?_; rw [hok.out]; rintro e w1 ⟨rfl, hb1⟩) | skip); refine hK _ _ (trivial) ?_; clear hK K)
            | (refine Lx.lex_cases rfl rfl rfl (fun hgd K hK => ?_) (fun hgd K hK => ?_) <;> (try simp only [decide_eq_true_eq, decide_eq_false_iff_not] at hgd) <;> (first | (exfalso; omega) | (go_simp; refine hK _ ?_; clear hK K))))
          all_goals (refine Lx.lex_nil ?_)
          go_wp2_with fail
          go_roundw
          case rel => exact ⟨k + 1, _, by omega, by go_num, HPl, HRt, (HWW.out.alloc hws _).drew.trans (hb1.mono (by simp; omega))⟩
          case measure => simp [intOf]; omega
        · have hk1 : 0 < k := by omega
          have hk1' : decide (0 < k) = true := by simpa using hk1
          have hk2 : (0 : Int) < (k : Int) := by omega
          obtain ⟨q, hq⟩ : ∃ q, l[k - 1]? = some q := ⟨_, List.getElem?_eq_getElem (by rw [Hlen.out]; omega)⟩
          have hpq : prev = some q.id := by have := HP.out; rw [if_neg hk0, hq] at this; exact this
          have d0 := Hc.out (k - 1) q hq 0 (by omega)
          have d1 := Hc.out (k - 1) q hq 1 (by omega)
          simp only [Area.cell, Nat.add_zero] at d0 d1
          have hwr : IntKind.i64.wrap ((k : Int) - 1) = (k : Int) - 1 := by rw [IntKind.wrap_i64]; omega
          have htn : ((k : Int) - 1).toNat = k - 1 := by omega
          have hge : (0 : Int) ≤ (k : Int) - 1 := by omega
          have hlt2 : (k : Int) - 1 < (n : Int) := by omega
          have hge' : (1 : Int) ≤ (k : Int) := by omega
          have HRt : Eqn (areasF l) (if p.id ≤ q.id then false else areasGo (l.drop (k + 1)) (some p.id)) := by
            rw [Eqn, HR'.out, if_neg hbad, hpq]; simp only [prevA, decide_eq_true_eq]
          clear hbad HR' hk0 hq hpq HP
          by_cases hle : p.id ≤ q.id
          · have HC : decide (0 ≤ cmpF q.id p.id) = true := by rw [cmpF_ge]; simpa using hle
            have HRf : Eqn (areasF l) false := by rw [Eqn, HRt.out, if_pos hle]
            clear hle HRt
            go_wp2_with fail
            refine Lx.region (C := fun _ => True) (hs := []) (by kernel_rfl) (by kernel_rfl) trivial ?_
            repeat' (first
              | (refine Lx.lex_no (Lx.n1 rfl rfl rfl (by with_reducible rfl)) (fun K hK => ?_); go_simp; refine hK _ ?_; clear hK K)
              | (refine Lx.lex_no (Lx.n0 rfl rfl rfl (by with_reducible rfl)) (fun K hK => ?_); go_simp; refine hK _ ?_; clear hK K)
              | (refine Lx.lex_no (Lx.n2 rfl rfl rfl) (fun K hK => ?_); go_simp; refine hK _ ?_; clear hK K)
              | (refine Lx.lex_pure (v := ?_) rfl (by first | exact Lx.w0 rfl | exact Lx.w1 rfl rfl rfl (by with_reducible rfl)) ?_ (fun K hK => ?_); rotate_left 1; (intro w' hCw; (try dsimp only at hCw); go_simp; done); go_simp; refine hK _ ?_; clear hK K)
              | (refine Lx.lex_pure (v := ?_) rfl (by first | exact Lx.w0 rfl | exact Lx.w1 rfl rfl rfl (by with_reducible rfl)) ?_ (fun K hK => ?_); rotate_left 1; (intro w' hCw; (try dsimp only at hCw); go_simp; with_reducible rfl); go_simp; refine hK _ ?_; clear hK K)
              | (refine Lx.lex_read (v := ?_) rfl (by first | exact Lx.w0 rfl | exact Lx.w1 rfl rfl rfl (by with_reducible rfl)) ?_ (fun K hK => ?_); rotate_left 1; (go_simp; done); go_simp; refine hK _ ?_; clear hK K)
              | (refine Lx.lex_read (v := ?_) rfl (by first | exact Lx.w0 rfl | exact Lx.w1 rfl rfl rfl (by with_reducible rfl)) ?_ (fun K hK => ?_); rotate_left 1; (go_simp; with_reducible rfl); go_simp; refine hK _ ?_; clear hK K)
              | (refine Lx.lex_eff rfl (by first | exact Lx.w0 rfl | exact Lx.w1 rfl rfl rfl (by with_reducible rfl)) (fun K hK => ?_); go_simp; (first | (go_at_call 48; refine (area1_any p _).mono ?_; rw [hok.out]; rintro e w1 ⟨rfl, hb1⟩; have hcb := fun o => hb1.cell (p := ⟨b, o, none⟩) (by simp; omega); have hcx := fun o => hb1.cell (p := ⟨wr.heap.size, o, none⟩) (by simp)) | (go_at_call 49; refine (area2_any q p _).mono ?_; rintro e w2 ⟨rfl, hb2⟩) | skip); refine hK _ _ (trivial) ?_; clear hK K)
              | (refine Lx.lex_cases rfl rfl rfl (fun hgd K hK => ?_) (fun hgd K hK => ?_) <;> (try simp only [decide_eq_true_eq, decide_eq_false_iff_not] at hgd) <;> (first | (exfalso; omega) | (go_simp; refine hK _ ?_; clear hK K))))
            all_goals (refine Lx.lex_nil ?_)
            clear hwr htn
            go_wp2_with fail
            go_ret
            exact ⟨ret_bool (by rw [HRf.out]), ((HWW.out.alloc hws _).drew.trans (hb1.mono (by simp; omega))).trans (hb2.mono (by have := hb1.size; simp at this; omega))⟩
          · have HC : decide (0 ≤ cmpF q.id p.id) = false := by rw [cmpF_ge]; simpa using hle
            have HRf : Eqn (areasF l) (areasGo (l.drop (k + 1)) (some p.id)) := by rw [Eqn, HRt.out, if_neg hle]
            clear hle HRt
            go_wp2_with fail
            refine Lx.region (C := fun _ => True) (hs := []) (by kernel_rfl) (by kernel_rfl) trivial ?_
            repeat' (first
              | (refine Lx.lex_no (Lx.n1 rfl rfl rfl (by with_reducible rfl)) (fun K hK => ?_); go_simp; refine hK _ ?_; clear hK K)
              | (refine Lx.lex_no (Lx.n0 rfl rfl rfl (by with_reducible rfl)) (fun K hK => ?_); go_simp; refine hK _ ?_; clear hK K)
              | (refine Lx.lex_no (Lx.n2 rfl rfl rfl) (fun K hK => ?_); go_simp; refine hK _ ?_; clear hK K)
              | (refine Lx.lex_pure (v := ?_) rfl (by first | exact Lx.w0 rfl | exact Lx.w1 rfl rfl rfl (by with_reducible rfl)) ?_ (fun K hK => ?_); rotate_left 1; (intro w' hCw; (try dsimp only at hCw); go_simp; done); go_simp; refine hK _ ?_; clear hK K)
              | (refine Lx.lex_pure (v := ?_) rfl (by first | exact Lx.w0 rfl | exact Lx.w1 rfl rfl rfl (by with_reducible rfl)) ?_ (fun K hK => ?_); rotate_left 1; (intro w' hCw; (try dsimp only at hCw); go_simp; with_reducible rfl); go_simp; refine hK _ ?_; clear hK K)
              | (refine Lx.lex_read (v := ?_) rfl (by first | exact Lx.w0 rfl | exact Lx.w1 rfl rfl rfl (by with_reducible rfl)) ?_ (fun K hK => ?_); rotate_left 1; (go_simp; done); go_simp; refine hK _ ?_; clear hK K)
              | (refine Lx.lex_read (v := ?_) rfl (by first | exact Lx.w0 rfl | exact Lx.w1 rfl rfl rfl (by with_reducible rfl)) ?_ (fun K hK => ?_); rotate_left 1; (go_simp; with_reducible rfl); go_simp; refine hK _ ?_; clear hK K)
              | (refine Lx.lex_eff rfl (by first | exact Lx.w0 rfl | exact Lx.w1 rfl rfl rfl (by with_reducible rfl)) (fun K hK => ?_); go_simp; (first | (go_at_call 48; refine (area1_any p _).mono ?_; rw [hok.out]; rintro e w1 ⟨rfl, hb1⟩; have hcb := fun o => hb1.cell (p := ⟨b, o, none⟩) (by simp; omega); have hcx := fun o => hb1.cell (p := ⟨wr.heap.size, o, none⟩) (by simp)) | (go_at_call 49; refine (area2_any q p _).mono ?_; rintro e w2 ⟨rfl, hb2⟩) | skip); refine hK _ _ (trivial) ?_; clear hK K)
              | (refine Lx.lex_cases rfl rfl rfl (fun hgd K hK => ?_) (fun hgd K hK => ?_) <;> (try simp only [decide_eq_true_eq, decide_eq_false_iff_not] at hgd) <;> (first | (exfalso; omega) | (go_simp; refine hK _ ?_; clear hK K))))
            all_goals (refine Lx.lex_nil ?_)
            clear hwr htn
            go_wp2_with fail
            go_roundw
            case rel => exact ⟨k + 1, _, by omega, by go_num, HPl, HRf, ((HWW.out.alloc hws _).drew.trans (hb1.mono (by simp; omega))).trans (hb2.mono (by have := hb1.size; simp at this; omega))⟩
            case measure => simp [intOf]; omega
    · have HR2 : Eqn (areasF l) true := by rw [Eqn, HR.out, drop_end (by rw [Hlen.out]; omega)]; rfl
      clear HR HW
      go_wp2_with fail
      go_ret
      exact ⟨ret_bool (by rw [HR2.out]), HWW.out⟩

theorem areas_any (A : Option Addr) (n c : Nat) (l : List Area) (w : World) (hn : n ≤ 140) (hl : RowS 2 Area.cell w w.heap.size A n l) :
    Calls Tryd.prog 31 #[.slice A n c] w (OrdPost (areasF l) w.heap.size w) := by
  have Hl := Lib.hid hl
  clear hl
  go_enter Tryd.func31, Tryd.ntmps31
  go_wp2_with fail
  refine (ordA_any A n c l _ hn Hl.out).mono ?_
  rintro e w1 ⟨rfl, hb1⟩
  go_wp2_with fail
  go_ret
  exact ⟨rfl, hb1⟩
end Go.Proofs.YtpgomblalmnonaaDoor
