/- Contracts of validImpairments and of the reference's Impairments. -/
import Derived.Test.YtpgomblalmnonaaDoorOwn
import Derived.Test.YtpgomblalmnonaaDoorLex
namespace Go.Proofs.YtpgomblalmnonaaDoor
open Go.RowKit

structure Imp where
  area : Int
  block : Int
  pct : Int
def Imp.cell (a : Imp) : Nat → Value
  | 0 => .int .i64 a.area
  | 1 => .int .i64 a.block
  | _ => .int .i64 a.pct
def Imp.val (a : Imp) : Value := .agg #[.int .i64 a.area, .int .i64 a.block, .int .i64 a.pct]
def badI (a : Imp) : Prop := a.area < 0 ∨ 63 < a.area ∨ a.block < 0 ∨ 11 < a.block ∨ a.pct < 0 ∨ 100 < a.pct
instance (a : Imp) : Decidable (badI a) := by unfold badI; infer_instance
/-- an impairment that does not stand behind another one -/
def notAft (q p : Imp) : Prop := p.area < q.area ∨ p.area = q.area ∧ p.block ≤ q.block
instance (q p : Imp) : Decidable (notAft q p) := by unfold notAft; infer_instance
def okIm (a : Imp) : Bool := withinB a.area 0 63 && withinB a.block 0 11 && withinB a.pct 0 100
theorem okIm_iff (a : Imp) : okIm a = true ↔ ¬ badI a := by
  unfold okIm badI withinB
  simp only [Bool.and_eq_true, decide_eq_true_eq]
  omega
def prevI : Option Imp → Imp → Bool
  | none, _ => false
  | some q, x => decide (notAft q x)
/-- the loop over impairments: the last one -/
def impsGo : List Imp → Option Imp → Bool
  | [], _ => true
  | a :: r, prev => if badI a then false else if prevI prev a = true then false else impsGo r (some a)
def impsF (l : List Imp) : Bool := impsGo l none

theorem imp1_any (a : Imp) (w : World) : Calls Tryd.prog 51 #[a.val] w (RetPost (.bool (okIm a)) w.heap.size w) := by
  unfold Imp.val okIm
  cases h1 : withinB a.area 0 63 with
  | true =>
    cases h2 : withinB a.block 0 11 with
    | true =>
      go_enter Tryd.func51, Tryd.ntmps51
      go_wp2_with (go_at_call 30; refine (pwithin_any _ _ _ _).mono ?_; rintro e w' ⟨rfl, rfl⟩)
      go_ret
      exact ⟨rfl, (Below.refl _ _).alloc (Nat.le_refl _) _⟩
    | false =>
      go_enter Tryd.func51, Tryd.ntmps51
      go_wp2_with (go_at_call 30; refine (pwithin_any _ _ _ _).mono ?_; rintro e w' ⟨rfl, rfl⟩)
      go_ret
      exact ⟨rfl, (Below.refl _ _).alloc (Nat.le_refl _) _⟩
  | false =>
    go_enter Tryd.func51, Tryd.ntmps51
    go_wp2_with (go_at_call 30; refine (pwithin_any _ _ _ _).mono ?_; rintro e w' ⟨rfl, rfl⟩)
    go_ret
    exact ⟨rfl, (Below.refl _ _).alloc (Nat.le_refl _) _⟩

def cmpI (a b : Imp) : Int := orF (cmpF a.area b.area) (cmpF a.block b.block)
theorem imp2_any (a b : Imp) (w : World) : Calls Tryd.prog 52 #[a.val, b.val] w (RetPost (.int .i64 (cmpI a b)) w.heap.size w) := by
  unfold Imp.val cmpI
  obtain ⟨a0, a1, a2⟩ := a
  obtain ⟨b0, b1, b2⟩ := b
  dsimp only
  go_enter Tryd.func52, Tryd.ntmps52
  go_wp2
  go_region_held3 (fun w' => w'.cell? ⟨w.heap.size, 0, none⟩ = some (.int .i64 a0) ∧ w'.cell? ⟨w.heap.size, 1, none⟩ = some (.int .i64 a1) ∧ w'.cell? ⟨w.heap.size + 1, 0, none⟩ = some (.int .i64 b0) ∧ w'.cell? ⟨w.heap.size + 1, 1, none⟩ = some (.int .i64 b1)) (go_keep) (first
    | (go_at_call 44; refine (compare_any _ _ _).mono ?_; rintro e w' ⟨rfl, rfl⟩)
    | (go_at_call 43; refine (or_any (cmpF a0 b0) (cmpF a1 b1) _ _ (by go_simp) (by go_simp)).mono ?_; rintro e w' ⟨rfl, rfl⟩))
  go_wp2
  go_ret
  exact ⟨rfl, by repeat (first | exact Below.refl _ _ | apply Below.drew | refine Below.alloc ?_ (by simp; try omega) _)⟩

theorem cmpI_ge (q p : Imp) : decide (0 ≤ cmpI q p) = decide (notAft q p) := by
  unfold cmpI orF cmpF notAft
  congr 1
  apply propext
  split <;> split <;> (try split) <;> (try split) <;> omega

set_option maxHeartbeats 1000000 in
theorem ordI_any (A : Option Addr) (n c : Nat) (l : List Imp) (w : World) (hn : n ≤ 140) (hl : RowS 3 Imp.cell w w.heap.size A n l) :
    Calls Tryd.prog 50 #[.slice A n c, .func (.func 51) #[] #[], .func (.func 52) #[] #[]] w (OrdPost (impsF l) w.heap.size w) := by
  have Hl := Lib.hid hl
  have Hlen := Eqn.mk hl.1
  clear hl
  go_enter Tryd.func50, Tryd.ntmps50
  go_wp2_with fail
  go_loopw [11] (fun i wr => ∃ (k : Nat) (prev : Option Imp), k ≤ n ∧ i = .int .i64 k ∧ Eqn prev (if k = 0 then none else l[k - 1]?) ∧ Eqn (impsF l) (impsGo (l.drop k) prev) ∧ Below w.heap.size w wr) (fun i _ => n - (intOf i).toNat)
  case atStart => exact ⟨0, none, Nat.zero_le _, rfl, rfl, rfl, Below.refl _ _⟩
  case round =>
    obtain ⟨k, prev, hk, rfl, HP, HR, HW⟩ := hrel
    have HWW := Lib.hid HW
    have hws := HW.size
    by_cases hlt : k < n
    · obtain ⟨p, hp, hpd⟩ := drop_at (xs := l) (k := k) (by rw [Hlen.out]; exact hlt)
      obtain ⟨b, off, rfl, hbl, hc⟩ := (Hl.out.below HW).2 (by omega)
      have c0 := hc k p hp 0 (by omega)
      have c1 := hc k p hp 1 (by omega)
      have c2 := hc k p hp 2 (by omega)
      simp only [Imp.cell, Nat.add_zero] at c0 c1 c2
      have Hc := Lib.hid hc
      have HPl : Eqn (some p) (if k + 1 = 0 then none else l[k + 1 - 1]?) := by rw [Eqn, if_neg (by omega), Nat.add_sub_cancel, hp]
      have HR' : Eqn (impsF l) (if badI p then false else if prevI prev p = true then false else impsGo (l.drop (k + 1)) (some p)) := by
        have := HR.out; rw [hpd, impsGo] at this; exact this
      have hbs : b < wr.heap.size := by omega
      clear hc hpd hp HW HR
      by_cases hbad : badI p
      · have HRf : Eqn (impsF l) false := by rw [Eqn, HR'.out, if_pos hbad]
        have hok : Eqn (okIm p) false := by
          cases h : okIm p with
          | false => rfl
          | true => exact absurd hbad ((okIm_iff p).1 h)
        clear hbad HR'
        go_wp2_with fail
        refine Lx.region (C := fun _ => True) (hs := []) (by kernel_rfl) (by kernel_rfl) trivial ?_
        repeat' (first
          | (refine Lx.lex_no (Lx.n1 rfl rfl rfl (by with_reducible rfl)) (fun K hK => ?_); go_simp; refine hK _ ?_; clear hK K)
          | (refine Lx.lex_no (Lx.n0 rfl rfl rfl (by with_reducible rfl)) (fun K hK => ?_); go_simp; refine hK _ ?_; clear hK K)
          | (refine Lx.lex_no (Lx.n2 rfl rfl rfl) (fun K hK => ?_); go_simp; refine hK _ ?_; clear hK K)
          | (refine Lx.lex_pure (v := ?_) rfl (by first | exact Lx.w0 rfl | exact Lx.w1 rfl rfl rfl (by with_reducible rfl)) ?_ (fun K hK => ?_); rotate_left 1; (intro w' hCw; (try dsimp only at hCw); go_simp; done); go_simp; refine hK _ ?_; clear hK K)
          | (refine Lx.lex_pure (v := ?_) rfl (by first | exact Lx.w0 rfl | exact Lx.w1 rfl rfl rfl (by with_reducible rfl)) ?_ (fun K hK => ?_); rotate_left 1; (intro w' hCw; (try dsimp only at hCw); go_simp; with_reducible rfl); go_simp; refine hK _ ?_; clear hK K)
          | (refine Lx.lex_read (v := ?_) rfl (by first | exact Lx.w0 rfl | exact Lx.w1 rfl rfl rfl (by with_reducible rfl)) ?_ (fun K hK => ?_); rotate_left 1; (go_simp; done); go_simp; refine hK _ ?_; clear hK K)
          | (refine Lx.lex_read (v := ?_) rfl (by first | exact Lx.w0 rfl | exact Lx.w1 rfl rfl rfl (by with_reducible rfl)) ?_ (fun K hK => ?_); rotate_left 1; (go_simp; with_reducible rfl); go_simp; refine hK _ ?_; clear hK K)
          | (refine Lx.lex_eff rfl (by first | exact Lx.w0 rfl | exact Lx.w1 rfl rfl rfl (by with_reducible rfl)) (fun K hK => ?_); go_simp; (first | (go_at_call 51; refine (imp1_any p _).mono ?_; rw [hok.out]; rintro e w1 ⟨rfl, hb1⟩) | skip); refine hK _ _ (trivial) ?_; clear hK K)
          | (refine Lx.lex_cases rfl rfl rfl (fun hgd K hK => ?_) (fun hgd K hK => ?_) <;> (try simp only [decide_eq_true_eq, decide_eq_false_iff_not] at hgd) <;> (first | (exfalso; omega) | (go_simp; refine hK _ ?_; clear hK K))))
        all_goals (refine Lx.lex_nil ?_)
        go_wp2_with fail
        go_ret
        exact ⟨ret_bool (by rw [HRf.out]), (HWW.out.alloc hws _).drew.trans (hb1.mono (by simp; omega))⟩
      · have hok : Eqn (okIm p) true := (okIm_iff p).2 hbad
        by_cases hk0 : k = 0
        · have g0 : decide (0 < k) = false := by simp [hk0]
          have g1 : ¬ (0 : Int) < (k : Int) := by omega
          have HRt : Eqn (impsF l) (impsGo (l.drop (k + 1)) (some p)) := by
            have hp0 : prev = none := by have := HP.out; rw [if_pos hk0] at this; exact this
            rw [Eqn, HR'.out, if_neg hbad, hp0, if_neg (by simp [prevI])]
          clear hbad HR' hk0 HP
          go_wp2_with fail
          refine Lx.region (C := fun _ => True) (hs := []) (by kernel_rfl) (by kernel_rfl) trivial ?_
          repeat' (first
            | (refine Lx.lex_no (Lx.n1 rfl rfl rfl (by with_reducible rfl)) (fun K hK => ?_); go_simp; refine hK _ ?_; clear hK K)
            | (refine Lx.lex_no (Lx.n0 rfl rfl rfl (by with_reducible rfl)) (fun K hK => ?_); go_simp; refine hK _ ?_; clear hK K)
            | (refine Lx.lex_no (Lx.n2 rfl rfl rfl) (fun K hK => ?_); go_simp; refine hK _ ?_; clear hK K)
            | (refine Lx.lex_pure (v := ?_) rfl (by first | exact Lx.w0 rfl | exact Lx.w1 rfl rfl rfl (by with_reducible rfl)) ?_ (fun K hK => ?_); rotate_left 1; (intro w' hCw; (try dsimp only at hCw); go_simp; done); go_simp; refine hK _ ?_; clear hK K)
            | (refine Lx.lex_pure (v := ?_) rfl (by first | exact Lx.w0 rfl | exact Lx.w1 rfl rfl rfl (by with_reducible rfl)) ?_ (fun K hK => ?_); rotate_left 1; (intro w' hCw; (try dsimp only at hCw); go_simp; with_reducible rfl); go_simp; refine hK _ ?_; clear hK K)
            | (refine Lx.lex_read (v := ?_) rfl (by first | exact Lx.w0 rfl | exact Lx.w1 rfl rfl rfl (by with_reducible rfl)) ?_ (fun K hK => ?_); rotate_left 1; (go_simp; done); go_simp; refine hK _ ?_; clear hK K)
            | (refine Lx.lex_read (v := ?_) rfl (by first | exact Lx.w0 rfl | exact Lx.w1 rfl rfl rfl (by with_reducible rfl)) ?_ (fun K hK => ?_); rotate_left 1; (go_simp; with_reducible rfl); go_simp; refine hK _ ?_; clear hK K)
            | (refine Lx.lex_eff rfl (by first | exact Lx.w0 rfl | exact Lx.w1 rfl rfl rfl (by with_reducible rfl)) (fun K hK => ?_); go_simp; (first | (go_at_call 51; refine (imp1_any p _).mono ?_; rw [hok.out]; rintro e w1 ⟨rfl, hb1⟩) | skip); refine hK _ _ (trivial) ?_; clear hK K)
            | (refine Lx.lex_cases rfl rfl rfl (fun hgd K hK => ?_) (fun hgd K hK => ?_) <;> (try simp only [decide_eq_true_eq, decide_eq_false_iff_not] at hgd) <;> (first | (exfalso; omega) | (go_simp; refine hK _ ?_; clear hK K))))
          all_goals (refine Lx.lex_nil ?_)
          go_wp2_with fail
          go_roundw
          case rel => exact ⟨k + 1, _, by omega, by go_num, HPl, HRt, (HWW.out.alloc hws _).drew.trans (hb1.mono (by simp; omega))⟩
          case measure => simp [intOf]; omega
        · have hk1 : 0 < k := by omega
          have hk1' : decide (0 < k) = true := by simpa using hk1
          have hk2 : (0 : Int) < (k : Int) := by omega
          obtain ⟨q, hq⟩ : ∃ q, l[k - 1]? = some q := ⟨_, List.getElem?_eq_getElem (by rw [Hlen.out]; omega)⟩
          have hpq : prev = some q := by have := HP.out; rw [if_neg hk0, hq] at this; exact this
          have d0 := Hc.out (k - 1) q hq 0 (by omega)
          have d1 := Hc.out (k - 1) q hq 1 (by omega)
          have d2 := Hc.out (k - 1) q hq 2 (by omega)
          simp only [Imp.cell, Nat.add_zero] at d0 d1 d2
          have hwr : IntKind.i64.wrap ((k : Int) - 1) = (k : Int) - 1 := by rw [IntKind.wrap_i64]; omega
          have htn : ((k : Int) - 1).toNat = k - 1 := by omega
          have hge : (0 : Int) ≤ (k : Int) - 1 := by omega
          have hlt2 : (k : Int) - 1 < (n : Int) := by omega
          have hge' : (1 : Int) ≤ (k : Int) := by omega
          have HRt : Eqn (impsF l) (if notAft q p then false else impsGo (l.drop (k + 1)) (some p)) := by
            rw [Eqn, HR'.out, if_neg hbad, hpq]; simp only [prevI, decide_eq_true_eq]
          clear hbad HR' hk0 hq hpq HP
          by_cases hle : notAft q p
          · have HC : decide (0 ≤ cmpI q p) = true := by rw [cmpI_ge]; simpa using hle
            have HRf : Eqn (impsF l) false := by rw [Eqn, HRt.out, if_pos hle]
            clear hle HRt
            go_wp2_with fail
            refine Lx.region (C := fun _ => True) (hs := []) (by kernel_rfl) (by kernel_rfl) trivial ?_
            repeat' (first
              | (refine Lx.lex_no (Lx.n1 rfl rfl rfl (by with_reducible rfl)) (fun K hK => ?_); go_simp; refine hK _ ?_; clear hK K)
              | (refine Lx.lex_no (Lx.n0 rfl rfl rfl (by with_reducible rfl)) (fun K hK => ?_); go_simp; refine hK _ ?_; clear hK K)
              | (refine Lx.lex_no (Lx.n2 rfl rfl rfl) (fun K hK => ?_); go_simp; refine hK _ ?_; clear hK K)
              | (refine Lx.lex_pure (v := ?_) rfl (by first | exact Lx.w0 rfl | exact Lx.w1 rfl rfl rfl (by with_reducible rfl)) ?_ (fun K hK => ?_); rotate_left 1; (intro w' hCw; (try dsimp only at hCw); go_simp; done); go_simp; refine hK _ ?_; clear hK K)
              | (refine Lx.lex_pure (v := ?_) rfl (by first | exact Lx.w0 rfl | exact Lx.w1 rfl rfl rfl (by with_reducible rfl)) ?_ (fun K hK => ?_); rotate_left 1; (intro w' hCw; (try dsimp only at hCw); go_simp; with_reducible rfl); go_simp; refine hK _ ?_; clear hK K)
              | (refine Lx.lex_read (v := ?_) rfl (by first | exact Lx.w0 rfl | exact Lx.w1 rfl rfl rfl (by with_reducible rfl)) ?_ (fun K hK => ?_); rotate_left 1; (go_simp; done); go_simp; refine hK _ ?_; clear hK K)
              | (refine Lx.lex_read (v := ?_) rfl (by first | exact Lx.w0 rfl | exact Lx.w1 rfl rfl rfl (by with_reducible rfl)) ?_ (fun K hK => ?_); rotate_left 1; (go_simp; with_reducible rfl); go_simp; refine hK _ ?_; clear hK K)
              | (refine Lx.lex_eff rfl (by first | exact Lx.w0 rfl | exact Lx.w1 rfl rfl rfl (by with_reducible rfl)) (fun K hK => ?_); go_simp; (first | (go_at_call 51; refine (imp1_any p _).mono ?_; rw [hok.out]; rintro e w1 ⟨rfl, hb1⟩; have hcb := fun o => hb1.cell (p := ⟨b, o, none⟩) (by simp; omega); have hcx := fun o => hb1.cell (p := ⟨wr.heap.size, o, none⟩) (by simp)) | (go_at_call 52; refine (imp2_any q p _).mono ?_; rintro e w2 ⟨rfl, hb2⟩) | skip); refine hK _ _ (trivial) ?_; clear hK K)
              | (refine Lx.lex_cases rfl rfl rfl (fun hgd K hK => ?_) (fun hgd K hK => ?_) <;> (try simp only [decide_eq_true_eq, decide_eq_false_iff_not] at hgd) <;> (first | (exfalso; omega) | (go_simp; refine hK _ ?_; clear hK K))))
            all_goals (refine Lx.lex_nil ?_)
            clear hwr htn
            go_wp2_with fail
            go_ret
            exact ⟨ret_bool (by rw [HRf.out]), ((HWW.out.alloc hws _).drew.trans (hb1.mono (by simp; omega))).trans (hb2.mono (by have := hb1.size; simp at this; omega))⟩
          · have HC : decide (0 ≤ cmpI q p) = false := by rw [cmpI_ge]; simpa using hle
            have HRf : Eqn (impsF l) (impsGo (l.drop (k + 1)) (some p)) := by rw [Eqn, HRt.out, if_neg hle]
            clear hle HRt
            go_wp2_with fail
            refine Lx.region (C := fun _ => True) (hs := []) (by kernel_rfl) (by kernel_rfl) trivial ?_
            repeat' (first
              | (refine Lx.lex_no (Lx.n1 rfl rfl rfl (by with_reducible rfl)) (fun K hK => ?_); go_simp; refine hK _ ?_; clear hK K)
              | (refine Lx.lex_no (Lx.n0 rfl rfl rfl (by with_reducible rfl)) (fun K hK => ?_); go_simp; refine hK _ ?_; clear hK K)
              | (refine Lx.lex_no (Lx.n2 rfl rfl rfl) (fun K hK => ?_); go_simp; refine hK _ ?_; clear hK K)
              | (refine Lx.lex_pure (v := ?_) rfl (by first | exact Lx.w0 rfl | exact Lx.w1 rfl rfl rfl (by with_reducible rfl)) ?_ (fun K hK => ?_); rotate_left 1; (intro w' hCw; (try dsimp only at hCw); go_simp; done); go_simp; refine hK _ ?_; clear hK K)
              | (refine Lx.lex_pure (v := ?_) rfl (by first | exact Lx.w0 rfl | exact Lx.w1 rfl rfl rfl (by with_reducible rfl)) ?_ (fun K hK => ?_); rotate_left 1; (intro w' hCw; (try dsimp only at hCw); go_simp; with_reducible rfl); go_simp; refine hK _ ?_; clear hK K)
              | (refine Lx.lex_read (v := ?_) rfl (by first | exact Lx.w0 rfl | exact Lx.w1 rfl rfl rfl (by with_reducible rfl)) ?_ (fun K hK => ?_); rotate_left 1; (go_simp; done); go_simp; refine hK _ ?_; clear hK K)
              | (refine Lx.lex_read (v := ?_) rfl (by first | exact Lx.w0 rfl | exact Lx.w1 rfl rfl rfl (by with_reducible rfl)) ?_ (fun K hK => ?_); rotate_left 1; (go_simp; with_reducible rfl); go_simp; refine hK _ ?_; clear hK K)
              | (refine Lx.lex_eff rfl (by first | exact Lx.w0 rfl | exact Lx.w1 rfl rfl rfl (by with_reducible rfl)) (fun K hK => ?_); go_simp; (first | (go_at_call 51; refine (imp1_any p _).mono ?_; rw [hok.out]; rintro e w1 ⟨rfl, hb1⟩; have hcb := fun o => hb1.cell (p := ⟨b, o, none⟩) (by simp; omega); have hcx := fun o => hb1.cell (p := ⟨wr.heap.size, o, none⟩) (by simp)) | (go_at_call 52; refine (imp2_any q p _).mono ?_; rintro e w2 ⟨rfl, hb2⟩) | skip); refine hK _ _ (trivial) ?_; clear hK K)
              | (refine Lx.lex_cases rfl rfl rfl (fun hgd K hK => ?_) (fun hgd K hK => ?_) <;> (try simp only [decide_eq_true_eq, decide_eq_false_iff_not] at hgd) <;> (first | (exfalso; omega) | (go_simp; refine hK _ ?_; clear hK K))))
            all_goals (refine Lx.lex_nil ?_)
            clear hwr htn
            go_wp2_with fail
            go_roundw
            case rel => exact ⟨k + 1, _, by omega, by go_num, HPl, HRf, ((HWW.out.alloc hws _).drew.trans (hb1.mono (by simp; omega))).trans (hb2.mono (by have := hb1.size; simp at this; omega))⟩
            case measure => simp [intOf]; omega
    · have HR2 : Eqn (impsF l) true := by rw [Eqn, HR.out, drop_end (by rw [Hlen.out]; omega)]; rfl
      clear HR HW
      go_wp2_with fail
      go_ret
      exact ⟨ret_bool (by rw [HR2.out]), HWW.out⟩

theorem imps_any (A : Option Addr) (n c : Nat) (l : List Imp) (w : World) (hn : n ≤ 140) (hl : RowS 3 Imp.cell w w.heap.size A n l) :
    Calls Tryd.prog 32 #[.slice A n c] w (OrdPost (impsF l) w.heap.size w) := by
  have Hl := Lib.hid hl
  clear hl
  go_enter Tryd.func32, Tryd.ntmps32
  go_wp2_with fail
  refine (ordI_any A n c l _ hn Hl.out).mono ?_
  rintro e w1 ⟨rfl, hb1⟩
  go_wp2_with fail
  go_ret
  exact ⟨rfl, hb1⟩
end Go.Proofs.YtpgomblalmnonaaDoor
