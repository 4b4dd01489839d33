/- Contracts of After, of the program and of the reference. -/
import Derived.Test.YtjbhflhlicefbaaActB
namespace Go.Proofs.Ytjbhflhlicefbaa
open Go.RowKit

theorem after1_any (n : Int) (w : World) : Calls Try.prog 29 #[.int .i64 n] w fun e w' => e = .returned (.bool (decide (n < 0))) ∧ w = w' := by
  go_enter Try.func29, Try.ntmps29
  go_wp2
  go_ret
  exact ⟨rfl, rfl⟩

def idxNeg : List Int → Int → Int
  | [], _ => -1
  | x :: r, k => if x < 0 then k else idxNeg r (k + 1)
theorem idxNeg_iff (l : List Int) : ∀ k, 0 ≤ k → decide (0 ≤ idxNeg l k) = l.any (fun n => decide (n < 0)) := by
  induction l with
  | nil => intro k _; simp [idxNeg]
  | cons x r ih =>
    intro k hk
    rw [idxNeg, List.any_cons]
    by_cases h : x < 0
    · rw [if_pos h]; simp [h, hk]
    · rw [if_neg h, ih (k + 1) (by omega)]; simp [h]

theorem idx_any (A : Option Addr) (n c : Nat) (w : World) (D : Nat) (l : List Int) (hn : n ≤ 1000) (hl : Row1 intE w D A n l) :
    Calls Try.prog 41 #[.slice A n c, .func (.func 29) #[] #[]] w fun e w' => e = .returned (.int .i64 (idxNeg l 0)) ∧ w = w' := by
  have Hl := Lib.hid hl
  clear hl
  go_enter Try.func41, Try.ntmps41
  go_wp2
  go_loop [8] (fun i => ∃ k : Nat, k ≤ n ∧ i = .int .i64 k ∧ Eqn (idxNeg l 0) (idxNeg (l.drop k) k)) (fun i => n - (intOf i).toNat)
  case atStart => exact ⟨0, Nat.zero_le _, rfl, Eqn.mk rfl⟩
  case round =>
    obtain ⟨k, hk, rfl, HR⟩ := hrel
    by_cases hlt : k < n
    · obtain ⟨x, hx, hxd⟩ := drop_at (xs := l) (k := k) (by rw [Hl.out.1]; exact hlt)
      obtain ⟨b, off, rfl, hbl, hc⟩ := Hl.out.2 (by omega)
      have c1 := hc k x hx
      simp only [intE] at c1
      have HR' : Eqn (idxNeg l 0) (if x < 0 then (k : Int) else idxNeg (l.drop (k + 1)) (k + 1)) := by
        have := HR.out; rw [hxd, idxNeg] at this; exact this
      clear hc hx hxd HR
      by_cases hneg : x < 0
      · have hd : decide (x < 0) = true := by simpa using hneg
        go_wp2_with (go_at_call 29; refine (after1_any _ _).mono ?_; rintro e w' ⟨rfl, rfl⟩)
        go_ret
        exact ⟨ret_int (by rw [HR'.out, if_pos hneg]), rfl⟩
      · have hd : decide (x < 0) = false := by simpa using hneg
        go_wp2_with (go_at_call 29; refine (after1_any _ _).mono ?_; rintro e w' ⟨rfl, rfl⟩)
        go_round
        case rel => exact ⟨k + 1, by omega, by go_num, by have := HR'.out; rw [if_neg (by omega)] at this; exact this⟩
        case measure => simp [intOf]; omega
    · have : k = n := by omega
      subst this
      go_wp2
      go_ret
      exact ⟨ret_int (by rw [HR.out, drop_end (by rw [Hl.out.1]; omega)]; rfl), rfl⟩

theorem contains_any (A : Option Addr) (n c : Nat) (w : World) (D : Nat) (l : List Int) (hn : n ≤ 1000) (hl : Row1 intE w D A n l) (b : Bool) (hb : l.any (fun n => decide (n < 0)) = b) :
    Calls Try.prog 28 #[.slice A n c, .func (.func 29) #[] #[]] w fun e w' => e = .returned (.bool b) ∧ w = w' := by
  have Hl := Lib.hid hl
  have HB : Eqn (decide (0 ≤ idxNeg l 0)) b := by rw [Eqn, idxNeg_iff l 0 (Int.le_refl _), hb]
  clear hl hb
  go_enter Try.func28, Try.ntmps28
  go_wp2_with (go_at_call 41; refine (idx_any A n c _ D l hn Hl.out).mono ?_; rintro e w' ⟨rfl, rfl⟩)
  go_ret
  exact ⟨ret_bool HB.out, rfl⟩

theorem keepF_zero (el wv pc : Int) : (keepF el wv 0 pc).2.2 = if good el wv pc then 0 else 2 := by
  by_cases h : good el wv pc
  · rw [if_pos h]; exact (keepF_good h (Int.le_refl _) (by unfold good at h; omega)).1
  · rw [if_neg h]; unfold keepF; rw [if_neg (by intro hh; exact h hh.1)]

/-- the three numbers of a tuple -/
theorem v3_eq (x : Int × Int × Int) {c : Int} (h : x.2.2 = c) : v3 x = .tuple #[.int .i64 x.1, .int .i64 x.2.1, .int .i64 c] := by unfold v3; rw [h]

theorem after_any (el wv pc : Int) (A : Option Addr) (n c : Nat) (w : World) (l : List Int) (hn : n ≤ 1000) (hl : Row1 intE w w.heap.size A n l) :
    Calls Try.prog 14 #[.int .i64 el, .int .i64 wv, .int .i64 pc, .slice A n c] w fun e w' => e = .returned (v3 (afterF el wv pc l)) ∧ w = w' := by
  have Hl := Lib.hid hl
  clear hl
  by_cases hg : good el wv pc
  · have HG := Lib.hid hg
    have hk0 : Eqn (v3 (keepF el wv 0 pc)) (.tuple #[.int .i64 (keepF el wv 0 pc).1, .int .i64 (keepF el wv 0 pc).2.1, .int .i64 0]) := v3_eq _ (by rw [keepF_zero, if_pos hg])
    cases ha : l.any (fun n => decide (n < 0)) with
    | true =>
      have HA := Eqn.mk ha
      have HF : Eqn (afterF el wv pc l) (0, 0, 2) := by unfold afterF Eqn; rw [if_pos hg, if_pos ha]
      clear hg ha
      go_enter Try.func14, Try.ntmps14
      go_wp2_with fail
      refine (keep_any _ _ _ _ _).mono ?_
      rw [hk0.out]
      rintro e w' ⟨rfl, rfl⟩
      go_wp2_with fail
      refine (contains_any A n c _ _ l hn Hl.out true HA.out).mono ?_
      rintro e w' ⟨rfl, rfl⟩
      go_wp2
      go_ret3
      exact ⟨by rw [HF.out]; rfl, rfl⟩
    | false =>
      have HA := Eqn.mk ha
      have HF : Eqn (afterF el wv pc l) (afterGo pc l el wv) := by unfold afterF Eqn; rw [if_pos hg, if_neg (by rw [ha]; simp)]
      have HN : Hid (∀ x ∈ l, 0 ≤ x) := by
        intro x hx
        have := List.any_eq_false.1 ha x hx
        simp at this
        omega
      clear hg ha
      go_enter Try.func14, Try.ntmps14
      go_wp2_with fail
      refine (keep_any _ _ _ _ _).mono ?_
      rw [hk0.out]
      rintro e w' ⟨rfl, rfl⟩
      go_wp2_with fail
      refine (contains_any A n c _ _ l hn Hl.out false HA.out).mono ?_
      rintro e w' ⟨rfl, rfl⟩
      go_wp2_with fail
      go_loop [0, 1, 32] (fun t0 t1 i => ∃ (k : Nat) (el' wv' : Int), k ≤ n ∧ i = .int .i64 k ∧ t0 = .int .i64 el' ∧ t1 = .int .i64 wv' ∧ good el' wv' pc ∧ Eqn (afterF el wv pc l) (afterGo pc (l.drop k) el' wv')) (fun _ _ i => n - (intOf i).toNat)
      case atStart => exact ⟨0, el, wv, Nat.zero_le _, rfl, rfl, rfl, HG.out, HF⟩
      case round =>
        obtain ⟨k, el', wv', hk, rfl, rfl, rfl, hg', HR⟩ := hrel
        have HG' := Lib.hid hg'
        clear hg'
        by_cases hlt : k < n
        · obtain ⟨x, hx, hxd⟩ := drop_at (xs := l) (k := k) (by rw [Hl.out.1]; exact hlt)
          obtain ⟨b, off, rfl, hbl, hc⟩ := Hl.out.2 (by omega)
          have c1 := hc k x hx
          simp only [intE] at c1
          have hx0 := HN.out x (List.mem_of_getElem? hx)
          have HR' : Eqn (afterF el wv pc l) (if el' < x then (0, 0, 3) else afterGo pc (l.drop (k + 1)) (keepF el' wv' x pc).1 (keepF el' wv' x pc).2.1) := by
            have := HR.out; rw [hxd, afterGo] at this; exact this
          clear hc hx hxd HR
          by_cases hgt : el' < x
          · have HR2 : Eqn (afterF el wv pc l) (0, 0, 3) := by rw [Eqn, HR'.out, if_pos hgt]
            go_wp2
            go_ret3
            exact ⟨by rw [HR2.out]; rfl, rfl⟩
          · have HR2 : Eqn (afterF el wv pc l) (afterGo pc (l.drop (k + 1)) (keepF el' wv' x pc).1 (keepF el' wv' x pc).2.1) := by rw [Eqn, HR'.out, if_neg hgt]
            have hkg := keepF_good HG'.out hx0 (by omega)
            have hk1 : Eqn (v3 (keepF el' wv' x pc)) (.tuple #[.int .i64 (keepF el' wv' x pc).1, .int .i64 (keepF el' wv' x pc).2.1, .int .i64 0]) := v3_eq _ hkg.1
            have HK := Lib.hid hkg.2
            clear hkg HR'
            go_wp2_with (go_at_call 12; refine (keep_any _ _ _ _ _).mono ?_; rw [hk1.out]; rintro e w' ⟨rfl, rfl⟩)
            go_round
            case rel => exact ⟨k + 1, _, _, by omega, by go_num, rfl, rfl, HK.out, HR2⟩
            case measure => simp [intOf]; omega
        · have : k = n := by omega
          subst this
          go_wp2
          go_ret3
          exact ⟨by rw [HR.out, drop_end (by rw [Hl.out.1]; omega)]; rfl, rfl⟩
  · have hk0 : Eqn (v3 (keepF el wv 0 pc)) (.tuple #[.int .i64 (keepF el wv 0 pc).1, .int .i64 (keepF el wv 0 pc).2.1, .int .i64 2]) := v3_eq _ (by rw [keepF_zero, if_neg hg])
    have HF : Eqn (afterF el wv pc l) (0, 0, 2) := by unfold afterF Eqn; rw [if_neg hg]
    clear hg
    go_enter Try.func14, Try.ntmps14
    go_wp2_with fail
    refine (keep_any _ _ _ _ _).mono ?_
    rw [hk0.out]
    rintro e w' ⟨rfl, rfl⟩
    go_wp2_with fail
    go_ret3
    exact ⟨by rw [HF.out]; rfl, rfl⟩
end Go.Proofs.Ytjbhflhlicefbaa
