/- Contract of the reference's After. -/
import Derived.Test.YtjbhflhlicefbaaActC
namespace Go.Proofs.Ytjbhflhlicefbaa
open Go.RowKit

theorem rafter_any (el wv pc : Int) (A : Option Addr) (n c : Nat) (w : World) (l : List Int) (hn : n ≤ 1000) (hl : Row1 intE w w.heap.size A n l) :
    Calls Try.prog 15 #[.int .i64 el, .int .i64 wv, .int .i64 pc, .slice A n c] w fun e w' => e = .returned (v3 (afterF el wv pc l)) ∧ w = w' := by
  have Hl := Lib.hid hl
  clear hl
  by_cases hg : good el wv pc
  · have HG := Lib.hid hg
    have HF : Eqn (afterF el wv pc l) (if l.any (fun n => decide (n < 0)) then (0, 0, 2) else afterGo pc l el wv) := by unfold afterF Eqn; rw [if_pos hg]
    clear hg
    go_enter Try.func15, Try.ntmps15
    go_wp2_with (go_at_call 27; refine (rgood_yes _ _ _ _ HG.out).mono ?_; rintro e w' ⟨rfl, rfl⟩)
    go_loop [11] (fun i => ∃ k : Nat, k ≤ n ∧ i = .int .i64 k ∧ Eqn (l.any (fun n => decide (n < 0))) ((l.drop k).any (fun n => decide (n < 0)))) (fun i => n - (intOf i).toNat)
    case atStart => exact ⟨0, Nat.zero_le _, rfl, Eqn.mk rfl⟩
    case round =>
      obtain ⟨k, hk, rfl, HR⟩ := hrel
      by_cases hlt : k < n
      · obtain ⟨x, hx, hxd⟩ := drop_at (xs := l) (k := k) (by rw [Hl.out.1]; exact hlt)
        obtain ⟨b, off, rfl, hbl, hc⟩ := Hl.out.2 (by omega)
        have c1 := hc k x hx
        simp only [intE] at c1
        have HR' : Eqn (l.any (fun n => decide (n < 0))) (decide (x < 0) || (l.drop (k + 1)).any (fun n => decide (n < 0))) := by
          have := HR.out; rw [hxd, List.any_cons] at this; exact this
        clear hc hx hxd HR
        by_cases hneg : x < 0
        · have HF2 : Eqn (afterF el wv pc l) (0, 0, 2) := by rw [Eqn, HF.out, if_pos (by rw [HR'.out]; simp [hneg])]
          clear HR'
          go_wp2
          go_ret3
          exact ⟨by rw [HF2.out]; rfl, rfl⟩
        · have HR2 : Eqn (l.any (fun n => decide (n < 0))) ((l.drop (k + 1)).any (fun n => decide (n < 0))) := by rw [Eqn, HR'.out]; simp [hneg]
          clear HR'
          go_wp2
          go_round
          case rel => exact ⟨k + 1, by omega, by go_num, HR2⟩
          case measure => simp [intOf]; omega
      · have ha : l.any (fun n => decide (n < 0)) = false := by rw [HR.out, drop_end (by rw [Hl.out.1]; omega)]; rfl
        have HF2 : Eqn (afterF el wv pc l) (afterGo pc l el wv) := by rw [Eqn, HF.out, if_neg (by rw [ha]; simp)]
        have HN : Hid (∀ x ∈ l, 0 ≤ x) := by
          intro x hx
          have := List.any_eq_false.1 ha x hx
          simp at this
          omega
        clear HR ha HF
        go_wp2
        go_loop [0, 1, 12] (fun t0 t1 i => ∃ (k : Nat) (el' wv' : Int), k ≤ n ∧ i = .int .i64 k ∧ t0 = .int .i64 el' ∧ t1 = .int .i64 wv' ∧ good el' wv' pc ∧ Eqn (afterF el wv pc l) (afterGo pc (l.drop k) el' wv')) (fun _ _ i => n - (intOf i).toNat)
        case atStart => exact ⟨0, el, wv, Nat.zero_le _, rfl, rfl, rfl, HG.out, HF2⟩
        case round =>
          obtain ⟨j, el', wv', hj, rfl, rfl, rfl, hg', HR⟩ := hrel
          have HG' := Lib.hid hg'
          clear hg'
          by_cases hlt : j < n
          · obtain ⟨x, hx, hxd⟩ := drop_at (xs := l) (k := j) (by rw [Hl.out.1]; exact hlt)
            obtain ⟨b, off, rfl, hbl, hc⟩ := Hl.out.2 (by omega)
            have c1 := hc j x hx
            simp only [intE] at c1
            have hx0 := HN.out x (List.mem_of_getElem? hx)
            have HR' : Eqn (afterF el wv pc l) (if el' < x then (0, 0, 3) else afterGo pc (l.drop (j + 1)) (keepF el' wv' x pc).1 (keepF el' wv' x pc).2.1) := by
              have := HR.out; rw [hxd, afterGo] at this; exact this
            clear hc hx hxd HR
            by_cases hgt : el' < x
            · have HR2 : Eqn (afterF el wv pc l) (0, 0, 3) := by rw [Eqn, HR'.out, if_pos hgt]
              go_wp2
              go_ret3
              exact ⟨by rw [HR2.out]; rfl, rfl⟩
            · have HR2 : Eqn (afterF el wv pc l) (afterGo pc (l.drop (j + 1)) (keepF el' wv' x pc).1 (keepF el' wv' x pc).2.1) := by rw [Eqn, HR'.out, if_neg hgt]
              have hkg := keepF_good HG'.out hx0 (by omega)
              have hk1 : Eqn (v3 (keepF el' wv' x pc)) (.tuple #[.int .i64 (keepF el' wv' x pc).1, .int .i64 (keepF el' wv' x pc).2.1, .int .i64 0]) := v3_eq _ hkg.1
              have HK := Lib.hid hkg.2
              clear hkg HR'
              go_wp2_with (go_at_call 13; refine (rkeep_any _ _ _ _ _).mono ?_; rw [hk1.out]; rintro e w' ⟨rfl, rfl⟩)
              go_round
              case rel => exact ⟨j + 1, _, _, by omega, by go_num, rfl, rfl, HK.out, HR2⟩
              case measure => simp [intOf]; omega
          · have : j = n := by omega
            subst this
            go_wp2
            go_ret3
            exact ⟨by rw [HR.out, drop_end (by rw [Hl.out.1]; omega)]; rfl, rfl⟩
  · have HF : Eqn (afterF el wv pc l) (0, 0, 2) := by unfold afterF Eqn; rw [if_neg hg]
    have HG := Lib.hid hg
    clear hg
    go_enter Try.func15, Try.ntmps15
    go_wp2_with (go_at_call 27; refine (rgood_no _ _ _ _ HG.out).mono ?_; rintro e w' ⟨rfl, rfl⟩)
    go_ret3
    exact ⟨by rw [HF.out]; rfl, rfl⟩
end Go.Proofs.Ytjbhflhlicefbaa
