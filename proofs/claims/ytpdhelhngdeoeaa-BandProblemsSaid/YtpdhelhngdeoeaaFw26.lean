/- The references: Few, ValidBands (layer 26), Small (layer 17). -/
import Derived.Test.YtpdhelhngdeoeaaRs17
namespace Go.Proofs.Ytpdhelhngdeoeaa
open Go.RowKit

def fewGo : Nat → List Dom → Bool
  | 0, _ => true
  | _, [] => true
  | f + 1, d :: r => if 10 < d.len then false else fewGo f r
theorem fewGo_nil (f : Nat) : fewGo f [] = true := by cases f <;> rfl
theorem fewGo_all : ∀ (f : Nat) (l : List Dom), fewGo f l = true → l.length ≤ f → ∀ d ∈ l, d.len ≤ 10 := by
  intro f
  induction f with
  | zero => intro l _ h2 d hd; cases l with | nil => cases hd | cons x r => simp at h2
  | succ f ih =>
    intro l h1 h2 d hd
    cases l with
    | nil => cases hd
    | cons x r =>
      rw [fewGo] at h1
      by_cases hx : 10 < x.len
      · rw [if_pos hx] at h1; cases h1
      · rw [if_neg hx] at h1
        rcases List.mem_cons.1 hd with rfl | h
        · omega
        · exact ih r h1 (by simp at h2; omega) d h
def fewF (ds : List Dom) : Bool := fewGo 13 ds && decide (ds.length ≤ 12)
theorem fewF_spec {ds : List Dom} (h : fewF ds = true) : ds.length ≤ 12 ∧ ∀ d ∈ ds, d.len ≤ 10 := by
  simp only [fewF, Bool.and_eq_true, decide_eq_true_eq] at h
  exact ⟨h.2, fewGo_all 13 ds h.1 (by omega)⟩

set_option maxHeartbeats 1000000 in
theorem few_any (A : Option Addr) (n c : Nat) (w : World) (ds : List Dom) (hn : n ≤ 9223372036854775807) (hl : DomsAt w w.heap.size A n ds) :
    Calls Try.prog 22 #[.slice A n c, .int .i64 12] w fun e w' => e = .returned (.bool (fewF ds)) ∧ w = w' := by
  have Hl := Lib.hid hl.1
  have Hlen := Eqn.mk hl.1.1
  have HF : Eqn (fewF ds) (fewGo (13 - 0) (ds.drop 0) && decide (n ≤ 12)) := by rw [Eqn, fewF, Hlen.out]; rfl
  clear hl
  rw [show fewF ds = _ from HF.out]
  obtain ⟨ans, hans⟩ : ∃ ans, ans = (fewGo (13 - 0) (ds.drop 0) && decide (n ≤ 12)) := ⟨_, rfl⟩
  rw [← hans]
  have HA := Eqn.mk hans
  clear hans HF
  go_enter Try.func22, Try.ntmps22
  go_wp2_with fail
  go_loopw [5] (fun i wr => ∃ k : Nat, k ≤ n ∧ k ≤ 13 ∧ i = .int .i64 k ∧ Eqn ans (fewGo (13 - k) (ds.drop k) && decide (n ≤ 12)) ∧ w = wr) (fun i _ => n - (intOf i).toNat)
  case atStart => exact ⟨0, Nat.zero_le _, Nat.zero_le _, rfl, HA, rfl⟩
  case round =>
    clear HA
    obtain ⟨k, hk, hk13, rfl, HR, rfl⟩ := hrel
    by_cases hlt : k < n
    · by_cases h12 : k ≤ 12
      · obtain ⟨p, hp, hpd⟩ := drop_at (xs := ds) (k := k) (by rw [Hlen.out]; exact hlt)
        obtain ⟨b, off, hA, hbl, hc⟩ := Hl.out.2 (by omega)
        subst hA
        have c1 := hc k p hp 1 (by omega)
        simp only [Dom.cell] at c1
        have HR2 := HR.out
        rw [hpd, show 13 - k = (13 - (k + 1)) + 1 by omega, fewGo] at HR2
        have HRR := Eqn.mk HR2
        have j0 : (k : Int) < (n : Int) := by omega
        have j1 : (k : Int) ≤ 12 := by omega
        clear hc hp hpd HR HR2
        obtain ⟨st, adr, len, cap, chs⟩ := p
        dsimp only at *
        by_cases h10 : 10 < len
        · have HE : Eqn ans false := by rw [Eqn, HRR.out, if_pos h10]; rfl
          have j2 : (10 : Int) < (len : Int) := by omega
          clear HRR h10
          go_wp2_with fail
          go_ret
          exact ⟨ret_bool HE.out.symm, rfl⟩
        · have HE : Eqn ans (fewGo (13 - (k + 1)) (ds.drop (k + 1)) && decide (n ≤ 12)) := by rw [Eqn, HRR.out, if_neg h10]
          have j2 : ¬ (10 : Int) < (len : Int) := by omega
          clear HRR h10
          go_wp2_with fail
          go_roundw
          case rel => exact ⟨k + 1, by omega, by omega, by go_num, HE, trivial⟩
          case measure => simp [intOf]; omega
      · have HE : Eqn ans false := by rw [Eqn, HR.out]; simp [show ¬ n ≤ 12 by omega]
        have j0 : (k : Int) < (n : Int) := by omega
        have j1 : ¬ (k : Int) ≤ 12 := by omega
        have j2 : ¬ (n : Int) ≤ 12 := by omega
        clear HR
        go_wp2_with fail
        go_ret
        exact ⟨ret_bool (by rw [HE.out]), rfl⟩
    · obtain rfl : k = n := by omega
      have HE : Eqn ans (decide (k ≤ 12)) := by rw [Eqn, HR.out, drop_end (by rw [Hlen.out]; omega), fewGo_nil]; rfl
      clear HR
      go_wp2_with fail
      go_ret
      exact ⟨ret_bool (by rw [HE.out]; exact decide_eq_decide.2 (by omega)), rfl⟩
end Go.Proofs.Ytpdhelhngdeoeaa
