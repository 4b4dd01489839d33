/- The reference of layer 17: Small. -/
import Derived.Test.YtpdhelhngdeoeaaRs17
namespace Go.Proofs.Ytpdhelhngdeoeaa
open Go.RowKit

def smGoN : Nat → List Dom → Bool
  | 0, _ => true
  | _, [] => true
  | f + 1, d :: r => if 60 < d.len then false else smGoN f r
theorem smGoN_nil (f : Nat) : smGoN f [] = true := by cases f <;> rfl
theorem smGoN_all : ∀ (f : Nat) (l : List Dom), smGoN f l = true → l.length ≤ f → ∀ d ∈ l, d.len ≤ 60 := by
  intro f
  induction f with
  | zero => intro l _ h2 d hd; cases l with | nil => cases hd | cons x r => simp at h2
  | succ f ih =>
    intro l h1 h2 d hd
    cases l with
    | nil => cases hd
    | cons x r =>
      rw [smGoN] at h1
      by_cases hx : 60 < x.len
      · rw [if_pos hx] at h1; cases h1
      · rw [if_neg hx] at h1
        rcases List.mem_cons.1 hd with rfl | h
        · omega
        · exact ih r h1 (by simp at h2; omega) d h
def smF (ds : List Dom) (r : Rul) (d k : Int) : Bool := smGoN 600 ds && (decide ((ds.length : Int) ≤ d) && (decide ((r.pairs.length : Int) ≤ k) && (decide ((r.loads.length : Int) ≤ k) && decide ((r.caps.length : Int) ≤ k))))
theorem smF_spec {ds : List Dom} {r : Rul} {d k : Int} (hd : d ≤ 600) (h : smF ds r d k = true) : (ds.length : Int) ≤ d ∧ (∀ x ∈ ds, x.len ≤ 60) ∧ (r.pairs.length : Int) ≤ k ∧ (r.loads.length : Int) ≤ k ∧ (r.caps.length : Int) ≤ k := by
  simp only [smF, Bool.and_eq_true, decide_eq_true_eq] at h
  obtain ⟨h1, h2, h3, h4, h5⟩ := h
  exact ⟨h2, smGoN_all 600 ds h1 (by omega), h3, h4, h5⟩

set_option maxHeartbeats 2000000 in
theorem small_any (s : PrbS) (d k : Int) (w : World) (ds : List Dom) (r : Rul) (hn : s.nd ≤ 9223372036854775807) (h : PrbAt w w.heap.size s ds r) :
    Calls Try.prog 23 #[s.val, .int .i64 d, .int .i64 k] w (RetPost (.bool (smF ds r d k)) w.heap.size w) := by
  obtain ⟨A, n, c, ⟨A0, n0, c0, A1, n1, c1, A2, n2, c2⟩⟩ := s
  obtain ⟨W0, hW0⟩ : ∃ W0, W0 = w.alloc (.cells #[.slice A n c, .slice A0 n0 c0, .slice A1 n1 c1, .slice A2 n2 c2] 57) := ⟨_, rfl⟩
  have HB0 : Hid (Below w.heap.size w W0) := Lib.hid (by rw [hW0]; exact (Below.refl _ w).alloc (Nat.le_refl _) _)
  have h0 : DomsAt W0 W0.heap.size A n ds := h.1.keep HB0.out
  have hX : Blk W0 w.heap.size 57 [.slice A n c, .slice A0 n0 c0, .slice A1 n1 c1, .slice A2 n2 c2] := by rw [hW0]; exact blk_new w _ _
  have Hl := Lib.hid h0.1
  have Hlen := Eqn.mk h0.1.1
  have q0 : W0.cell? ⟨w.heap.size, 0, none⟩ = some (.slice A n c) := hX.cell rfl
  have q1 : W0.cell? ⟨w.heap.size, 1, none⟩ = some (.slice A0 n0 c0) := hX.cell rfl
  have q2 : W0.cell? ⟨w.heap.size, 2, none⟩ = some (.slice A1 n1 c1) := hX.cell rfl
  have q3 : W0.cell? ⟨w.heap.size, 3, none⟩ = some (.slice A2 n2 c2) := hX.cell rfl
  have q4 := hX.lt
  have HF : Eqn (smF ds r d k) (smGoN (600 - 0) (ds.drop 0) && (decide ((n : Int) ≤ d) && (decide ((n0 : Int) ≤ k) && (decide ((n1 : Int) ≤ k) && decide ((n2 : Int) ≤ k))))) := by
    rw [Eqn, smF, Hlen.out, h.2.1.1, h.2.2.1.1, h.2.2.2.1.1]; rfl
  dsimp only at hn
  clear h h0 hX
  rw [show smF ds r d k = _ from HF.out]
  obtain ⟨tail, htail⟩ : ∃ tail, tail = (decide ((n : Int) ≤ d) && (decide ((n0 : Int) ≤ k) && (decide ((n1 : Int) ≤ k) && decide ((n2 : Int) ≤ k)))) := ⟨_, rfl⟩
  rw [← htail]
  obtain ⟨ans, hans⟩ : ∃ ans, ans = (smGoN (600 - 0) (ds.drop 0) && tail) := ⟨_, rfl⟩
  rw [← hans]
  have HA := Eqn.mk hans
  have HT := Eqn.mk htail
  clear hans HF htail
  unfold PrbS.val
  dsimp only
  go_enter Try.func23, Try.ntmps23
  go_wp2_with fail
  rw [← hW0]
  clear hW0
  have HEND : Hid (Eqn ans tail → Eqn ans (decide ((n : Int) ≤ d) && (decide ((n0 : Int) ≤ k) && (decide ((n1 : Int) ≤ k) && decide ((n2 : Int) ≤ k))))) := Lib.hid (fun h => h.out.trans HT.out)
  clear HT
  generalize htt : tail = tt at *
  clear htt
  go_loopw [7] (fun i wr => ∃ j : Nat, j ≤ n ∧ j ≤ 600 ∧ i = .int .i64 j ∧ Eqn ans (smGoN (600 - j) (ds.drop j) && tt) ∧ W0 = wr) (fun i _ => n - (intOf i).toNat)
  case atStart => exact ⟨0, Nat.zero_le _, Nat.zero_le _, rfl, HA, rfl⟩
  case round =>
    clear HA
    obtain ⟨j, hj, hj6, rfl, HR, rfl⟩ := hrel
    by_cases hlt : j < n
    · by_cases h6 : j < 600
      · obtain ⟨p, hp, hpd⟩ := drop_at (xs := ds) (k := j) (by rw [Hlen.out]; exact hlt)
        obtain ⟨b, off, hA, hbl, hc⟩ := Hl.out.2 (by omega)
        subst hA
        have c1 := hc j p hp 1 (by omega)
        simp only [Dom.cell] at c1
        have HR2 := HR.out
        rw [hpd, show 600 - j = (600 - (j + 1)) + 1 by omega, smGoN] at HR2
        have HRR := Eqn.mk HR2
        have j0 : (j : Int) < (n : Int) := by omega
        have j1 : (j : Int) < 600 := by omega
        clear hc hp hpd HR HR2
        obtain ⟨st, adr, len, cap, chs⟩ := p
        dsimp only at *
        by_cases h10 : 60 < len
        · have HE : Eqn ans false := by rw [Eqn, HRR.out, if_pos h10]; rfl
          have j2 : (60 : Int) < (len : Int) := by omega
          clear HRR h10
          go_wp2_with fail
          go_ret
          exact ⟨ret_bool HE.out.symm, HB0.out⟩
        · have HE : Eqn ans (smGoN (600 - (j + 1)) (ds.drop (j + 1)) && tt) := by rw [Eqn, HRR.out, if_neg h10]
          have j2 : ¬ (60 : Int) < (len : Int) := by omega
          clear HRR h10
          go_wp2_with fail
          go_roundw
          case rel => exact ⟨j + 1, by omega, by omega, by go_num, HE, trivial⟩
          case measure => simp [intOf]; omega
      · have HE : Eqn ans tt := by rw [Eqn, HR.out, show 600 - j = 0 by omega, smGoN]; simp
        have j0 : (j : Int) < (n : Int) := by omega
        have j1 : ¬ (j : Int) < 600 := by omega
        have HE2 := HEND.out HE
        clear HR HE HEND
        by_cases g0 : (n : Int) ≤ d
        · by_cases g1 : (n0 : Int) ≤ k
          · by_cases g2 : (n1 : Int) ≤ k
            · have HV : Eqn ans (decide ((n2 : Int) ≤ k)) := by rw [Eqn, HE2.out]; simp [g0, g1, g2]
              clear HE2
              go_wp2_with fail
              go_ret
              exact ⟨ret_bool HV.out.symm, HB0.out⟩
            · have HV : Eqn ans false := by rw [Eqn, HE2.out]; simp [g0, g1, g2]
              clear HE2
              go_wp2_with fail
              go_ret
              exact ⟨ret_bool HV.out.symm, HB0.out⟩
          · have HV : Eqn ans false := by rw [Eqn, HE2.out]; simp [g0, g1]
            clear HE2
            go_wp2_with fail
            go_ret
            exact ⟨ret_bool HV.out.symm, HB0.out⟩
        · have HV : Eqn ans false := by rw [Eqn, HE2.out]; simp [g0]
          clear HE2
          go_wp2_with fail
          go_ret
          exact ⟨ret_bool HV.out.symm, HB0.out⟩
    · obtain rfl : j = n := by omega
      have HE : Eqn ans tt := by rw [Eqn, HR.out, drop_end (by rw [Hlen.out]; omega), smGoN_nil]; simp
      have HE2 := HEND.out HE
      clear HR HE HEND
      by_cases g0 : (j : Int) ≤ d
      · by_cases g1 : (n0 : Int) ≤ k
        · by_cases g2 : (n1 : Int) ≤ k
          · have HV : Eqn ans (decide ((n2 : Int) ≤ k)) := by rw [Eqn, HE2.out]; simp [g0, g1, g2]
            clear HE2
            go_wp2_with fail
            go_ret
            exact ⟨ret_bool HV.out.symm, HB0.out⟩
          · have HV : Eqn ans false := by rw [Eqn, HE2.out]; simp [g0, g1, g2]
            clear HE2
            go_wp2_with fail
            go_ret
            exact ⟨ret_bool HV.out.symm, HB0.out⟩
        · have HV : Eqn ans false := by rw [Eqn, HE2.out]; simp [g0, g1]
          clear HE2
          go_wp2_with fail
          go_ret
          exact ⟨ret_bool HV.out.symm, HB0.out⟩
      · have HV : Eqn ans false := by rw [Eqn, HE2.out]; simp [g0]
        clear HE2
        go_wp2_with fail
        go_ret
        exact ⟨ret_bool HV.out.symm, HB0.out⟩
end Go.Proofs.Ytpdhelhngdeoeaa
