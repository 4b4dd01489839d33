/- Contracts of Union, Intersect, Minus, SubsetOf, Empty. -/
import Derived.Test.YtencbmgjdiillaaDoorBs2
namespace Go.Proofs.YtencbmgjdiillaaDoor
open Go.RowKit

set_option maxHeartbeats 2000000 in
theorem union_any (S T : Nat) (w : World) : Calls Tryd.prog 37 #[sV S, sV T] w (RetPost (sV (S ||| T)) w.heap.size w) := by
  have hop : ∀ k, bits .or .u64 (wd S k) (wd T k) = ((wd (S ||| T) k : Nat) : Int) := fun k => by rw [bits_or_u64_nat _ _ (wd_lt S k) (wd_lt T k), wd_or]
  have HOP := Lib.hid hop
  clear hop
  generalize S ||| T = U at *
  unfold sV
  go_enter Tryd.func37, Tryd.ntmps37
  go_wp2_with fail
  obtain ⟨W0, hW0⟩ : ∃ W0, W0 = ((w.alloc (.cells (sL S).toArray 28)).alloc (.cells (sL T).toArray 28)).alloc (.cells (sL 0).toArray 28) := ⟨_, rfl⟩
  have hS : Blk W0 w.heap.size 28 (tabL 8 (sC S)) := by rw [hW0, ← sL_tab]; exact ((blk_new w _ _).alloc _).alloc _
  have hR : Blk W0 (w.heap.size + 2) 28 (tabL 8 (sC 0)) := by
    rw [hW0, ← sL_tab]; have := blk_new ((w.alloc (.cells (sL S).toArray 28)).alloc (.cells (sL T).toArray 28)) (sL 0) 28; rwa [World.size_alloc, World.size_alloc] at this
  have hB : Below w.heap.size w W0 := by rw [hW0]; exact (((Below.refl _ w).alloc (Nat.le_refl _) _).alloc (by simp) _).alloc (by simp; omega) _
  rw [sL_zero] at hW0
  unfold sL at hW0
  rw [← hW0]
  have HS := Lib.hid hS
  have HR := Lib.hid hR
  have HB := Lib.hid hB
  clear hW0 hS hR hB
  go_loopw [9] (fun i wr => ∃ k : Nat, k ≤ 8 ∧ i = .int .i64 k ∧ Blk wr w.heap.size 28 (tabL 8 (fun j => if j < k then sC U j else sC S j)) ∧ Blk wr (w.heap.size + 2) 28 (tabL 8 (sC 0)) ∧ Below w.heap.size w wr) (fun i _ => 8 - (intOf i).toNat)
  case atStart => exact ⟨0, by decide, rfl, HS.out.tab (fun j _ => by simp), HR.out, HB.out⟩
  case round =>
    clear HS HR HB
    obtain ⟨k, hk, rfl, hS, hR, hB⟩ := hrel
    by_cases h8 : k = 8
    · subst h8
      have hS1 : Blk wr w.heap.size 28 (tabL 8 (sC U)) := hS.tab (fun j hj => by simp [hj])
      obtain ⟨c0, c1, c2, c3, c4, c5, c6, c7⟩ := hS1.eight
      obtain ⟨d0, d1, d2, d3, d4, d5, d6, d7⟩ := hR.eight
      have hf : ∀ o, wr.frozen? ⟨w.heap.size + 2, o, none⟩ = false := hR.frozen
      have hlt := hR.lt
      have HR := Lib.hid hR
      have HB := Lib.hid hB
      clear hS1 hR hB hS hk
      go_wp2_with fail
      have b := HR.out.set8 U
      have HB2 := below_set8 U HB.out (Nat.le_add_right w.heap.size 2)
      change bodyPost _ _ _ _ _ (set8 wr (w.heap.size + 2) U)
      generalize set8 wr (w.heap.size + 2) U = W2 at *
      obtain ⟨x0, x1, x2, x3, x4, x5, x6, x7⟩ := b.eight
      refine bodyPost_ret (v := sV U) (by simp [results, Tryd.results37, go_sem, sV, x0, x1, x2, x3, x4, x5, x6, x7]) rfl ⟨rfl, HB2⟩
    · have hx := idx_at T k (by omega)
      have c1 : wr.cell? ⟨w.heap.size, k, none⟩ = some (.int .u64 (wd S k)) := hS.cell (by rw [tabL_at (by omega)]; simp [sC])
      have f1 : wr.frozen? ⟨w.heap.size, k, none⟩ = false := hS.frozen k
      have hlt := hS.lt
      have e1 := HOP.out k
      have j1 : (k : Int) < 8 := by omega
      have HS := Lib.hid hS
      have HR := Lib.hid hR
      have HB := Lib.hid hB
      clear hS hR hB
      go_wp2_with fail
      go_roundw
      case rel =>
        refine ⟨k + 1, by omega, by go_num, ?_, HR.out.other _ _ (by simp), HB.out.setCell (p := ⟨w.heap.size, k, none⟩) (Nat.le_refl _) _⟩
        have := HS.out.set_ k (.int .u64 (wd U k))
        rw [tabL_set] at this
        refine this.tab fun j hj => ?_
        by_cases h1 : j = k
        · subst h1; simp [sC]
        · by_cases h2 : j < k
          · simp [h1, h2, show j < k + 1 by omega]
          · simp [h1, h2, show ¬ j < k + 1 by omega]
      case measure => simp [intOf]; omega

set_option maxHeartbeats 2000000 in
theorem inter_any (S T : Nat) (w : World) : Calls Tryd.prog 38 #[sV S, sV T] w (RetPost (sV (S &&& T)) w.heap.size w) := by
  have hop : ∀ k, bits .and .u64 (wd S k) (wd T k) = ((wd (S &&& T) k : Nat) : Int) := fun k => by rw [bits_and_u64_nat _ _ (wd_lt S k) (wd_lt T k), wd_and]
  have HOP := Lib.hid hop
  clear hop
  generalize S &&& T = U at *
  unfold sV
  go_enter Tryd.func38, Tryd.ntmps38
  go_wp2_with fail
  obtain ⟨W0, hW0⟩ : ∃ W0, W0 = ((w.alloc (.cells (sL S).toArray 28)).alloc (.cells (sL T).toArray 28)).alloc (.cells (sL 0).toArray 28) := ⟨_, rfl⟩
  have hS : Blk W0 w.heap.size 28 (tabL 8 (sC S)) := by rw [hW0, ← sL_tab]; exact ((blk_new w _ _).alloc _).alloc _
  have hR : Blk W0 (w.heap.size + 2) 28 (tabL 8 (sC 0)) := by
    rw [hW0, ← sL_tab]; have := blk_new ((w.alloc (.cells (sL S).toArray 28)).alloc (.cells (sL T).toArray 28)) (sL 0) 28; rwa [World.size_alloc, World.size_alloc] at this
  have hB : Below w.heap.size w W0 := by rw [hW0]; exact (((Below.refl _ w).alloc (Nat.le_refl _) _).alloc (by simp) _).alloc (by simp; omega) _
  rw [sL_zero] at hW0
  unfold sL at hW0
  rw [← hW0]
  have HS := Lib.hid hS
  have HR := Lib.hid hR
  have HB := Lib.hid hB
  clear hW0 hS hR hB
  go_loopw [9] (fun i wr => ∃ k : Nat, k ≤ 8 ∧ i = .int .i64 k ∧ Blk wr w.heap.size 28 (tabL 8 (fun j => if j < k then sC U j else sC S j)) ∧ Blk wr (w.heap.size + 2) 28 (tabL 8 (sC 0)) ∧ Below w.heap.size w wr) (fun i _ => 8 - (intOf i).toNat)
  case atStart => exact ⟨0, by decide, rfl, HS.out.tab (fun j _ => by simp), HR.out, HB.out⟩
  case round =>
    clear HS HR HB
    obtain ⟨k, hk, rfl, hS, hR, hB⟩ := hrel
    by_cases h8 : k = 8
    · subst h8
      have hS1 : Blk wr w.heap.size 28 (tabL 8 (sC U)) := hS.tab (fun j hj => by simp [hj])
      obtain ⟨c0, c1, c2, c3, c4, c5, c6, c7⟩ := hS1.eight
      obtain ⟨d0, d1, d2, d3, d4, d5, d6, d7⟩ := hR.eight
      have hf : ∀ o, wr.frozen? ⟨w.heap.size + 2, o, none⟩ = false := hR.frozen
      have hlt := hR.lt
      have HR := Lib.hid hR
      have HB := Lib.hid hB
      clear hS1 hR hB hS hk
      go_wp2_with fail
      have b := HR.out.set8 U
      have HB2 := below_set8 U HB.out (Nat.le_add_right w.heap.size 2)
      change bodyPost _ _ _ _ _ (set8 wr (w.heap.size + 2) U)
      generalize set8 wr (w.heap.size + 2) U = W2 at *
      obtain ⟨x0, x1, x2, x3, x4, x5, x6, x7⟩ := b.eight
      refine bodyPost_ret (v := sV U) (by simp [results, Tryd.results38, go_sem, sV, x0, x1, x2, x3, x4, x5, x6, x7]) rfl ⟨rfl, HB2⟩
    · have hx := idx_at T k (by omega)
      have c1 : wr.cell? ⟨w.heap.size, k, none⟩ = some (.int .u64 (wd S k)) := hS.cell (by rw [tabL_at (by omega)]; simp [sC])
      have f1 : wr.frozen? ⟨w.heap.size, k, none⟩ = false := hS.frozen k
      have hlt := hS.lt
      have e1 := HOP.out k
      have j1 : (k : Int) < 8 := by omega
      have HS := Lib.hid hS
      have HR := Lib.hid hR
      have HB := Lib.hid hB
      clear hS hR hB
      go_wp2_with fail
      go_roundw
      case rel =>
        refine ⟨k + 1, by omega, by go_num, ?_, HR.out.other _ _ (by simp), HB.out.setCell (p := ⟨w.heap.size, k, none⟩) (Nat.le_refl _) _⟩
        have := HS.out.set_ k (.int .u64 (wd U k))
        rw [tabL_set] at this
        refine this.tab fun j hj => ?_
        by_cases h1 : j = k
        · subst h1; simp [sC]
        · by_cases h2 : j < k
          · simp [h1, h2, show j < k + 1 by omega]
          · simp [h1, h2, show ¬ j < k + 1 by omega]
      case measure => simp [intOf]; omega

set_option maxHeartbeats 2000000 in
theorem minus_any (S T : Nat) (w : World) : Calls Tryd.prog 39 #[sV S, sV T] w (RetPost (sV (mi S T)) w.heap.size w) := by
  have hop : ∀ k, bits .andNot .u64 (wd S k) (wd T k) = ((wd (mi S T) k : Nat) : Int) := fun k => by rw [u64_andNot_nat _ _ (wd_lt S k) (wd_lt T k), andNot_mi _ _ (wd_lt S k) (wd_lt T k), wd_mi]
  have HOP := Lib.hid hop
  clear hop
  generalize mi S T = U at *
  unfold sV
  go_enter Tryd.func39, Tryd.ntmps39
  go_wp2_with fail
  obtain ⟨W0, hW0⟩ : ∃ W0, W0 = ((w.alloc (.cells (sL S).toArray 28)).alloc (.cells (sL T).toArray 28)).alloc (.cells (sL 0).toArray 28) := ⟨_, rfl⟩
  have hS : Blk W0 w.heap.size 28 (tabL 8 (sC S)) := by rw [hW0, ← sL_tab]; exact ((blk_new w _ _).alloc _).alloc _
  have hR : Blk W0 (w.heap.size + 2) 28 (tabL 8 (sC 0)) := by
    rw [hW0, ← sL_tab]; have := blk_new ((w.alloc (.cells (sL S).toArray 28)).alloc (.cells (sL T).toArray 28)) (sL 0) 28; rwa [World.size_alloc, World.size_alloc] at this
  have hB : Below w.heap.size w W0 := by rw [hW0]; exact (((Below.refl _ w).alloc (Nat.le_refl _) _).alloc (by simp) _).alloc (by simp; omega) _
  rw [sL_zero] at hW0
  unfold sL at hW0
  rw [← hW0]
  have HS := Lib.hid hS
  have HR := Lib.hid hR
  have HB := Lib.hid hB
  clear hW0 hS hR hB
  go_loopw [9] (fun i wr => ∃ k : Nat, k ≤ 8 ∧ i = .int .i64 k ∧ Blk wr w.heap.size 28 (tabL 8 (fun j => if j < k then sC U j else sC S j)) ∧ Blk wr (w.heap.size + 2) 28 (tabL 8 (sC 0)) ∧ Below w.heap.size w wr) (fun i _ => 8 - (intOf i).toNat)
  case atStart => exact ⟨0, by decide, rfl, HS.out.tab (fun j _ => by simp), HR.out, HB.out⟩
  case round =>
    clear HS HR HB
    obtain ⟨k, hk, rfl, hS, hR, hB⟩ := hrel
    by_cases h8 : k = 8
    · subst h8
      have hS1 : Blk wr w.heap.size 28 (tabL 8 (sC U)) := hS.tab (fun j hj => by simp [hj])
      obtain ⟨c0, c1, c2, c3, c4, c5, c6, c7⟩ := hS1.eight
      obtain ⟨d0, d1, d2, d3, d4, d5, d6, d7⟩ := hR.eight
      have hf : ∀ o, wr.frozen? ⟨w.heap.size + 2, o, none⟩ = false := hR.frozen
      have hlt := hR.lt
      have HR := Lib.hid hR
      have HB := Lib.hid hB
      clear hS1 hR hB hS hk
      go_wp2_with fail
      have b := HR.out.set8 U
      have HB2 := below_set8 U HB.out (Nat.le_add_right w.heap.size 2)
      change bodyPost _ _ _ _ _ (set8 wr (w.heap.size + 2) U)
      generalize set8 wr (w.heap.size + 2) U = W2 at *
      obtain ⟨x0, x1, x2, x3, x4, x5, x6, x7⟩ := b.eight
      refine bodyPost_ret (v := sV U) (by simp [results, Tryd.results39, go_sem, sV, x0, x1, x2, x3, x4, x5, x6, x7]) rfl ⟨rfl, HB2⟩
    · have hx := idx_at T k (by omega)
      have c1 : wr.cell? ⟨w.heap.size, k, none⟩ = some (.int .u64 (wd S k)) := hS.cell (by rw [tabL_at (by omega)]; simp [sC])
      have f1 : wr.frozen? ⟨w.heap.size, k, none⟩ = false := hS.frozen k
      have hlt := hS.lt
      have e1 := HOP.out k
      have j1 : (k : Int) < 8 := by omega
      have HS := Lib.hid hS
      have HR := Lib.hid hR
      have HB := Lib.hid hB
      clear hS hR hB
      go_wp2_with fail
      go_roundw
      case rel =>
        refine ⟨k + 1, by omega, by go_num, ?_, HR.out.other _ _ (by simp), HB.out.setCell (p := ⟨w.heap.size, k, none⟩) (Nat.le_refl _) _⟩
        have := HS.out.set_ k (.int .u64 (wd U k))
        rw [tabL_set] at this
        refine this.tab fun j hj => ?_
        by_cases h1 : j = k
        · subst h1; simp [sC]
        · by_cases h2 : j < k
          · simp [h1, h2, show j < k + 1 by omega]
          · simp [h1, h2, show ¬ j < k + 1 by omega]
      case measure => simp [intOf]; omega

theorem mi_zero_iff {S T : Nat} (hS : Fit S) : mi S T = 0 ↔ ∀ k, k < 8 → wd (mi S T) k = 0 := by
  constructor
  · intro h k _; rw [h, wd_zero]
  · intro h
    exact eq_of_wd (mi_lt T hS) fit_zero (fun k hk => by rw [h k hk, wd_zero])

set_option maxHeartbeats 1000000 in
theorem subset_any (S T : Nat) (hS : Fit S) (w : World) : Calls Tryd.prog 40 #[sV S, sV T] w (RetPost (.bool (decide (mi S T = 0))) w.heap.size w) := by
  have HZ := Lib.hid (mi_zero_iff (T := T) hS)
  have hop : ∀ k, bits .andNot .u64 (wd S k) (wd T k) = ((wd (mi S T) k : Nat) : Int) := fun k => by rw [u64_andNot_nat _ _ (wd_lt S k) (wd_lt T k), andNot_mi _ _ (wd_lt S k) (wd_lt T k), wd_mi]
  have HOP := Lib.hid hop
  clear hop hS
  generalize mi S T = U at *
  unfold sV
  go_enter Tryd.func40, Tryd.ntmps40
  go_wp2_with fail
  obtain ⟨W0, hW0⟩ : ∃ W0, W0 = (w.alloc (.cells (sL S).toArray 28)).alloc (.cells (sL T).toArray 28) := ⟨_, rfl⟩
  have hT : Blk W0 (w.heap.size + 1) 28 (tabL 8 (sC T)) := by
    rw [hW0, ← sL_tab]; have := blk_new (w.alloc (.cells (sL S).toArray 28)) (sL T) 28; rwa [World.size_alloc] at this
  have HB : Hid (Below w.heap.size w W0) := Lib.hid (by rw [hW0]; exact ((Below.refl _ w).alloc (Nat.le_refl _) _).alloc (by simp) _)
  unfold sL at hW0
  rw [← hW0]
  have HT := Lib.hid hT
  have hlt := hT.lt
  clear hW0 hT
  go_loop [9] (fun i => ∃ k : Nat, k ≤ 8 ∧ i = .int .i64 k ∧ Hid (∀ j, j < k → wd U j = 0)) (fun i => 8 - (intOf i).toNat)
  case atStart => exact ⟨0, by decide, rfl, Lib.hid (fun j h => by omega)⟩
  case round =>
    obtain ⟨k, hk, rfl, HI⟩ := hrel
    by_cases h8 : k = 8
    · subst h8
      have HF : Eqn (decide (U = 0)) true := by rw [Eqn]; exact decide_eq_true (HZ.out.2 HI.out)
      go_wp2_with fail
      go_ret
      exact ⟨ret_bool HF.out.symm, HB.out⟩
    · have hx := idx_at S k (by omega)
      have c1 : W0.cell? ⟨w.heap.size + 1, k, none⟩ = some (.int .u64 (wd T k)) := HT.out.cell (tabL_at (by omega))
      have e1 := HOP.out k
      have j1 : (k : Int) < 8 := by omega
      by_cases hz : wd U k = 0
      · rw [hz] at e1
        go_wp2_with fail
        go_round
        case rel => exact ⟨k + 1, by omega, by go_num, Lib.hid (fun j hj => by rcases Nat.lt_or_ge j k with h | h; exact HI.out j h; rw [show j = k by omega]; exact hz)⟩
        case measure => simp [intOf]; omega
      · have HF : Eqn (decide (U = 0)) false := by
          rw [Eqn]; exact decide_eq_false (fun h => hz (HZ.out.1 h k (by omega)))
        have hne : ((wd U k : Int) != 0) = true := by simp; omega
        clear hz
        go_wp2_with fail
        go_ret
        exact ⟨ret_bool HF.out.symm, HB.out⟩

theorem sV_zero : sV 0 = .agg #[.int .u64 0, .int .u64 0, .int .u64 0, .int .u64 0, .int .u64 0, .int .u64 0, .int .u64 0, .int .u64 0] := by simp [sV, wd_zero]
theorem empty_any (S : Nat) (hS : Fit S) (w : World) : Calls Tryd.prog 22 #[sV S] w (RetPost (.bool (decide (S = 0))) w.heap.size w) := by
  have he := fun w => set_eql w S 0 hS fit_zero
  rw [sV_zero] at he
  unfold sV at *
  go_enter Tryd.func22, Tryd.ntmps22
  go_wp2_with fail
  go_ret
  exact ⟨rfl, (Below.refl _ w).alloc (Nat.le_refl _) _⟩
end Go.Proofs.YtencbmgjdiillaaDoor
