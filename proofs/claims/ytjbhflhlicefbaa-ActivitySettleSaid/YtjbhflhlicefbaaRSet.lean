/- Contract of the reference's Settle. -/
import Derived.Test.YtjbhflhlicefbaaSet
import Derived.Test.YtjbhflhlicefbaaCopy
import Derived.Test.YtjbhflhlicefbaaActG
import Derived.Test.YtjbhflhlicefbaaActB
namespace Go.Proofs.Ytjbhflhlicefbaa
open Go.RowKit

set_option maxHeartbeats 1000000 in
theorem rSettle_any (A : Option Addr) (n c : Nat) (pc : Int) (w : World) (l : List Prod) (x : Bidr) (hn : n ≤ 140) (hxl : x.len ≤ 1000) (hl : RowS 5 Prod.cell w w.heap.size A n l) (hx : Row1 intV w w.heap.size x.adr x.len x.blocks) :
    Calls Try.prog 21 #[.slice A n c, x.val, .int .i64 pc] w (SetPost (setF l x pc) w) := by
  have Hl := Lib.hid hl
  have Hx := Lib.hid hx
  clear hl hx
  unfold Bidr.val
  have hL : Hid (Below w.heap.size w ((w.alloc (.cells #[.int .i64 x.id, .int .i64 x.elig, .int .i64 x.waiv, .slice x.adr x.len x.cap] 40)).alloc (.cells #[.int .i64 0, .int .i64 0, .int .i64 0, .slice none 0 0] 40))) := ((Below.refl _ _).alloc (Nat.le_refl _) _).alloc (by simp) _
  by_cases hg : vBidders l [x] = true ∧ 1 ≤ pc ∧ pc ≤ 100
  · obtain ⟨hv, p1, p2⟩ := hg
    have HV := Eqn.mk hv
    have hk := v3_eq _ (set_keep hv p1 p2)
    have hF : Eqn (setF l x pc) (x.id, (keepF x.elig x.waiv (unitsF l x.blocks) pc).1, (keepF x.elig x.waiv (unitsF l x.blocks) pc).2.1, x.blocks, 0) := by unfold setF Eqn; rw [if_pos ⟨hv, p1, p2⟩]
    have hU : Eqn (dUnits l x.blocks) (.tuple #[.int .i64 (unitsF l x.blocks), .int .i64 0]) := by
      have hone := vBidders_one hv
      unfold dUnits dValid Eqn; rw [hone.1, hone.2.1]; rfl
    generalize (keepF x.elig x.waiv (unitsF l x.blocks) pc).1 = ka at *
    generalize (keepF x.elig x.waiv (unitsF l x.blocks) pc).2.1 = kb at *
    have HK := Eqn.mk hk
    have d1 : ¬ pc < 1 := by omega
    have d2 : ¬ 100 < pc := by omega
    clear hv hk p1 p2
    go_enter Try.func21, Try.ntmps21
    go_wp2_with fail
    refine (alone_any A n c _ l x hn (by exact Hl.out.keep hL.out) (by exact Hx.out.keep hL.out)).mono ?_
    rw [HV.out]
    rintro e w1 ⟨rfl, hb1⟩
    have z1 : w.heap.size + 1 < w1.heap.size := by have := hb1.size; simp at this; omega
    have r1 := fun o => hb1.cell (p := ⟨w.heap.size + 1, o, none⟩) (by simp)
    have f1 := fun o => hb1.frozen (p := ⟨w.heap.size + 1, o, none⟩) (by simp)
    have q1 := fun o => hb1.cell (p := ⟨w.heap.size, o, none⟩) (by simp <;> omega)
    have B1 : Hid (Below w.heap.size w w1) := hL.out.trans (hb1.mono (by simp <;> omega))
    clear hb1
    go_wp2_with fail
    refine (rUnits_any A _ n c _ _ _ l x.blocks hn (by exact Hl.out.keep B1.out) (by exact Hx.out.keep B1.out)).mono ?_
    rw [hU.out]
    rintro e w2 ⟨rfl, hb2⟩
    have z2 : w.heap.size + 1 < w2.heap.size := by have := hb2.size; omega
    have r2 := fun o => (hb2.cell (p := ⟨w.heap.size + 1, o, none⟩) z1).trans (r1 o)
    have f2 := fun o => (hb2.frozen (p := ⟨w.heap.size + 1, o, none⟩) z1).trans (f1 o)
    have q2 := fun o => (hb2.cell (p := ⟨w.heap.size, o, none⟩) (by simp; omega)).trans (q1 o)
    have B2 : Hid (Below w.heap.size w w2) := B1.out.trans (hb2.mono (by omega))
    clear hb2 r1 f1 q1
    have HBI := Lib.hid (bidsAt_one w2 x w.heap.size B2.out.size (Hx.out.below B2.out) 40)
    go_wp2_with fail
    refine (copy_one _ 1 _ x hxl (by exact HBI.out.up (by simp))).mono ?_
    rintro e w3 ⟨v, A', c', rfl, ho3, hp3, hb3⟩
    obtain ⟨g, cap, rfl, hg3⟩ : ∃ g cap, v = .slice (some ⟨g, 0, none⟩) 1 cap ∧ w2.heap.size + 1 ≤ g := by
      rcases ho3.2 with ⟨_, h⟩ | ⟨g, cap, cur, h, h2, _⟩
      · cases h
      · exact ⟨g, cap, h, by simpa using h2⟩
    have g0 := ho3.cells (g := g) rfl 0 _ rfl
    have g1 := ho3.cells (g := g) rfl 1 _ rfl
    have g2 := ho3.cells (g := g) rfl 2 _ rfl
    have g3 := ho3.cells (g := g) rfl 3 _ rfl
    simp only [Addr.add] at g0 g1 g2 g3
    simp at g0 g1 g2 g3
    have hb3' : Below (w.heap.size + 1 + 1) w2 w3 := ((Below.refl _ _).alloc (by omega) _).trans (hb3.mono (by simp; omega))
    have z3 : w.heap.size + 1 < w3.heap.size := by have := hb3'.size; omega
    have r3 := fun o => (hb3'.cell (p := ⟨w.heap.size + 1, o, none⟩) (by simp)).trans (r2 o)
    have f3 := fun o => (hb3'.frozen (p := ⟨w.heap.size + 1, o, none⟩) (by simp)).trans (f2 o)
    have q3 := fun o => (hb3'.cell (p := ⟨w.heap.size, o, none⟩) (by simp; omega)).trans (q2 o)
    have B3 : Hid (Below w.heap.size w w3) := B2.out.trans (hb3'.mono (by omega))
    have HP3 := Lib.hid hp3
    have z4 : w2.heap.size < w3.heap.size := by have := hb3.size; simp at this; omega
    have z5 : w.heap.size < w3.heap.size := by omega
    clear hb3' hb3 r2 f2 q2 hp3 ho3
    go_wp2_with fail
    refine (rkeep_any _ _ _ _ _).mono ?_
    rw [HK.out]
    rintro e w' ⟨rfl, rfl⟩
    go_wp2
    rw [hF.out]
    refine bodyPost_ret (v := .tuple #[.agg #[.int .i64 x.id, .int .i64 ka, .int .i64 kb, .slice A' x.blocks.length c'], .int .i64 0]) (by simp [results, Try.results21, go_sem, r3, World.cell?_alloc_lt, z3]) rfl ⟨_, rfl, ?_, ?_⟩
    · refine own_low (own_congr HP3.out (fun g h1 h2 => ?_)) (by simp; omega)
      simp at h1
      refine (heap_alloc_old _ _ (r := g) (by simp; omega)).trans ?_
      refine (Go.Deep.blk_setCell_other _ _ _ _ (by simp; omega)).trans ?_
      refine (Go.Deep.blk_setCell_other _ _ _ _ (by simp; omega)).trans ?_
      refine (Go.Deep.blk_setCell_other _ _ _ _ (by simp; omega)).trans ?_
      exact Go.Deep.blk_setCell_other _ _ _ _ (by simp; omega)
    · repeat' (first | exact B3.out | refine Below.setCell ?_ (by simp <;> omega) _ | refine Below.alloc ?_ (by simp <;> omega) _)
  · have hF : Eqn (setF l x pc) (0, 0, 0, [], 2) := by unfold setF Eqn; rw [if_neg hg]
    cases hv : vBidders l [x] with
    | false =>
      have HV := Eqn.mk hv
      clear hv hg
      go_enter Try.func21, Try.ntmps21
      go_wp2_with fail
      refine (alone_any A n c _ l x hn (by exact Hl.out.keep hL.out) (by exact Hx.out.keep hL.out)).mono ?_
      rw [HV.out]
      rintro e w1 ⟨rfl, hb1⟩
      have z1 : w.heap.size + 1 < w1.heap.size := by have := hb1.size; simp at this; omega
      have r1 := fun o => hb1.cell (p := ⟨w.heap.size + 1, o, none⟩) (by simp)
      have f1 := fun o => hb1.frozen (p := ⟨w.heap.size + 1, o, none⟩) (by simp)
      have B1 : Hid (Below w.heap.size w w1) := hL.out.trans (hb1.mono (by simp <;> omega))
      clear hb1
      go_wp2
      all_goals
        rw [hF.out]
        refine bodyPost_ret (v := .tuple #[.agg #[.int .i64 0, .int .i64 0, .int .i64 0, .slice none 0 0], .int .i64 2]) (by simp [results, Try.results21, go_sem, r1]) rfl ⟨_, rfl, World.ownsRow_nil _ _ _ _, ?_⟩
        exact (((B1.out.setCell (by simp) _).setCell (by simp) _).setCell (by simp) _).setCell (by simp) _
    | true =>
      have HV := Eqn.mk hv
      have hpc : pc < 1 ∨ (¬ pc < 1 ∧ 100 < pc) := by
        rcases Int.lt_or_le pc 1 with h | h
        · exact .inl h
        · rcases Int.lt_or_le 100 pc with h2 | h2
          · exact .inr ⟨by omega, h2⟩
          · exact absurd ⟨hv, h, h2⟩ hg
      clear hv hg
      rcases hpc with h | ⟨h, h2⟩
      all_goals
        go_enter Try.func21, Try.ntmps21
        go_wp2_with fail
        refine (alone_any A n c _ l x hn (by exact Hl.out.keep hL.out) (by exact Hx.out.keep hL.out)).mono ?_
        rw [HV.out]
        rintro e w1 ⟨rfl, hb1⟩
        have z1 : w.heap.size + 1 < w1.heap.size := by have := hb1.size; simp at this; omega
        have r1 := fun o => hb1.cell (p := ⟨w.heap.size + 1, o, none⟩) (by simp)
        have f1 := fun o => hb1.frozen (p := ⟨w.heap.size + 1, o, none⟩) (by simp)
        have B1 : Hid (Below w.heap.size w w1) := hL.out.trans (hb1.mono (by simp <;> omega))
        clear hb1
        go_wp2
        all_goals
          rw [hF.out]
          refine bodyPost_ret (v := .tuple #[.agg #[.int .i64 0, .int .i64 0, .int .i64 0, .slice none 0 0], .int .i64 2]) (by simp [results, Try.results21, go_sem, r1]) rfl ⟨_, rfl, World.ownsRow_nil _ _ _ _, ?_⟩
          exact (((B1.out.setCell (by simp) _).setCell (by simp) _).setCell (by simp) _).setCell (by simp) _
end Go.Proofs.Ytjbhflhlicefbaa
