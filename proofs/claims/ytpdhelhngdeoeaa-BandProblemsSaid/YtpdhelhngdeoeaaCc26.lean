/- Contracts of slices.Grow at the nil slice and of slices.Concat at two rows of numbers. -/
import Derived.Test.YtpdhelhngdeoeaaCk26
import Derived.Lib.AppendZerosOnto
namespace Go.Proofs.Ytpdhelhngdeoeaa
open Go.RowKit

theorem zeroCells_size (z : Value) (n : Nat) (h : z.cells.size = 1) : (Builtin.zeroCells z.cells n).size = n := by simp [Builtin.zeroCells, h]

set_option maxRecDepth 100000 in
set_option maxHeartbeats 2000000 in
theorem grow_any (n : Nat) (w : World) (hn : n ≤ 100000) : Calls Try.prog 63 #[.slice none 0 0, .int .i64 n] w (NewInts [] w) := by
  by_cases h0 : n = 0
  · subst h0
    go_enter Try.func63, Try.ntmps63
    go_wp2_with fail
    go_ret
    exact ⟨_, rfl, World.ownsRow_nil _ _ _ _, Below.refl _ _⟩
  · obtain ⟨i0, hi, hz0, hz1, hz2⟩ := info_parts int_info
    have hrz : ∀ ty, (Builtin.append_ #[38, 3] ty #[.slice none 0 0, .int .i64 (n : Int)]).run Try.prog w = .ok (.slice (some ⟨w.heap.size, 0, none⟩) n (grownCap w n 0 3)) (w.drew.alloc (.cells (Builtin.zeroCells (Value.int .i64 0).cells n ++ Builtin.zeroCells (Value.int .i64 0).cells (grownCap w n 0 3 - n)) 3)) := fun ty => by
      have h := Lib.run_append_grow_zeros (P := Try.prog) w 38 3 ty 3 i0 (.int .i64 0) .i64 .i64 Try.underlying38 Try.underlying3 hi hz0 none 0 0 [] (run_firstCells_none w.drew i0.size 0 0 0) n (by omega) (by rw [hz1]; decide) (by omega) (by omega) (by rw [hz2]; omega) (by rw [hz2]; exact growslice_fits (by omega) (by omega))
      simpa using h
    have hge : n ≤ grownCap w n 0 3 := grownCap_ge w _ _ _
    have hle : grownCap w n 0 3 ≤ maxLen := grownCap_le_maxLen w n 0 3 (by unfold maxLen; omega)
    generalize grownCap w n 0 3 = G at *
    have HROW : Hid ((w.drew.alloc (.cells (Builtin.zeroCells (Value.int .i64 0).cells n ++ Builtin.zeroCells (Value.int .i64 0).cells (G - n)) 3)).ownsRow w.heap.size 3 1 (.slice (some ⟨w.heap.size, 0, none⟩) 0 G) 0 []) := Lib.hid ⟨rfl, .inr ⟨w.heap.size, G, _, rfl, Nat.le_refl _, heap_alloc_new w.drew _, Nat.zero_le _, hle, by rw [Array.size_append, zeroCells_size _ _ rfl, zeroCells_size _ _ rfl]; omega, by simp⟩⟩
    have HB : Hid (Below w.heap.size w (w.drew.alloc (.cells (Builtin.zeroCells (Value.int .i64 0).cells n ++ Builtin.zeroCells (Value.int .i64 0).cells (G - n)) 3))) := Lib.hid ((Below.refl _ w).drew.alloc (Nat.le_refl _) _)
    have hG63 : (G : Int) ≤ 9223372036854775807 := by unfold maxLen at hle; omega
    have h1 : ¬ ((n : Int) < 0) := by omega
    have h4 : (0 : Int) < (n : Int) := by omega
    have hn1 : (n : Int) ≤ 100000 := by omega
    clear hi hz0 hz1 hz2 hle h0
    go_enter Try.func63, Try.ntmps63
    go_wp2_with (at_builtin; refine Lib.wpList_append_run _ rfl _ _ _ _ rfl _ _ rfl rfl _ _ (hrz _) ?_)
    all_goals (go_ret; exact ⟨_, rfl, HROW.out, HB.out⟩)

set_option maxRecDepth 100000 in
set_option maxHeartbeats 2000000 in
theorem concat2_any (g : Nat) (A1 A2 : Option Addr) (n1 c1 n2 c2 : Nat) (w : World) (a b : List Int) (hg : g < w.heap.size) (h0 : w.cell? ⟨g, 0, none⟩ = some (.slice A1 n1 c1)) (h1 : w.cell? ⟨g, 1, none⟩ = some (.slice A2 n2 c2))
    (ha : Row1 intV w w.heap.size A1 n1 a) (hb : Row1 intV w w.heap.size A2 n2 b) (hn1 : n1 ≤ 10000) (hn2 : n2 ≤ 10000) : Calls Try.prog 36 #[.slice (some ⟨g, 0, none⟩) 2 2] w (NewInts (a ++ b) w) := by
  obtain ⟨i0, hi, hz0, hz1, hz2⟩ := info_parts int_info
  have Ha := Lib.hid ha
  have Hb := Lib.hid hb
  have hal := ha.1
  have hbl := hb.1
  have k1 : (n1 : Int) ≤ 10000 := by omega
  have k2 : (n2 : Int) ≤ 10000 := by omega
  have HG := Lib.hid (grow_any (n1 + n2) w (by omega))
  have hsum : ((n1 + n2 : Nat) : Int) = (n1 : Int) + (n2 : Int) := by omega
  rw [hsum] at HG
  have HC0 := Lib.hid (And.intro h0 h1)
  clear ha hb hsum
  go_enter Try.func36, Try.ntmps36
  go_wp2_with fail
  refine wp_loop_rounds 3 ?_
  rw [rounds_succ]
  go_wp2_with fail
  rw [rounds_succ]
  go_wp2_with fail
  rw [rounds_succ]
  go_wp2_with fail
  refine HG.out.mono ?_
  rintro e W1 ⟨v0, rfl, hown0, hb1⟩
  have H1 := Lib.hid (And.intro hown0 hb1)
  have hs1 := hb1.size
  have q0 := (hb1.cell (p := ⟨g, 0, none⟩) hg).trans HC0.out.1
  have q1 := (hb1.cell (p := ⟨g, 1, none⟩) hg).trans HC0.out.2
  clear h0 h1 hown0 hb1
  go_wp2_with fail
  refine wp_loop_rounds 3 ?_
  rw [rounds_succ]
  go_wp2_with (at_builtin; refine wpList_append_row rfl _ _ 38 rfl intV_one w.heap.size 3 i0 (.int .i64 0) 8 Try.underlying38 hi hz0 hz1 hz2 rfl v0 0 [] rfl H1.out.1 A1 n1 c1 a w.heap.size rfl (by exact Ha.out.below H1.out.2) (by unfold maxLen; omega) (by omega) hs1 ?_; intro v1 w1 hown hgrow hat; rw [Nat.zero_add, List.nil_append] at hown; have H2 : Hid (w1.ownsRow w.heap.size 3 1 v1 n1 (a.map intV) ∧ Below w.heap.size w w1) := Lib.hid ⟨hown, H1.out.2.grown hgrow hs1 (fun g hg => own_ge H1.out.1 g hg)⟩; have hs2 := H2.out.2.size; have p1 := (H2.out.2.cell (p := ⟨g, 1, none⟩) hg).trans HC0.out.2; clear hown hgrow hat q0 q1)
  rw [rounds_succ]
  go_wp2_with (at_builtin; refine wpList_append_row rfl _ _ 38 rfl intV_one w.heap.size 3 i0 (.int .i64 0) 8 Try.underlying38 hi hz0 hz1 hz2 rfl v1 n1 (a.map intV) rfl H2.out.1 A2 n2 c2 b w.heap.size rfl (by exact Hb.out.below H2.out.2) (by unfold maxLen; omega) (by omega) hs2 ?_; intro v2 w2 hown hgrow hat; rw [← List.map_append] at hown; have H3 : Hid (w2.ownsRow w.heap.size 3 1 v2 (n1 + n2) ((a ++ b).map intV) ∧ Below w.heap.size w w2) := Lib.hid ⟨hown, H2.out.2.grown hgrow hs2 (fun g hg => own_ge H2.out.1 g hg)⟩; clear hown hgrow hat p1)
  rw [rounds_succ]
  go_wp2_with fail
  go_ret
  exact ⟨_, rfl, by rw [List.length_append, hal, hbl]; exact H3.out.1, H3.out.2⟩
end Go.Proofs.Ytpdhelhngdeoeaa
