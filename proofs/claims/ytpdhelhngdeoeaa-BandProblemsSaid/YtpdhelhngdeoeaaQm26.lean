/- A problem in memory, as it is being made: its four slices in a box, with rows of the call's own. -/
import Derived.Test.YtpdhelhngdeoeaaPb26
namespace Go.Proofs.Ytpdhelhngdeoeaa
open Go.RowKit

/-- the channels of a domain: a row of the call's own, or one that lay there before -/
def ChOk (B0 : Nat) (W1 : World) (d : Dom) (W : World) : Prop := W.ownsRow W1.heap.size 3 1 (.slice d.adr d.len d.cap) d.len (d.chs.map intV) ∨ Row1 intV W1 B0 d.adr d.len d.chs
/-- the block of a domain's channels -/
def ChBlk (d : Dom) : Nat := match d.adr with | some a => a.block | none => 0
theorem chBlk_own {d : Dom} {k : Nat} (h : (Value.slice d.adr d.len d.cap).ownBlock = some k) : some (ChBlk d) = (Value.slice d.adr d.len d.cap).ownBlock := by
  rw [h]
  unfold Value.ownBlock at h
  unfold ChBlk
  cases hd : d.adr with
  | none => rw [hd] at h; simp at h
  | some a => rw [hd] at h; simpa using h
def QSt (B0 : Nat) (W1 : World) (g8 : Nat) (v : PrbV) (x : PrbL) (W : World) : Prop :=
  Below W1.heap.size W1 W ∧ W1.heap.size ≤ g8 ∧ Blk W g8 57 [v.d, v.p, v.l, v.c] ∧
  W.ownsRow W1.heap.size 71 2 v.d x.ds.length (flat 2 Dom.cell x.ds) ∧ (∀ d ∈ x.ds, ChOk B0 W1 d W) ∧
  W.ownsRow W1.heap.size 69 5 v.p x.ps.length (flat 5 R5.cell x.ps) ∧ W.ownsRow W1.heap.size 87 5 v.l x.ls.length (flat 5 R5.cell x.ls) ∧ W.ownsRow W1.heap.size 89 4 v.c x.cs.length (flat 4 R4.cell x.cs)
theorem ChOk.row {B0 : Nat} {W1 W : World} {d : Dom} (h : ChOk B0 W1 d W) (hb : Below W1.heap.size W1 W) (hB : B0 ≤ W1.heap.size) : Row1 intV W W.heap.size d.adr d.len d.chs := by
  rcases h with h | h
  · exact row1_own h
  · exact (h.up hB).keep hb
section
variable {W1 W W' : World} {B0 g8 : Nat} {v : PrbV} {x : PrbL}
theorem QSt.call (h : QSt B0 W1 g8 v x W) (hb : Below W.heap.size W W') : QSt B0 W1 g8 v x W' := by
  obtain ⟨h1, h2, h4, h6, h7, h8, h9, h10⟩ := h
  exact ⟨h1.trans (hb.mono h1.size), h2, h4.keep hb, own_keep h6 hb, fun d hd => (h7 d hd).imp (fun h => own_keep h hb) id, own_keep h8 hb, own_keep h9 hb, own_keep h10 hb⟩
theorem QSt.alloc (h : QSt B0 W1 g8 v x W) (o : Obj) : QSt B0 W1 g8 v x (W.alloc o) := h.call ((Below.refl _ W).alloc (Nat.le_refl _) o)
theorem QSt.addD (h : QSt B0 W1 g8 v x W) {v' : Value} {y : Dom} (hg : W.grownBy W' v.d.ownBlock) (hown : W'.ownsRow W1.heap.size 71 2 v' (x.ds.length + 1) (flat 2 Dom.cell x.ds ++ (List.range 2).map y.cell)) (hd' : ChOk B0 W1 y W) : QSt B0 W1 g8 ⟨v', v.p, v.l, v.c⟩ ⟨x.ds ++ [y], x.ps, x.ls, x.cs⟩ (W'.setCell ⟨g8, 0, none⟩ v') := by
  obtain ⟨h1, h2, h4, h6, h7, h8, h9, h10⟩ := h
  have hb2 : Blk W' g8 57 [v.d, v.p, v.l, v.c] := blk_kept h4 hg (blk_not_row h4 (by decide) h6)
  have hB : Below W1.heap.size W1 W' := h1.grown hg h1.size (fun k e => own_ge h6 k e)
  refine ⟨hB.setCell (p := ⟨g8, 0, none⟩) h2 _, h2, hb2.set_ 0 v', by have := row_set hown hb2 (by decide) 0 v'; rw [List.length_append, flat_snoc]; exact this, fun d hd => by
    rcases List.mem_append.1 hd with h | h
    · exact (h7 d h).imp (fun h => row_set (row_kept h hg h6 (by decide)) hb2 (by decide) _ _) id
    · obtain rfl : d = y := by simpa using h
      exact hd'.imp (fun h => row_set (row_kept h hg h6 (by decide)) hb2 (by decide) _ _) id, row_set (row_kept h8 hg h6 (by decide)) hb2 (by decide) _ _, row_set (row_kept h9 hg h6 (by decide)) hb2 (by decide) _ _, row_set (row_kept h10 hg h6 (by decide)) hb2 (by decide) _ _⟩
theorem QSt.addP (h : QSt B0 W1 g8 v x W) {v' : Value} {y : R5} (hg : W.grownBy W' v.p.ownBlock) (hown : W'.ownsRow W1.heap.size 69 5 v' (x.ps.length + 1) (flat 5 R5.cell x.ps ++ (List.range 5).map y.cell)) : QSt B0 W1 g8 ⟨v.d, v', v.l, v.c⟩ ⟨x.ds, x.ps ++ [y], x.ls, x.cs⟩ (W'.setCell ⟨g8, 1, none⟩ v') := by
  obtain ⟨h1, h2, h4, h6, h7, h8, h9, h10⟩ := h
  have hb2 : Blk W' g8 57 [v.d, v.p, v.l, v.c] := blk_kept h4 hg (blk_not_row h4 (by decide) h8)
  have hB : Below W1.heap.size W1 W' := h1.grown hg h1.size (fun k e => own_ge h8 k e)
  refine ⟨hB.setCell (p := ⟨g8, 1, none⟩) h2 _, h2, hb2.set_ 1 v', row_set (row_kept h6 hg h8 (by decide)) hb2 (by decide) _ _, fun d hd => (h7 d hd).imp (fun h => row_set (row_kept h hg h8 (by decide)) hb2 (by decide) _ _) id, by have := row_set hown hb2 (by decide) 1 v'; rw [List.length_append, flat_snoc]; exact this, row_set (row_kept h9 hg h8 (by decide)) hb2 (by decide) _ _, row_set (row_kept h10 hg h8 (by decide)) hb2 (by decide) _ _⟩
theorem QSt.addL (h : QSt B0 W1 g8 v x W) {v' : Value} {y : R5} (hg : W.grownBy W' v.l.ownBlock) (hown : W'.ownsRow W1.heap.size 87 5 v' (x.ls.length + 1) (flat 5 R5.cell x.ls ++ (List.range 5).map y.cell)) : QSt B0 W1 g8 ⟨v.d, v.p, v', v.c⟩ ⟨x.ds, x.ps, x.ls ++ [y], x.cs⟩ (W'.setCell ⟨g8, 2, none⟩ v') := by
  obtain ⟨h1, h2, h4, h6, h7, h8, h9, h10⟩ := h
  have hb2 : Blk W' g8 57 [v.d, v.p, v.l, v.c] := blk_kept h4 hg (blk_not_row h4 (by decide) h9)
  have hB : Below W1.heap.size W1 W' := h1.grown hg h1.size (fun k e => own_ge h9 k e)
  refine ⟨hB.setCell (p := ⟨g8, 2, none⟩) h2 _, h2, hb2.set_ 2 v', row_set (row_kept h6 hg h9 (by decide)) hb2 (by decide) _ _, fun d hd => (h7 d hd).imp (fun h => row_set (row_kept h hg h9 (by decide)) hb2 (by decide) _ _) id, row_set (row_kept h8 hg h9 (by decide)) hb2 (by decide) _ _, by have := row_set hown hb2 (by decide) 2 v'; rw [List.length_append, flat_snoc]; exact this, row_set (row_kept h10 hg h9 (by decide)) hb2 (by decide) _ _⟩
theorem QSt.addC (h : QSt B0 W1 g8 v x W) {v' : Value} {y : R4} (hg : W.grownBy W' v.c.ownBlock) (hown : W'.ownsRow W1.heap.size 89 4 v' (x.cs.length + 1) (flat 4 R4.cell x.cs ++ (List.range 4).map y.cell)) : QSt B0 W1 g8 ⟨v.d, v.p, v.l, v'⟩ ⟨x.ds, x.ps, x.ls, x.cs ++ [y]⟩ (W'.setCell ⟨g8, 3, none⟩ v') := by
  obtain ⟨h1, h2, h4, h6, h7, h8, h9, h10⟩ := h
  have hb2 : Blk W' g8 57 [v.d, v.p, v.l, v.c] := blk_kept h4 hg (blk_not_row h4 (by decide) h10)
  have hB : Below W1.heap.size W1 W' := h1.grown hg h1.size (fun k e => own_ge h10 k e)
  refine ⟨hB.setCell (p := ⟨g8, 3, none⟩) h2 _, h2, hb2.set_ 3 v', row_set (row_kept h6 hg h10 (by decide)) hb2 (by decide) _ _, fun d hd => (h7 d hd).imp (fun h => row_set (row_kept h hg h10 (by decide)) hb2 (by decide) _ _) id, row_set (row_kept h8 hg h10 (by decide)) hb2 (by decide) _ _, row_set (row_kept h9 hg h10 (by decide)) hb2 (by decide) _ _, by have := row_set hown hb2 (by decide) 3 v'; rw [List.length_append, flat_snoc]; exact this⟩
/-- a store into a box of a domain of the call's own -/
theorem QSt.other (h : QSt B0 W1 g8 v x W) {g : Nat} {s : List Value} (hb : Blk W g 71 s) (hg : W1.heap.size ≤ g) (hne : some g ≠ v.d.ownBlock) (i : Nat) (u : Value) : QSt B0 W1 g8 v x (W.setCell ⟨g, i, none⟩ u) := by
  obtain ⟨h1, h2, h4, h6, h7, h8, h9, h10⟩ := h
  have e8 : g ≠ g8 := by
    rintro rfl
    have := (show W.heap[g]? = _ from h4).symm.trans hb
    simp at this
  exact ⟨h1.setCell (p := ⟨g, i, none⟩) hg _, h2, h4.other _ _ e8, own_same h6 (fun k hk => Below.heap_setCell _ _ _ _ (fun e2 => by subst e2; exact hne hk.symm)), fun d hd => (h7 d hd).imp (fun h => row_set h hb (by decide) _ _) id, row_set h8 hb (by decide) _ _, row_set h9 hb (by decide) _ _, row_set h10 hb (by decide) _ _⟩
/-- a row of numbers of the call's own grows -/
theorem QSt.grow (h : QSt B0 W1 g8 v x W) {u : Value} {n : Nat} {ys : List Value} (hu : W.ownsRow W1.heap.size 3 1 u n ys) (hg : W.grownBy W' u.ownBlock) (hd : ∀ d ∈ x.ds, some (ChBlk d) ≠ u.ownBlock)   : QSt B0 W1 g8 v x W' := by
  obtain ⟨h1, h2, h4, h6, h7, h8, h9, h10⟩ := h
  refine ⟨h1.grown hg h1.size (fun k e => own_ge hu k e), h2, blk_kept h4 hg (blk_not_row h4 (by decide) hu), row_kept h6 hg hu (by decide), fun d hd2 => (h7 d hd2).imp (fun h => ?_) id, row_kept h8 hg hu (by decide), row_kept h9 hg hu (by decide), row_kept h10 hg hu (by decide)⟩
  exact own_same h fun k hk => hg.block k (by obtain ⟨c, hc⟩ := own_type h hk; exact (Array.getElem?_eq_some_iff.1 hc).1) (fun e => hd d hd2 (by rw [← e, ← hk]; exact (chBlk_own hk)))
end
end Go.Proofs.Ytpdhelhngdeoeaa
