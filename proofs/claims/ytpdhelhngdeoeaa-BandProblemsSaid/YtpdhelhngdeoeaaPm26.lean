/- What band.Problem holds in memory while it builds a problem: the boxes of the problem and of the set, the rows of domains and constraints. -/
import Derived.Test.YtpdhelhngdeoeaaCc26
import Derived.Test.YtpdhelhngdeoeaaVb26
import Derived.Test.YtpdhelhngdeoeaaBs2
namespace Go.Proofs.Ytpdhelhngdeoeaa
open Go.RowKit

theorem own_same {W W' : World} {base e size n : Nat} {v : Value} {xs : List Value} (h : W.ownsRow base e size v n xs) (hh : ∀ g, v.ownBlock = some g → W'.heap[g]? = W.heap[g]?) : W'.ownsRow base e size v n xs := by
  refine ⟨h.1, ?_⟩
  rcases h.2 with h2 | ⟨g, cap, cur, h3, h4, h5, h6⟩
  · exact .inl h2
  · refine .inr ⟨g, cap, cur, h3, h4, ?_, h6⟩
    rw [hh g (by rw [h3]; rfl)]
    exact h5
theorem own_type {W : World} {base e size n : Nat} {v : Value} {xs : List Value} (h : W.ownsRow base e size v n xs) {g : Nat} (hg : v.ownBlock = some g) : ∃ cur, W.heap[g]? = some (.cells cur e (0, 0)) := by
  rcases h.2 with ⟨rfl, _⟩ | ⟨g', cap, cur, rfl, _, h5, _⟩
  · simp [Value.ownBlock] at hg
  · obtain rfl : g' = g := by simpa [Value.ownBlock] using hg
    exact ⟨cur, h5⟩
theorem blk_not_row {W : World} {g t e base size k : Nat} {s : List Value} {v : Value} {xs : List Value} (h : Blk W g t s) (hte : t ≠ e) (hr : W.ownsRow base e size v k xs) : some g ≠ v.ownBlock := by
  intro e'
  obtain ⟨cur, hc⟩ := own_type hr e'.symm
  have := (show W.heap[g]? = _ from h).symm.trans hc
  simp at this
  exact hte this.2
theorem blk_kept {W W' : World} {row : Option Nat} {g t : Nat} {s : List Value} (h : Blk W g t s) (hg : W.grownBy W' row) (hne : some g ≠ row) : Blk W' g t s := (hg.block g h.lt hne).trans h
theorem row_kept {W W' : World} {base e size n base' e' size' m : Nat} {v u : Value} {xs ys : List Value} (h : W.ownsRow base' e' size' u m ys) (hg : W.grownBy W' v.ownBlock) (hv : W.ownsRow base e size v n xs) (hte : e' ≠ e) : W'.ownsRow base' e' size' u m ys := by
  refine own_same h fun g hu => ?_
  obtain ⟨c1, h1⟩ := own_type h hu
  refine hg.block g (Array.getElem?_eq_some_iff.1 h1).1 (fun e2 => ?_)
  obtain ⟨c2, h2⟩ := own_type hv e2.symm
  rw [h1] at h2
  simp at h2
  exact hte h2.2
theorem row_set {W : World} {base e size n g t : Nat} {v : Value} {xs s : List Value} (h : W.ownsRow base e size v n xs) (hb : Blk W g t s) (hte : t ≠ e) (i : Nat) (x : Value) : (W.setCell ⟨g, i, none⟩ x).ownsRow base e size v n xs := by
  refine own_same h fun k hk => Below.heap_setCell _ _ _ _ (fun e2 => ?_)
  subst e2
  exact blk_not_row hb hte h hk.symm
theorem row_alloc {W : World} {base e size n : Nat} {v : Value} {xs : List Value} (h : W.ownsRow base e size v n xs) (o : Obj) : (W.alloc o).ownsRow base e size v n xs := h.alloc o

/-- a problem in memory: its four slices -/
structure PrbV where
  d : Value
  p : Value
  l : Value
  c : Value
structure PrbL where
  ds : List Dom
  ps : List R5
  ls : List R5
  cs : List R4
def PSt (W1 : World) (g8 g9 : Nat) (v : PrbV) (x : PrbL) (S : Nat) (W : World) : Prop :=
  Below W1.heap.size W1 W ∧ W1.heap.size ≤ g8 ∧ W1.heap.size ≤ g9 ∧ Blk W g8 57 [v.d, v.p, v.l, v.c] ∧ Blk W g9 81 (tabL 8 (sC S)) ∧
  W.ownsRow W1.heap.size 71 2 v.d x.ds.length (flat 2 Dom.cell x.ds) ∧ (∀ d ∈ x.ds, W.ownsRow W1.heap.size 3 1 (.slice d.adr d.len d.cap) d.len (d.chs.map intV)) ∧
  W.ownsRow W1.heap.size 69 5 v.p x.ps.length (flat 5 R5.cell x.ps) ∧ W.ownsRow W1.heap.size 87 5 v.l x.ls.length (flat 5 R5.cell x.ls) ∧ W.ownsRow W1.heap.size 89 4 v.c x.cs.length (flat 4 R4.cell x.cs)
section
variable {W1 W W' : World} {g8 g9 S : Nat} {v : PrbV} {x : PrbL}
theorem PSt.call (h : PSt W1 g8 g9 v x S W) (hb : Below W.heap.size W W') : PSt W1 g8 g9 v x S W' := by
  obtain ⟨h1, h2, h3, h4, h5, h6, h7, h8, h9, h10⟩ := h
  exact ⟨h1.trans (hb.mono h1.size), h2, h3, h4.keep hb, h5.keep hb, own_keep h6 hb, fun d hd => own_keep (h7 d hd) hb, own_keep h8 hb, own_keep h9 hb, own_keep h10 hb⟩
theorem PSt.alloc (h : PSt W1 g8 g9 v x S W) (o : Obj) : PSt W1 g8 g9 v x S (W.alloc o) := h.call ((Below.refl _ W).alloc (Nat.le_refl _) o)
/-- another value of the set -/
theorem PSt.set (h : PSt W1 g8 g9 v x S W) (T : Nat) (hb : Blk W' g9 81 (tabL 8 (sC T))) (hg : W.grownBy W' (some g9)) : PSt W1 g8 g9 v x T W' := by
  obtain ⟨h1, h2, h3, h4, h5, h6, h7, h8, h9, h10⟩ := h
  have key : ∀ {base e size n : Nat} {u : Value} {ys : List Value}, W.ownsRow base e size u n ys → 81 ≠ e → W'.ownsRow base e size u n ys := fun hr hte => own_same hr fun k hk => hg.block k (by obtain ⟨c, hc⟩ := own_type hr hk; exact (Array.getElem?_eq_some_iff.1 hc).1) (fun e2 => by cases e2; exact blk_not_row h5 hte hr hk.symm)
  have h89 : g8 ≠ g9 := by
    rintro rfl
    have := (show W.heap[g8]? = _ from h4).symm.trans h5
    simp at this
  exact ⟨h1.grown hg h1.size (fun k e => by cases e; exact h3), h2, h3, blk_kept h4 hg (fun e => by cases e; exact h89 rfl), hb, key h6 (by decide), fun d hd => key (h7 d hd) (by decide), key h8 (by decide), key h9 (by decide), key h10 (by decide)⟩
theorem PSt.addD (h : PSt W1 g8 g9 v x S W) {v' : Value} {y : Dom} (hg : W.grownBy W' v.d.ownBlock) (hown : W'.ownsRow W1.heap.size 71 2 v' (x.ds.length + 1) (flat 2 Dom.cell x.ds ++ (List.range 2).map y.cell)) (hd' : W.ownsRow W1.heap.size 3 1 (.slice y.adr y.len y.cap) y.len (y.chs.map intV)) : PSt W1 g8 g9 ⟨v', v.p, v.l, v.c⟩ ⟨x.ds ++ [y], x.ps, x.ls, x.cs⟩ S (W'.setCell ⟨g8, 0, none⟩ v') := by
  obtain ⟨h1, h2, h3, h4, h5, h6, h7, h8, h9, h10⟩ := h
  have hb2 : Blk W' g8 57 [v.d, v.p, v.l, v.c] := blk_kept h4 hg (blk_not_row h4 (by decide) h6)
  have h89 : g8 ≠ g9 := by
    rintro rfl
    have := (show W.heap[g8]? = _ from h4).symm.trans h5
    simp at this
  have hB : Below W1.heap.size W1 W' := h1.grown hg h1.size (fun k e => own_ge h6 k e)
  refine ⟨hB.setCell (p := ⟨g8, 0, none⟩) h2 _, h2, h3, hb2.set_ 0 v', (blk_kept h5 hg (blk_not_row h5 (by decide) h6)).other _ _ h89, by have := row_set hown hb2 (by decide) 0 v'; rw [List.length_append, flat_snoc]; exact this, fun d hd => by
    rcases List.mem_append.1 hd with h | h
    · exact row_set (row_kept (h7 d h) hg h6 (by decide)) hb2 (by decide) _ _
    · obtain rfl : d = y := by simpa using h
      exact row_set (row_kept hd' hg h6 (by decide)) hb2 (by decide) _ _, row_set (row_kept h8 hg h6 (by decide)) hb2 (by decide) _ _, row_set (row_kept h9 hg h6 (by decide)) hb2 (by decide) _ _, row_set (row_kept h10 hg h6 (by decide)) hb2 (by decide) _ _⟩
theorem PSt.addP (h : PSt W1 g8 g9 v x S W) {v' : Value} {y : R5} (hg : W.grownBy W' v.p.ownBlock) (hown : W'.ownsRow W1.heap.size 69 5 v' (x.ps.length + 1) (flat 5 R5.cell x.ps ++ (List.range 5).map y.cell)) : PSt W1 g8 g9 ⟨v.d, v', v.l, v.c⟩ ⟨x.ds, x.ps ++ [y], x.ls, x.cs⟩ S (W'.setCell ⟨g8, 1, none⟩ v') := by
  obtain ⟨h1, h2, h3, h4, h5, h6, h7, h8, h9, h10⟩ := h
  have hb2 : Blk W' g8 57 [v.d, v.p, v.l, v.c] := blk_kept h4 hg (blk_not_row h4 (by decide) h8)
  have h89 : g8 ≠ g9 := by
    rintro rfl
    have := (show W.heap[g8]? = _ from h4).symm.trans h5
    simp at this
  have hB : Below W1.heap.size W1 W' := h1.grown hg h1.size (fun k e => own_ge h8 k e)
  refine ⟨hB.setCell (p := ⟨g8, 1, none⟩) h2 _, h2, h3, hb2.set_ 1 v', (blk_kept h5 hg (blk_not_row h5 (by decide) h8)).other _ _ h89, row_set (row_kept h6 hg h8 (by decide)) hb2 (by decide) _ _, fun d hd => row_set (row_kept (h7 d hd) hg h8 (by decide)) hb2 (by decide) _ _, by have := row_set hown hb2 (by decide) 1 v'; rw [List.length_append, flat_snoc]; exact this, row_set (row_kept h9 hg h8 (by decide)) hb2 (by decide) _ _, row_set (row_kept h10 hg h8 (by decide)) hb2 (by decide) _ _⟩
theorem PSt.addL (h : PSt W1 g8 g9 v x S W) {v' : Value} {y : R5} (hg : W.grownBy W' v.l.ownBlock) (hown : W'.ownsRow W1.heap.size 87 5 v' (x.ls.length + 1) (flat 5 R5.cell x.ls ++ (List.range 5).map y.cell)) : PSt W1 g8 g9 ⟨v.d, v.p, v', v.c⟩ ⟨x.ds, x.ps, x.ls ++ [y], x.cs⟩ S (W'.setCell ⟨g8, 2, none⟩ v') := by
  obtain ⟨h1, h2, h3, h4, h5, h6, h7, h8, h9, h10⟩ := h
  have hb2 : Blk W' g8 57 [v.d, v.p, v.l, v.c] := blk_kept h4 hg (blk_not_row h4 (by decide) h9)
  have h89 : g8 ≠ g9 := by
    rintro rfl
    have := (show W.heap[g8]? = _ from h4).symm.trans h5
    simp at this
  have hB : Below W1.heap.size W1 W' := h1.grown hg h1.size (fun k e => own_ge h9 k e)
  refine ⟨hB.setCell (p := ⟨g8, 2, none⟩) h2 _, h2, h3, hb2.set_ 2 v', (blk_kept h5 hg (blk_not_row h5 (by decide) h9)).other _ _ h89, row_set (row_kept h6 hg h9 (by decide)) hb2 (by decide) _ _, fun d hd => row_set (row_kept (h7 d hd) hg h9 (by decide)) hb2 (by decide) _ _, row_set (row_kept h8 hg h9 (by decide)) hb2 (by decide) _ _, by have := row_set hown hb2 (by decide) 2 v'; rw [List.length_append, flat_snoc]; exact this, row_set (row_kept h10 hg h9 (by decide)) hb2 (by decide) _ _⟩
theorem PSt.addC (h : PSt W1 g8 g9 v x S W) {v' : Value} {y : R4} (hg : W.grownBy W' v.c.ownBlock) (hown : W'.ownsRow W1.heap.size 89 4 v' (x.cs.length + 1) (flat 4 R4.cell x.cs ++ (List.range 4).map y.cell)) : PSt W1 g8 g9 ⟨v.d, v.p, v.l, v'⟩ ⟨x.ds, x.ps, x.ls, x.cs ++ [y]⟩ S (W'.setCell ⟨g8, 3, none⟩ v') := by
  obtain ⟨h1, h2, h3, h4, h5, h6, h7, h8, h9, h10⟩ := h
  have hb2 : Blk W' g8 57 [v.d, v.p, v.l, v.c] := blk_kept h4 hg (blk_not_row h4 (by decide) h10)
  have h89 : g8 ≠ g9 := by
    rintro rfl
    have := (show W.heap[g8]? = _ from h4).symm.trans h5
    simp at this
  have hB : Below W1.heap.size W1 W' := h1.grown hg h1.size (fun k e => own_ge h10 k e)
  refine ⟨hB.setCell (p := ⟨g8, 3, none⟩) h2 _, h2, h3, hb2.set_ 3 v', (blk_kept h5 hg (blk_not_row h5 (by decide) h10)).other _ _ h89, row_set (row_kept h6 hg h10 (by decide)) hb2 (by decide) _ _, fun d hd => row_set (row_kept (h7 d hd) hg h10 (by decide)) hb2 (by decide) _ _, row_set (row_kept h8 hg h10 (by decide)) hb2 (by decide) _ _, row_set (row_kept h9 hg h10 (by decide)) hb2 (by decide) _ _, by have := row_set hown hb2 (by decide) 3 v'; rw [List.length_append, flat_snoc]; exact this⟩
end
end Go.Proofs.Ytpdhelhngdeoeaa
