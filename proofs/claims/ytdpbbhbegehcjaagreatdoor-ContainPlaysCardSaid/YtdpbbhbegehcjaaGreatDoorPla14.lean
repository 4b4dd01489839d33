/- Only of problem: the choices of some stations. -/
import Derived.RangeFuncNested
import Derived.RangeFuncLeaves
import Derived.RangeFuncBox
import Derived.Deep.CutBlock
import Derived.Maps.AppendAt
import Derived.Deep.WholeRow
import Derived.Test.YtdpbbhbegehcjaaGreatDoorPla01
import Derived.Test.YtdpbbhbegehcjaaGreatDoorPla02
import Derived.Test.YtdpbbhbegehcjaaGreatDoorPla04
import Derived.Test.YtdpbbhbegehcjaaGreatDoorPla09
import Derived.Test.YtdpbbhbegehcjaaGreatDoorPla10
import Derived.Test.YtdpbbhbegehcjaaGreatDoorPla11
import Derived.Test.YtdpbbhbegehcjaaGreatDoorPla13
set_option maxRecDepth 100000
set_option maxHeartbeats 1000000
namespace Go.Proofs.YtdpbbhbegehcjaaGreatDoor
open Go.RowKit Go.Shelf
inductive Ent
 | blk (g t : Nat) (s : List Value)
 | row (v : Value) (t size n : Nat) (xs : List Value)
def Ent.dst : Ent → Option Nat
 | .blk g _ _ => some g
 | .row v _ _ _ _ => v.ownBlock
def Ent.holds (B : Nat) (W : World) : Ent → Prop
 | .blk g t s => Blk W g t s
 | .row v t size n xs => W.ownsRow B t size v n xs
theorem Ent.cells {B : Nat} {W : World} {e : Ent} (h : e.holds B W) {g : Nat} (hg : e.dst = some g) : ∃ c t, W.heap[g]? = some (.cells c t (0, 0)) := by
 cases e with
 | blk g' t s => cases hg; exact ⟨_, _, h⟩
 | row v t size n xs =>
  rcases h.2 with ⟨rfl, _⟩ | ⟨g', cap, cur, rfl, _, h3, _⟩
  ·cases hg
  ·cases hg; exact ⟨_, _, h3⟩
theorem Ent.lt {B : Nat} {W : World} {e : Ent} (h : e.holds B W) {g : Nat} (hg : e.dst = some g) : g < W.heap.size := by
 obtain ⟨c, t, h⟩ := Ent.cells h hg
 exact (Array.getElem?_eq_some_iff.1 h).1
theorem Ent.same {B : Nat} {W X : World} {e : Ent} (h : e.holds B W) (hs : ∀ g, e.dst = some g → X.heap[g]? = W.heap[g]?) : e.holds B X := by
 cases e with
 | blk g' t s => exact (hs _ rfl).trans h
 | row v t size n xs =>
  refine ⟨h.1, ?_⟩
  rcases h.2 with h1 | ⟨g, cap, cur, rfl, h2, h3, h4⟩
  ·exact .inl h1
  ·exact .inr ⟨g, cap, cur, rfl, h2, (hs g rfl).trans h3, h4⟩
theorem Ent.mono {B B' : Nat} {W : World} {e : Ent} (h : e.holds B W) (hB : B' ≤ B) : e.holds B' W := by
 cases e with
 | blk g' t s => exact h
 | row v t size n xs => exact own_low h hB
structure Hp (w u W : World) (L : List Ent) (ds : List Nat) : Prop where
 below : Below w.heap.size w W
 since : KeepsOthers u W
 all : ∀ e ∈ L, e.holds w.heap.size W
 low : ∀ e ∈ L, ∀ g, e.dst = some g → w.heap.size ≤ g
 apart : L.Pairwise fun a b => ∀ g, a.dst = some g → b.dst ≠ some g
 marks : ∀ D ∈ ds, w.heap.size ≤ D ∧ W.heap[D]? = some (.deferred (some []))
 nodup : ds.Nodup
theorem grownBy_cell (W : World) (g o : Nat) (v : Value) : W.grownBy (W.setCell ⟨g, o, none⟩ v) (some g) :=
 ⟨rfl, rfl, rfl, by simp [World.setCell], fun k _ hne => Below.heap_setCell _ _ _ _ (fun e => hne (by rw [e]))⟩
theorem Hp.start (w : World) : Hp w w w [] [] := ⟨Below.refl _ _, KeepsOthers.refl _, fun _ h => (by cases h), fun _ h => (by cases h), List.Pairwise.nil, fun _ h => (by cases h), List.Pairwise.nil⟩
section
variable {w u W X : World} {L : List Ent} {ds : List Nat}
theorem Hp.rebase (h : Hp w u W L ds) : Hp w W W L ds := ⟨h.below, KeepsOthers.refl _, h.all, h.low, h.apart, h.marks, h.nodup⟩
theorem Hp.sub {L' : List Ent} (h : Hp w u W L ds) (hs : L'.Sublist L) : Hp w u W L' ds :=
 ⟨h.below, h.since, fun e he => h.all e (hs.subset he), fun e he => h.low e (hs.subset he), h.apart.sublist hs, h.marks, h.nodup⟩
theorem Hp.perm {L' : List Ent} (h : Hp w u W L ds) (hs : L.Perm L') : Hp w u W L' ds := by
 refine ⟨h.below, h.since, fun e he => h.all e (hs.mem_iff.2 he), fun e he => h.low e (hs.mem_iff.2 he), ?_, h.marks, h.nodup⟩
 exact (hs.pairwise_iff (fun {a b} hab g hb ha => hab g ha hb)).1 h.apart
theorem Hp.blk (h : Hp w u W L ds) (i : Nat) {g t : Nat} {s : List Value} (hi : L[i]? = some (.blk g t s)) : Blk W g t s := h.all _ (List.mem_of_getElem? hi)
theorem Hp.row (h : Hp w u W L ds) (i : Nat) {v : Value} {t size n : Nat} {xs : List Value} (hi : L[i]? = some (.row v t size n xs)) : W.ownsRow w.heap.size t size v n xs := h.all _ (List.mem_of_getElem? hi)
theorem Hp.c (h : Hp w u W L ds) (i k : Nat) {g t : Nat} {s : List Value} {v : Value} (hi : L[i]? = some (.blk g t s)) (hk : s[k]? = some v) : W.cell? ⟨g, k, none⟩ = some v := (h.blk i hi).cell hk
theorem Hp.f (h : Hp w u W L ds) (i : Nat) {g t : Nat} {s : List Value} (hi : L[i]? = some (.blk g t s)) : ∀ o, W.frozen? ⟨g, o, none⟩ = false := (h.blk i hi).frozen
theorem Hp.lt (h : Hp w u W L ds) (i : Nat) {g t : Nat} {s : List Value} (hi : L[i]? = some (.blk g t s)) : g < W.heap.size := (h.blk i hi).lt
theorem Hp.lo (h : Hp w u W L ds) (i : Nat) {g t : Nat} {s : List Value} (hi : L[i]? = some (.blk g t s)) : w.heap.size ≤ g := h.low _ (List.mem_of_getElem? hi) g rfl
theorem Hp.ne (h : Hp w u W L ds) (i j : Nat) {e e' : Ent} (hi : L[i]? = some e) (hj : L[j]? = some e') (hij : i ≠ j) {g : Nat} (hg : e.dst = some g) : e'.dst ≠ some g := by
 obtain ⟨h1, e1⟩ := List.getElem?_eq_some_iff.1 hi
 obtain ⟨h2, e2⟩ := List.getElem?_eq_some_iff.1 hj
 rcases Nat.lt_or_ge i j with hlt | hge
 ·have := List.pairwise_iff_getElem.1 h.apart i j h1 h2 hlt
  rw [e1, e2] at this
  exact this g hg
 ·have := List.pairwise_iff_getElem.1 h.apart j i h2 h1 (by omega)
  rw [e1, e2] at this
  exact fun hg' => this g hg' hg
theorem Hp.upd (h : Hp w u W L ds) (i : Nat) {e e' : Ent} (hi : L[i]? = some e) (hg : W.grownBy X e.dst) (he : e'.holds w.heap.size X) (hd : ∀ g, e'.dst = some g → e.dst = some g ∨ W.heap.size ≤ g) : Hp w u X (L.set i e') ds := by
 have hmem := List.mem_of_getElem? hi
 have hlow := h.low e hmem
 have hk : ∀ j e2, L[j]? = some e2 → j ≠ i → ∀ g, e2.dst = some g → X.heap[g]? = W.heap[g]? := by
  intro j e2 hj hne g hg2
  exact hg.block g (Ent.lt (h.all e2 (List.mem_of_getElem? hj)) hg2) (fun e3 => h.ne j i hj hi hne hg2 e3.symm)
 have hilt := (List.getElem?_eq_some_iff.1 hi).1
 refine ⟨h.below.grown hg h.below.size hlow, h.since.trans (KeepsOthers.of_grownBy hg fun j o hj ho => ?_), ?_, ?_, ?_, fun D hD => ⟨(h.marks D hD).1, ?_⟩, h.nodup⟩
 ·obtain ⟨c, t, hc⟩ := Ent.cells (h.all e hmem) hj
  rw [hc] at ho; cases ho; rfl
 ·intro e2 he2
  obtain ⟨j, hj⟩ := List.getElem?_of_mem he2
  rw [List.getElem?_set] at hj
  split at hj
  ·cases hj; exact he
  ·rename_i hne
   exact Ent.same (h.all e2 (List.mem_of_getElem? hj)) (hk j e2 hj (fun e => hne e.symm))
 ·intro e2 he2 g hg2
  obtain ⟨j, hj⟩ := List.getElem?_of_mem he2
  rw [List.getElem?_set] at hj
  split at hj
  ·cases hj
   rcases hd g hg2 with h1 | h1
   ·exact hlow g h1
   ·exact Nat.le_trans h.below.size h1
  ·exact h.low e2 (List.mem_of_getElem? hj) g hg2
 ·rw [List.pairwise_iff_getElem]
  intro a b ha hb hab g hga hgb
  rw [List.length_set] at ha hb
  have hda : ∀ j (hj : j < L.length), j ≠ i → ∀ g, e'.dst = some g → (L[j]).dst ≠ some g := by
   intro j hj hne g h1 h2
   have hj' : L[j]? = some L[j] := List.getElem?_eq_getElem hj
   rcases hd g h1 with h3 | h3
   ·exact h.ne i j hi hj' (Ne.symm hne) h3 h2
   ·have := Ent.lt (h.all _ (List.mem_of_getElem? hj')) h2
    omega
  rw [List.getElem_set] at hga hgb
  split at hga
  ·rename_i ia
   rw [if_neg (by omega)] at hgb
   exact hda b hb (by omega) g hga hgb
  ·rename_i ia
   split at hgb
   ·exact hda a ha (by omega) g hgb hga
   ·exact List.pairwise_iff_getElem.1 h.apart a b ha hb hab g hga hgb
 ·obtain ⟨h1, h2⟩ := h.marks D hD
  refine (hg.block D (Array.getElem?_eq_some_iff.1 h2).1 (fun e3 => ?_)).trans h2
  obtain ⟨c, t, hc⟩ := Ent.cells (h.all e hmem) e3.symm
  rw [hc] at h2; cases h2
theorem Hp.set (h : Hp w u W L ds) (i o : Nat) (v : Value) {g t : Nat} {s : List Value} (hi : L[i]? = some (.blk g t s)) : Hp w u (W.setCell ⟨g, o, none⟩ v) (L.set i (.blk g t (s.set o v))) ds :=
 h.upd i hi (grownBy_cell W g o v) ((h.blk i hi).set_ o v) (fun _ hg' => .inl hg')
theorem Hp.keep (h : Hp w u W L ds) (hb : Below W.heap.size W X) : Hp w u X L ds :=
 ⟨h.below.trans (hb.mono h.below.size), h.since.trans ⟨hb.size, fun k _ hk _ => (hb.block k (Array.getElem?_eq_some_iff.1 hk).1).trans hk⟩, fun e he => Ent.same (h.all e he) (fun g hg => hb.block g (Ent.lt (h.all e he) hg)), h.low, h.apart,
  fun D hD => ⟨(h.marks D hD).1, (hb.block D (Array.getElem?_eq_some_iff.1 (h.marks D hD).2).1).trans (h.marks D hD).2⟩, h.nodup⟩
theorem Hp.drew (h : Hp w u W L ds) : Hp w u W.drew L ds := h.keep (Below.refl _ _).drew
theorem Hp.push (h : Hp w u W L ds) (hb : Below W.heap.size W X) {e : Ent} (he : e.holds W.heap.size X) (hl : ∀ g, e.dst = some g → W.heap.size ≤ g) : Hp w u X (L ++ [e]) ds := by
 have hk := h.keep hb
 refine ⟨hk.below, hk.since, ?_, ?_, ?_, hk.marks, hk.nodup⟩
 ·intro e2 he2
  rcases List.mem_append.1 he2 with h1 | h1
  ·exact hk.all e2 h1
  ·rw [List.mem_singleton] at h1; subst h1; exact Ent.mono he h.below.size
 ·intro e2 he2 g hg
  rcases List.mem_append.1 he2 with h1 | h1
  ·exact hk.low e2 h1 g hg
  ·rw [List.mem_singleton] at h1; subst h1; exact Nat.le_trans h.below.size (hl g hg)
 ·rw [List.pairwise_append]
  refine ⟨hk.apart, List.pairwise_singleton _ _, fun a ha b hb' g hga hgb => ?_⟩
  rw [List.mem_singleton] at hb'
  subst hb'
  have := Ent.lt (h.all a ha) hga
  have := hl g hgb
  omega
theorem perm_in (F E : List Ent) (b : Ent) : ((F ++ E) ++ [b]).Perm ((F ++ [b]) ++ E) := by
 rw [List.append_assoc, List.append_assoc]; exact List.Perm.append_left F List.perm_append_comm
theorem Hp.pushBlk (h : Hp w u W L ds) (hb : Below W.heap.size W X) {g t : Nat} {s : List Value} (he : Blk X g t s) (hl : W.heap.size ≤ g) : Hp w u X (L ++ [.blk g t s]) ds := h.push hb he (fun _ e => by cases e; exact hl)
theorem Hp.pushRow (h : Hp w u W L ds) (hb : Below W.heap.size W X) {v : Value} {t size n : Nat} {xs : List Value} (he : X.ownsRow W.heap.size t size v n xs) : Hp w u X (L ++ [.row v t size n xs]) ds := h.push (e := .row v t size n xs) hb he (fun g hg => own_ge he g hg)
theorem Hp.alloc (h : Hp w u W L ds) (s : List Value) (t : Nat) : Hp w u (W.alloc (.cells s.toArray t)) (L ++ [.blk W.heap.size t s]) ds :=
 h.pushBlk ((Below.refl _ W).alloc (Nat.le_refl _) _) (blk_new W s t) (Nat.le_refl _)
theorem Hp.alloc0 (h : Hp w u W L ds) (o : Obj) : Hp w u (W.alloc o) L ds := h.keep ((Below.refl _ W).alloc (Nat.le_refl _) _)
theorem Hp.nil (h : Hp w u W L ds) (t size : Nat) : Hp w u W (L ++ [.row (.slice none 0 0) t size 0 []]) ds := h.pushRow (Below.refl _ _) ⟨by simp, .inl ⟨rfl, rfl⟩⟩
theorem Hp.grow (h : Hp w u W L ds) (i : Nat) {v v' : Value} {t size n n' : Nat} {xs ys : List Value} (hi : L[i]? = some (.row v t size n xs)) (hg : W.grownBy X v.ownBlock) (ho : X.ownsRow w.heap.size t size v' n' ys) (hat : v'.ownBlock = v.ownBlock ∨ v'.ownBlock = some W.heap.size) :
  Hp w u X (L.set i (.row v' t size n' ys)) ds := by
 refine h.upd i hi hg ho (fun g hg' => ?_)
 have hg' : v'.ownBlock = some g := hg'
 rcases hat with e | e
 ·exact .inl (show v.ownBlock = some g from by rw [← e]; exact hg')
 ·rw [e] at hg'; cases hg'; exact .inr (Nat.le_refl _)
theorem Hp.form (h : Hp w u W L ds) (i : Nat) {v : Value} {t size n : Nat} {xs : List Value} (hi : L[i]? = some (.row v t size n xs)) : ∃ A c, v = .slice A n c := by
 rcases (h.row i hi).2 with ⟨rfl, rfl⟩ | ⟨g, cap, _, rfl, _⟩
 ·exact ⟨none, 0, rfl⟩
 ·exact ⟨_, cap, rfl⟩
theorem Hp.at (h : Hp w u W L ds) (i k : Nat) {v : Value} {t size n : Nat} {xs : List Value} {x : Value} (hi : L[i]? = some (.row v t size n xs)) (hk : xs[k]? = some x) :
  ∃ g c, v = .slice (some ⟨g, 0, none⟩) n c ∧ W.cell? ⟨g, k, none⟩ = some x ∧ (∀ o, W.frozen? ⟨g, o, none⟩ = false) ∧ g < W.heap.size := by
 obtain ⟨h1, ⟨_, h2⟩ | ⟨g, cap, cur, rfl, _, h3, _, _, _, h4⟩⟩ := h.row i hi
 ·have := (List.getElem?_eq_some_iff.1 hk).1
  rw [h1, h2] at this
  omega
 ·refine ⟨g, cap, rfl, ?_, fun o => by simp [World.frozen?, h3], (Array.getElem?_eq_some_iff.1 h3).1⟩
  have hlt := (List.getElem?_eq_some_iff.1 hk).1
  rw [← h4, List.getElem?_take, if_pos (by rw [← h1]; exact hlt)] at hk
  simp [World.cell?, h3] at hk ⊢
  exact hk
theorem Hp.setRow (h : Hp w u W L ds) (i o : Nat) (v : Value) {g c t size n : Nat} {xs : List Value} (hi : L[i]? = some (.row (.slice (some ⟨g, 0, none⟩) n c) t size n xs)) :
  Hp w u (W.setCell ⟨g, o, none⟩ v) (L.set i (.row (.slice (some ⟨g, 0, none⟩) n c) t size n (xs.set o v))) ds := by
 refine h.upd i hi (grownBy_cell W g o v) ?_ (fun _ hg' => .inl hg')
 obtain ⟨h1, h2⟩ := h.row i hi
 refine ⟨by rw [List.length_set]; exact h1, ?_⟩
 rcases h2 with ⟨h3, _⟩ | ⟨g', cap, cur, h3, h4, h5, h6, h7, h8, h9⟩
 ·cases h3
 ·injection h3 with h3 _ hc
  injection h3 with h3
  injection h3 with h3
  subst h3 hc
  refine .inr ⟨g, c, cur.setIfInBounds o v, rfl, h4, ?_, h6, h7, by simp [h8], ?_⟩
  ·simp [World.setCell, Array.getElem?_modify, h5]
  ·rw [Array.toList_setIfInBounds, List.take_set, h9]
theorem Hp.mark (h : Hp w u W L ds) {D : Nat} (hD : W.heap[D]? = some (.deferred (some []))) (h5 : w.heap.size ≤ D) (hn : ∀ E ∈ ds, E < D) : Hp w u W L (D :: ds) := by
 refine ⟨h.below, h.since, h.all, h.low, h.apart, fun E hE => ?_, List.nodup_cons.2 ⟨fun h => by have := hn D h; omega, h.nodup⟩⟩
 rcases List.mem_cons.1 hE with rfl | hE
 ·exact ⟨h5, hD⟩
 ·exact h.marks E hE
theorem Hp.turn (h : Hp w u W L ds) {B : Nat} {row : Option Nat} (hg : W.grownBy X row) (hr : ∀ r, row = some r → B ≤ r ∧ ∃ o : Obj, W.heap[r]? = some o ∧ o.isCells = false) (hB : w.heap.size ≤ B) (hds : ∀ D ∈ ds, D < B) : Hp w X X L ds := by
 refine ⟨h.below.grown hg h.below.size (fun k e => Nat.le_trans hB (hr k e).1), KeepsOthers.refl _, fun e he => Ent.same (h.all e he) (fun g hg' => ?_), h.low, h.apart, fun D hD => ⟨(h.marks D hD).1, ?_⟩, h.nodup⟩
 ·refine hg.block g (Ent.lt (h.all e he) hg') (fun e3 => ?_)
  obtain ⟨c, t, hc⟩ := Ent.cells (h.all e he) hg'
  obtain ⟨_, o, ho, hc'⟩ := hr g e3.symm
  rw [hc] at ho; cases ho; cases hc'
 ·refine (hg.block D (Array.getElem?_eq_some_iff.1 (h.marks D hD).2).1 (fun e3 => ?_)).trans (h.marks D hD).2
  have := (hr D e3.symm).1
  have := hds D hD
  omega
theorem Hp.since' (h : Hp w u W L ds) (hu : KeepsOthers X u) : Hp w X W L ds := ⟨h.below, hu.trans h.since, h.all, h.low, h.apart, h.marks, h.nodup⟩
end
def marksOf (ds : List Nat) : List Deferred := ds.map fun D => { target := .collected D, args := #[] }
theorem hp_leaves {F : Fence} {n : Nat} {fn : Func} {tmps : Array Value} {R : Ending → World → Prop} {w : World} {L : List Ent} (hE : ∀ X, Hp w X X L [] → LeavesIn F n Tryz.prog fn tmps R [] .returning X) : ∀ (ds : List Nat) (u W : World), Hp w u W L ds → LeavesInM F n Tryz.prog fn tmps R (marksOf ds) .returning W := by
 intro ds
 induction ds with
 | nil => intro u W h; exact hE W h.rebase
 | cons D r ih =>
  intro u W h
  obtain ⟨h1, h2⟩ := h.marks D (by simp)
  have hn' := List.nodup_cons.1 h.nodup
  refine ⟨by simp, .inl ⟨D, _, rfl, run_takeDeferred h2, ?_⟩⟩
  refine ih (W.putObj D (.deferred none)) _ ⟨h.below.trans (belowK_b (w := w) (Nat.le_refl _) W D _ _ h1 h2 rfl rfl), KeepsOthers.refl _, fun e he => Ent.same (h.all e he) (fun g hg => World.putObj_heap_other ?_), h.low, h.apart, fun E hE' => ⟨(h.marks E (by simp [hE'])).1, ?_⟩, hn'.2⟩
  ·rintro rfl
   obtain ⟨c, t, hc⟩ := Ent.cells (h.all e he) hg
   rw [hc] at h2; cases h2
  ·rw [World.putObj_heap_other (fun e => hn'.1 (by rw [← e]; exact hE'))]
   exact (h.marks E (by simp [hE'])).2
section
variable {α σ : Type} {w W w0 : World} {ds : List Nat} {g : Operand} {ps : Array Tmp} {assign body : Code} {Q : Exit → Act → World → Prop} {a : Act} {n gf : Nat} {lb : Array Value} {encs : α → Array Value} {S Sp : List α → Prop} {N n₀ Bn t0 : Nat} {s0 : List Value}
theorem hp_own {B : Nat} (hB : w.heap.size ≤ B) (hds : ∀ D ∈ ds, D < B) (Lf : σ → List Ent) (R : List α → σ → Prop) : OwnFrom B (fun pre X => ∃ s, R pre s ∧ Hp w X X (Lf s) ds) :=
 fun _ _ _ _ ⟨s, h1, h2⟩ hg hr => ⟨s, h1, h2.turn hg hr hB hds⟩
theorem hp_keep1 {X Y : World} {u : World} {L L' : List Ent} {i : Nat} (hn : n₀ ≤ w.heap.size) (h : Hp w u X L ds) (h' : Hp w X Y L' ds) (hi : L[i]? = some (.blk Bn t0 s0)) (hi' : L'[i]? = some (.blk Bn t0 s0)) : Keep1 n₀ Bn X Y :=
 ⟨⟨h'.below.os.trans h.below.os.symm, h'.below.tape.trans h.below.tape.symm, h'.below.output.trans h.below.output.symm, h'.since.size, fun k hk => (h'.below.block k (by omega)).trans (h.below.block k (by omega)).symm⟩, (h'.blk i hi').trans (h.blk i hi).symm⟩
end
end Go.Proofs.YtdpbbhbegehcjaaGreatDoor

namespace Go.Proofs.YtdpbbhbegehcjaaGreatDoor
open Go.RowKit
def setAt (W : World) (g o S : Nat) : World :=
 (((((((W.setCell ⟨g, o, none⟩ (.int .u64 (wd S 0))).setCell ⟨g, o + 1, none⟩ (.int .u64 (wd S 1))).setCell ⟨g, o + 2, none⟩ (.int .u64 (wd S 2))).setCell ⟨g, o + 3, none⟩ (.int .u64 (wd S 3))).setCell ⟨g, o + 4, none⟩ (.int .u64 (wd S 4))).setCell ⟨g, o + 5, none⟩ (.int .u64 (wd S 5))).setCell ⟨g, o + 6, none⟩ (.int .u64 (wd S 6))).setCell ⟨g, o + 7, none⟩ (.int .u64 (wd S 7))
theorem grown_setAt (W : World) (g o T : Nat) : W.grownBy (setAt W g o T) (some g) := by
 unfold setAt
 have h : ∀ (X : World) (i : Nat) (v : Value), W.grownBy X (some g) → W.grownBy (X.setCell ⟨g, i, none⟩ v) (some g) := by
  intro X i v hX
  refine ⟨hX.os, hX.tape, hX.output, by simpa using hX.size, fun k hk hne => ?_⟩
  rw [Below.heap_setCell _ _ _ _ (fun e => hne (by rw [e]))]
  exact hX.block k hk hne
 exact h _ _ _ (h _ _ _ (h _ _ _ (h _ _ _ (h _ _ _ (h _ _ _ (h _ _ _ (h _ _ _ ⟨rfl, rfl, rfl, Nat.le_refl _, fun _ _ _ => rfl⟩)))))))
end Go.Proofs.YtdpbbhbegehcjaaGreatDoor

namespace Go.Proofs.YtdpbbhbegehcjaaGreatDoor
open Go.RowKit Go.Shelf
theorem grownBy_set8 (W : World) (g S : Nat) : W.grownBy (set8 W g S) (some g) := grown_setAt W g 0 S
section
variable {w u W X : World} {L : List Ent} {ds : List Nat}
theorem Hp.set8 (h : Hp w u W L ds) (i S : Nat) {g t T : Nat} (hi : L[i]? = some (.blk g t (tabL 8 (sC T)))) : Hp w u (set8 W g S) (L.set i (.blk g t (tabL 8 (sC S)))) ds :=
 h.upd i hi (grownBy_set8 W g S) ((h.blk i hi).set8 S) (fun _ hg' => .inl hg')
theorem Hp.allocS (h : Hp w u W L ds) (S t : Nat) : Hp w u (W.alloc (.cells (sL S).toArray t)) (L ++ [.blk W.heap.size t (tabL 8 (sC S))]) ds := h.alloc (sL S) t
theorem Hp.setI (h : Hp w u W L ds) (i k : Nat) (x : Int) {g t : Nat} {D : List Int} (hi : L[i]? = some (.blk g t (D.map intV))) : Hp w u (W.setCell ⟨g, k, none⟩ (.int .i64 x)) (L.set i (.blk g t ((D.set k x).map intV))) ds := by
 rw [List.map_set]; exact h.set i k _ hi
theorem Hp.cI (h : Hp w u W L ds) (i k : Nat) {g t : Nat} {D : List Int} {x : Int} (hi : L[i]? = some (.blk g t (D.map intV))) (hk : D[k]? = some x) : W.cell? ⟨g, k, none⟩ = some (.int .i64 x) := h.c i k hi (by rw [List.getElem?_map, hk]; rfl)
end
end Go.Proofs.YtdpbbhbegehcjaaGreatDoor

namespace Go.Proofs.YtdpbbhbegehcjaaGreatDoor
open Go.RowKit
def lostStep (O : List Int) (X : List Int) (r : R5) : List Int :=
 if r.d ≤ O.getD r.a.toNat 0 ∧ O.getD r.a.toNat 0 ≤ r.e ∧ O.getD r.b.toNat 0 = O.getD r.a.toNat 0 then X.set r.a.toNat (wrap64 (X.getD r.a.toNat 0 + r.c)) else X
def lostF (O : List Int) (l : List R5) : List Int := l.foldl (lostStep O) (List.replicate 512 0)
theorem lostF_take {O : List Int} {l : List R5} {k : Nat} {r : R5} (h : l[k]? = some r) : lostF O (l.take (k + 1)) = lostStep O (lostF O (l.take k)) r := by unfold lostF; rw [List.take_add_one, h, List.foldl_append]; rfl
theorem lostF_len (O : List Int) (l : List R5) : (lostF O l).length = 512 := by
 have : ∀ (l : List R5) (X : List Int), (l.foldl (lostStep O) X).length = X.length := by
  intro l
  induction l with
  | nil => intro X; rfl
  | cons r q ih => intro X; rw [List.foldl_cons, ih]; unfold lostStep; split <;> simp
 unfold lostF; rw [this, List.length_replicate]
theorem arr512 : (∀ w, (zeroValue 193).run Tryz.prog w = .ok (.agg (Array.replicate 512 (.int .i64 0))) w) ∧ (Tryz.prog.info? 193).map (·.size) = some 512 := zero_of_info (by kernel_rfl)
theorem grownBy_setRow (W : World) (g : Nat) (R : Array Value) : W.grownBy (W.setRow g R) (some g) :=
 ⟨rfl, rfl, rfl, by simp [World.setRow], fun k _ hne => by
  have : ¬ g = k := fun e => hne (by rw [e])
  simp [World.setRow, Array.getElem?_modify, this]⟩
theorem losses_any (A : Option Addr) (n c g : Nat) (O : List Int) (l : List R5) (w : World) (hn : n ≤ 100000) (hl : RowS 5 R5.cell w w.heap.size A n l) (hO : Blk w g 193 (O.map intV)) (hOl : O.length = 512)
  (hr : ∀ r ∈ l, (0 ≤ r.a ∧ r.a < 512) ∧ 0 ≤ r.b ∧ r.b < 512) :
  Calls Tryz.prog 116 #[.slice A n c, .pointer (some ⟨g, 0, none⟩)] w (RetPost (.agg ((lostF O l).map intV).toArray) w.heap.size w) := by
 obtain ⟨Z, hZ⟩ : ∃ Z : Array Value, Z = Array.replicate 512 (.int .i64 0) := ⟨_, rfl⟩
 have hz := arr512.1
 rw [← hZ] at hz
 have HZ := Eqn.mk hZ
 clear hZ
 go_enter Tryz.func116, Tryz.ntmps116
 go_upto_region 2 with fail
 have hP0 : Hp w w ((w.alloc (.cells Z 193)).alloc (.cells Z 193)) [.blk w.heap.size 193 Z.toList, .blk (w.heap.size + 1) 193 ((lostF O (l.take 0)).map intV)] [] := by
  have h := ((Hp.start w).alloc Z.toList 193).alloc Z.toList 193
  rw [World.size_alloc] at h
  simp only [Array.toArray_toList] at h
  have e : Z.toList = (lostF O (l.take 0)).map intV := by rw [HZ.out]; unfold lostF; rw [List.take_zero, List.foldl_nil, List.map_replicate, Array.toList_replicate]; rfl
  rw [← e]; exact h
 have HP0 := Lib.hid hP0
 have HL := Lib.hid hl
 have HO := Lib.hid hO
 have HOL := Lib.hid hOl
 have HR := Lib.hid hr
 have HAL : Hid (l.length = n) := Lib.hid hl.1
 have HLF := Lib.hid (lostF_len O)
 have HZS : Hid (Z.size = 512) := Lib.hid (by rw [HZ.out, Array.size_replicate])
 obtain ⟨V0, hV0⟩ : ∃ V0, V0 = (w.alloc (.cells Z 193)).alloc (.cells Z 193) := ⟨_, rfl⟩
 rw [← hV0] at HP0 ⊢
 clear hV0 hP0 hl hO hOl hr hz HZ
 go_wp2_with fail
 go_loopw [11] (fun i wr => ∃ k : Nat, k ≤ n ∧ i = .int .i64 k ∧ Hp w w wr [.blk w.heap.size 193 Z.toList, .blk (w.heap.size + 1) 193 ((lostF O (l.take k)).map intV)] []) (fun i _ => n - (intOf i).toNat)
 case atStart => exact ⟨0, Nat.zero_le _, rfl, HP0.out⟩
 case round =>
  clear HP0
  obtain ⟨k, hk, rfl, hP⟩ := hrel
  have HP := Lib.hid hP
  by_cases hlt : k < n
  ·have j0 : (k : Int) < (n : Int) := by omega
   obtain ⟨r, hr⟩ : ∃ r, l[k]? = some r := ⟨_, List.getElem?_eq_getElem (by rw [HAL.out]; exact hlt)⟩
   have HST := Eqn.mk (lostF_take (O := O) hr)
   have HXL := Lib.hid (HLF.out (l.take k))
   obtain ⟨⟨ha0, ha1⟩, hb0, hb1⟩ := HR.out r (List.mem_of_getElem? hr)
   obtain ⟨b, off, rfl, hbw, hcell⟩ := (HL.out.below hP.below).2 (by omega)
   have y0 : wr.cell? ⟨b, off + k * 5, none⟩ = some (.int .i64 r.a) := hcell k r hr 0 (by decide)
   have y1 : wr.cell? ⟨b, off + k * 5 + 1, none⟩ = some (.int .i64 r.b) := hcell k r hr 1 (by decide)
   have y2 : wr.cell? ⟨b, off + k * 5 + 2, none⟩ = some (.int .i64 r.c) := hcell k r hr 2 (by decide)
   have y3 : wr.cell? ⟨b, off + k * 5 + 3, none⟩ = some (.int .i64 r.d) := hcell k r hr 3 (by decide)
   have y4 : wr.cell? ⟨b, off + k * 5 + 4, none⟩ = some (.int .i64 r.e) := hcell k r hr 4 (by decide)
   obtain ⟨ra, rb, rc, rd, re⟩ := r
   dsimp only at ha0 ha1 hb0 hb1 y0 y1 y2 y3 y4
   obtain ⟨a', rfl⟩ : ∃ a' : Nat, ra = (a' : Int) := ⟨ra.toNat, (Int.toNat_of_nonneg ha0).symm⟩
   obtain ⟨b', rfl⟩ : ∃ b' : Nat, rb = (b' : Int) := ⟨rb.toNat, (Int.toNat_of_nonneg hb0).symm⟩
   generalize lostF O (l.take k) = X at *
   obtain ⟨oa, hoa⟩ : ∃ z, O[a']? = some z := ⟨_, List.getElem?_eq_getElem (by rw [HOL.out]; omega)⟩
   obtain ⟨ob, hob⟩ : ∃ z, O[b']? = some z := ⟨_, List.getElem?_eq_getElem (by rw [HOL.out]; omega)⟩
   obtain ⟨xa, hxa⟩ : ∃ z, X[a']? = some z := ⟨_, List.getElem?_eq_getElem (by rw [HXL.out]; omega)⟩
   have hOB := HO.out.keep hP.below
   have cOa := hOB.cell (i := a') (show (O.map intV)[a']? = some (.int .i64 oa) by rw [List.getElem?_map, hoa]; rfl)
   have cOb := hOB.cell (i := b') (show (O.map intV)[b']? = some (.int .i64 ob) by rw [List.getElem?_map, hob]; rfl)
   have cX := hP.cI 1 a' rfl hxa
   have fX := hP.f 1 rfl
   have lX := hP.lt 1 rfl
   have HXA := Lib.hid hxa
   have HLS : Eqn (lostStep O X ⟨(a' : Int), (b' : Int), rc, rd, re⟩) (if rd ≤ oa ∧ oa ≤ re ∧ ob = oa then X.set a' (wrap64 (xa + rc)) else X) := by
    rw [Eqn]; unfold lostStep
    simp only [Int.toNat_natCast, List.getD_eq_getElem?_getD, hoa, hob, hxa, Option.getD_some]
   have hP1 := HP.out.alloc [.int .i64 (a' : Int), .int .i64 (b' : Int), .int .i64 rc, .int .i64 rd, .int .i64 re] 86
   obtain ⟨V1, hV1⟩ : ∃ V1, V1 = wr.alloc (.cells #[.int .i64 (a' : Int), .int .i64 (b' : Int), .int .i64 rc, .int .i64 rd, .int .i64 re] 86) := ⟨_, rfl⟩
   rw [← hV1] at hP1
   have HP1 := Lib.hid hP1
   have HHB := Lib.hid hOB
   clear hcell hr hP hOB cOa cOb cX fX lX
   go_upto_region 5 with fail
   rw [← hV1]
   have hV1' := hV1
   clear hV1
   have hB1 : Below wr.heap.size wr V1 := by rw [hV1']; exact (Below.refl _ wr).alloc (Nat.le_refl _) _
   have hOB1 := HHB.out.keep hB1
   clear hbw hxa y0 y1 y2 y3 y4 hV1'
   have cOa := hOB1.cell (i := a') (show (O.map intV)[a']? = some (.int .i64 oa) by rw [List.getElem?_map, hoa]; rfl)
   have cOb := hOB1.cell (i := b') (show (O.map intV)[b']? = some (.int .i64 ob) by rw [List.getElem?_map, hob]; rfl)
   have cX := hP1.cI 1 a' rfl HXA.out
   have fX := hP1.f 1 rfl
   have lX := hP1.lt 1 rfl
   have q0 := hP1.c 2 0 rfl rfl
   have q1 := hP1.c 2 1 rfl rfl
   have q2 := hP1.c 2 2 rfl rfl
   have q3 := hP1.c 2 3 rfl rfl
   have q4 := hP1.c 2 4 rfl rfl
   have lq := hP1.lt 2 rfl
   have lg := hOB1.lt
   clear hP1 hOB1 hoa hob hB1
   generalize wr.heap.size = p7 at *
   refine Lx.region (C := fun _ => True) (hs := []) (by kernel_rfl) (by kernel_rfl) trivial ?_
   repeat' (first | ((first | refine Lx.ln (fun K hK => ?_) | (first | (refine Lx.lp (v := ?_) ?_ (fun K hK => ?_); rotate_left 1; intro w' hCw; try dsimp only at hCw) | (refine Lx.lr (v := ?_) ?_ (fun K hK => ?_); rotate_left 1)); go_simp; first | done | with_reducible rfl); go_simp; refine hK _ ?_; clear hK K) | (refine Lx.le (fun K hK => ?_); go_simp; (first | skip | skip); refine hK _ _ (trivial) ?_; clear hK K) | (refine Lx.lex_cases rfl rfl rfl (fun hgd K hK => ?_) (fun hgd K hK => ?_) <;> (try simp only [decide_eq_true_eq, decide_eq_false_iff_not] at hgd) <;> (first | (exfalso; omega) | (go_simp; refine hK _ ?_; clear hK K))))
   all_goals (refine Lx.lex_nil ?_)
   have HBT := Lib.hid (fun W => betw_any oa rd re W)
   by_cases h1 : rd ≤ oa ∧ oa ≤ re
   ·have hb1 : betwF oa rd re = true := by unfold betwF; rw [decide_eq_true h1.1, decide_eq_true h1.2]; rfl
    rw [hb1] at HBT
    by_cases h2 : ob = oa
    ·subst h2
     rw [if_pos ⟨h1.1, h1.2, rfl⟩] at HLS
     clear h1 hb1
     go_wp2_with fail
     refine Lx.region (C := fun _ => True) (hs := []) (by kernel_rfl) (by kernel_rfl) trivial ?_
     repeat' (first | ((first | refine Lx.ln (fun K hK => ?_) | (first | (refine Lx.lp (v := ?_) ?_ (fun K hK => ?_); rotate_left 1; intro w' hCw; try dsimp only at hCw) | (refine Lx.lr (v := ?_) ?_ (fun K hK => ?_); rotate_left 1)); go_simp; first | done | with_reducible rfl); go_simp; refine hK _ ?_; clear hK K) | (refine Lx.le (fun K hK => ?_); go_simp; (first | (go_at_call 83; refine (HBT.out _).mono ?_; rintro e w3 ⟨rfl, rfl⟩) | skip); refine hK _ _ (trivial) ?_; clear hK K) | (refine Lx.lex_cases rfl rfl rfl (fun hgd K hK => ?_) (fun hgd K hK => ?_) <;> (try simp only [decide_eq_true_eq, decide_eq_false_iff_not] at hgd) <;> (first | (exfalso; omega) | (go_simp; refine hK _ ?_; clear hK K))))
     all_goals (refine Lx.lex_nil ?_)
     go_wp2_with fail
     refine Lx.region (C := fun _ => True) (hs := []) (by kernel_rfl) (by kernel_rfl) trivial ?_
     repeat' (first | ((first | refine Lx.ln (fun K hK => ?_) | (first | (refine Lx.lp (v := ?_) ?_ (fun K hK => ?_); rotate_left 1; intro w' hCw; try dsimp only at hCw) | (refine Lx.lr (v := ?_) ?_ (fun K hK => ?_); rotate_left 1)); go_simp; first | done | with_reducible rfl); go_simp; refine hK _ ?_; clear hK K) | (refine Lx.le (fun K hK => ?_); go_simp; (first | skip | skip); refine hK _ _ (trivial) ?_; clear hK K) | (refine Lx.lex_cases rfl rfl rfl (fun hgd K hK => ?_) (fun hgd K hK => ?_) <;> (try simp only [decide_eq_true_eq, decide_eq_false_iff_not] at hgd) <;> (first | (exfalso; omega) | (go_simp; refine hK _ ?_; clear hK K))))
     all_goals (refine Lx.lex_nil ?_)
     go_wp2_with fail
     go_roundw
     case rel => exact ⟨k + 1, hlt, by go_num, by rw [HST.out, HLS.out]; exact ((HP1.out.drew.drew.drew.setI 1 a' _ rfl).sub (by simp))⟩
     case measure => simp [intOf]; omega
    ·have h3 : ((ob : Int) == oa) = false := by simpa using h2
     rw [if_neg (fun h => h2 h.2.2)] at HLS
     clear h1 hb1
     go_wp2_with fail
     refine Lx.region (C := fun _ => True) (hs := []) (by kernel_rfl) (by kernel_rfl) trivial ?_
     repeat' (first | ((first | refine Lx.ln (fun K hK => ?_) | (first | (refine Lx.lp (v := ?_) ?_ (fun K hK => ?_); rotate_left 1; intro w' hCw; try dsimp only at hCw) | (refine Lx.lr (v := ?_) ?_ (fun K hK => ?_); rotate_left 1)); go_simp; first | done | with_reducible rfl); go_simp; refine hK _ ?_; clear hK K) | (refine Lx.le (fun K hK => ?_); go_simp; (first | (go_at_call 83; refine (HBT.out _).mono ?_; rintro e w3 ⟨rfl, rfl⟩) | skip); refine hK _ _ (trivial) ?_; clear hK K) | (refine Lx.lex_cases rfl rfl rfl (fun hgd K hK => ?_) (fun hgd K hK => ?_) <;> (try simp only [decide_eq_true_eq, decide_eq_false_iff_not] at hgd) <;> (first | (exfalso; omega) | (go_simp; refine hK _ ?_; clear hK K))))
     all_goals (refine Lx.lex_nil ?_)
     go_wp2_with fail
     go_roundw
     case rel => exact ⟨k + 1, hlt, by go_num, by rw [HST.out, HLS.out]; exact HP1.out.drew.drew.sub (by simp)⟩
     case measure => simp [intOf]; omega
   ·have hb1 : betwF oa rd re = false := by
     unfold betwF
     rw [← Bool.not_eq_true, Bool.and_eq_true, decide_eq_true_eq, decide_eq_true_eq]; exact h1
    rw [hb1] at HBT
    rw [if_neg (fun h => h1 ⟨h.1, h.2.1⟩)] at HLS
    clear h1 hb1
    go_wp2_with fail
    refine Lx.region (C := fun _ => True) (hs := []) (by kernel_rfl) (by kernel_rfl) trivial ?_
    repeat' (first | ((first | refine Lx.ln (fun K hK => ?_) | (first | (refine Lx.lp (v := ?_) ?_ (fun K hK => ?_); rotate_left 1; intro w' hCw; try dsimp only at hCw) | (refine Lx.lr (v := ?_) ?_ (fun K hK => ?_); rotate_left 1)); go_simp; first | done | with_reducible rfl); go_simp; refine hK _ ?_; clear hK K) | (refine Lx.le (fun K hK => ?_); go_simp; (first | (go_at_call 83; refine (HBT.out _).mono ?_; rintro e w3 ⟨rfl, rfl⟩) | skip); refine hK _ _ (trivial) ?_; clear hK K) | (refine Lx.lex_cases rfl rfl rfl (fun hgd K hK => ?_) (fun hgd K hK => ?_) <;> (try simp only [decide_eq_true_eq, decide_eq_false_iff_not] at hgd) <;> (first | (exfalso; omega) | (go_simp; refine hK _ ?_; clear hK K))))
    all_goals (refine Lx.lex_nil ?_)
    go_wp2_with fail
    go_roundw
    case rel => exact ⟨k + 1, hlt, by go_num, by rw [HST.out, HLS.out]; exact HP1.out.drew.drew.sub (by simp)⟩
    case measure => simp [intOf]; omega
  ·obtain rfl : k = n := by omega
   rw [List.take_of_length_le (by rw [HAL.out]; exact Nat.le_refl _)] at HP
   have HLL := Lib.hid (HLF.out l)
   clear hP
   go_upto_region 9 with fail
   have hsz : (Tryz.prog.info? 193).map (·.size) = some (((lostF O l).map intV).toArray).size := by rw [arr512.2]; simp [HLL.out]
   have hb1 : wr.heap[w.heap.size + 1]? = some (.cells ((lostF O l).map intV).toArray 193 (0, 0)) := HP.out.blk 1 rfl
   have hb0 : wr.heap[w.heap.size]? = some (.cells Z.toList.toArray 193 (0, 0)) := HP.out.blk 0 rfl
   have HZL : Hid (Z.toList.toArray.size = (((lostF O l).map intV).toArray).size) := Lib.hid (by simp [HLL.out, HZS.out])
   have H1 := Lib.hid hsz
   have HB0 := Lib.hid hb0
   have HB1 := Lib.hid hb1
   have HBL := Lib.hid HP.out.below
   have HA1 : Hid ((((lostF O l).map intV).toArray).all (·.oneCell') = true) := Lib.hid (by simp [intV, Value.oneCell'])
   generalize ((lostF O l).map intV).toArray = R at *
   generalize Z.toList.toArray = Z' at *
   clear hsz hb0 hb1 HP
   go_wp2_with (first
    | (refine wpList_load_row rfl 193 _ rfl (w.heap.size + 1) rfl _ R (0, 0) _ HB1.out Tryz.underlying193 rfl H1.out ?_)
    | (refine wpList_store_row rfl 193 _ _ rfl w.heap.size R rfl rfl _ Z' HB0.out H1.out HZL.out HA1.out ?_))
   have hrow : (wr.setRow w.heap.size R).heap[w.heap.size]? = some (.cells R 193 (0, 0)) := by simp [World.setRow, Array.getElem?_modify, HB0.out]
   refine bodyPost_ret (v := .agg R) (results_cell_row (p := 4) Tryz.results116 _ _ w.heap.size _ R (0, 0) _ rfl hrow Tryz.underlying193 rfl H1.out) rfl ⟨rfl, ?_⟩
   exact HBL.out.grown (grownBy_setRow wr w.heap.size R) HBL.out.size (fun g hg => by cases hg; exact Nat.le_refl _)
theorem vlGo_cons (prev : Option Int) (x : Int × Int) (r : List (Int × Int)) : vlGo prev (x :: r) = if stF x.1 && betwF x.2 2 51 && !notUp prev x.1 then vlGo (some x.1) r else false := by
 rw [vlGo]
 unfold betwF
 by_cases h : stF x.1 = false ∨ x.2 < 2 ∨ 51 < x.2 ∨ notUp prev x.1 = true
 ·rw [if_pos h, if_neg]
  rw [Bool.and_eq_true, Bool.and_eq_true, Bool.and_eq_true, decide_eq_true_eq, decide_eq_true_eq]
  rintro ⟨⟨h1, h2, h3⟩, h4⟩
  rcases h with h | h | h | h
  ·rw [h] at h1; cases h1
  ·omega
  ·omega
  ·rw [h] at h4; cases h4
 ·rw [if_neg h, if_pos]
  rw [Bool.and_eq_true, Bool.and_eq_true, Bool.and_eq_true, decide_eq_true_eq, decide_eq_true_eq]
  simp only [not_or, Bool.not_eq_false] at h
  refine ⟨⟨h.1, by omega, by omega⟩, ?_⟩
  have := h.2.2.2
  cases hu : notUp prev x.1 with
  | false => rfl
  | true => exact absurd hu this
theorem pvl_any (A : Option Addr) (n c : Nat) (w : World) (l : List (Int × Int)) (hn : n ≤ 9223372036854775807) (hl : RowS 2 chC w w.heap.size A n l) :
  Calls Tryz.prog 38 #[.slice A n c] w (RetPost (.bool (vlGo none l)) w.heap.size w) := by
 have Hl := Lib.hid hl
 have Hlen := Eqn.mk hl.1
 have HIS := Lib.hid (fun x W => isSt_any x W)
 have HBT := Lib.hid (fun x W => betw_any x 2 51 W)
 clear hl
 go_enter Tryz.func38, Tryz.ntmps38
 go_wp2_with fail
 go_loopw [7] (fun i wr => ∃ k : Nat, k ≤ n ∧ i = .int .i64 k ∧ Eqn (vlGo none l) (vlGo (prevOf Prod.fst l k) (l.drop k)) ∧ Below w.heap.size w wr) (fun i _ => n - (intOf i).toNat)
 case atStart => exact ⟨0, Nat.zero_le _, rfl, rfl, Below.refl _ _⟩
 case round =>
  obtain ⟨k, hk, rfl, HR, hB⟩ := hrel
  have HB := Lib.hid hB
  have hbs := hB.size
  by_cases hlt : k < n
  ·have j0 : (k : Int) < (n : Int) := by omega
   obtain ⟨x, hx, hxd⟩ := drop_at (xs := l) (k := k) (by rw [Hlen.out]; exact hlt)
   obtain ⟨b, off, hA, hbl, hc⟩ := (Hl.out.below hB).2 (by omega)
   subst hA
   have HR2 := HR.out
   rw [hxd, vlGo_cons] at HR2
   have hnx : prevOf Prod.fst l (k + 1) = some x.1 := by rw [prevOf_succ, hx]; rfl
   rw [← hnx] at HR2
   have c0 : wr.cell? ⟨b, off + k * 2, none⟩ = some (.int .i64 x.1) := hc k x hx 0 (by omega)
   have c1 : wr.cell? ⟨b, off + k * 2 + 1, none⟩ = some (.int .i64 x.2) := hc k x hx 1 (by omega)
   have HPV : Hid (0 < k → ∃ q : Int, wr.cell? ⟨b, off + (k - 1) * 2, none⟩ = some (.int .i64 q) ∧ notUp (prevOf Prod.fst l k) x.1 = decide (x.1 ≤ q)) := Lib.hid (fun h0 => by
    obtain ⟨q, hq, _⟩ := drop_at (xs := l) (k := k - 1) (by rw [Hlen.out]; omega)
    refine ⟨q.1, hc (k - 1) q hq 0 (by omega), ?_⟩
    unfold prevOf; rw [if_neg (by omega), hq]; rfl)
   have HP0 : Hid (k = 0 → notUp (prevOf Prod.fst l k) x.1 = false) := Lib.hid (fun h => by subst h; rfl)
   obtain ⟨xs, xc⟩ := x
   dsimp only at *
   have HRR := Lib.hid HR2
   obtain ⟨V1, hV1⟩ : ∃ V1, V1 = wr.alloc (.cells #[.int .i64 xs, .int .i64 xc] 91) := ⟨_, rfl⟩
   have hP1 := (Hp.start wr).alloc [.int .i64 xs, .int .i64 xc] 91
   have hbw : b < wr.heap.size := by omega
   rw [show ([.int .i64 xs, .int .i64 xc] : List Value).toArray = #[.int .i64 xs, .int .i64 xc] from rfl, ← hV1] at hP1
   have HP1 := Lib.hid hP1
   clear hc hx hxd HR HR2 hB hnx
   go_upto_region 4 with fail
   rw [← hV1]
   clear hV1 c0 c1
   have HB1 := Lib.hid (HB.out.trans (hP1.below.mono hbs))
   have q0 := hP1.c 0 0 rfl rfl
   have q1 := hP1.c 0 1 rfl rfl
   have l1 := hP1.lt 0 rfl
   have hbv : b < V1.heap.size := by have := hP1.below.size; omega
   have HIS1 := HIS.out xs V1
   have HBT1 := HBT.out xc V1
   clear hP1
   generalize hs : stF xs = s1 at *
   generalize hb : betwF xc 2 51 = s2 at *
   clear hs hb
   cases s1 with
   | false =>
    have HV : Hid (vlGo none l = false) := Lib.hid (HRR.out.trans (if_neg (by simp)))
    have HIS2 := Lib.hid HIS1
    clear HRR HIS1 HBT1
    generalize wr.heap.size = p4 at *
    go_wp2_with fail
    refine HIS2.out.mono ?_
    rintro e w1 ⟨rfl, rfl⟩
    go_wp2_with fail
    go_ret
    exact ⟨ret_bool HV.out.symm, HB1.out⟩
   | true =>
    cases s2 with
    | false =>
     have HV : Hid (vlGo none l = false) := Lib.hid (HRR.out.trans (if_neg (by simp)))
     have HIS2 := Lib.hid HIS1
     have HBT2 := Lib.hid HBT1
     clear HRR HIS1 HBT1
     generalize wr.heap.size = p4 at *
     go_wp2_with fail
     refine HIS2.out.mono ?_
     rintro e w1 ⟨rfl, rfl⟩
     go_wp2_with fail
     refine HBT2.out.mono ?_
     rintro e w1 ⟨rfl, rfl⟩
     go_wp2_with fail
     go_ret
     exact ⟨ret_bool HV.out.symm, HB1.out⟩
    | true =>
     have HIS2 := Lib.hid HIS1
     have HBT2 := Lib.hid HBT1
     clear HIS1 HBT1
     by_cases h0 : 0 < k
     ·obtain ⟨q, hq, hu⟩ := HPV.out h0
      have hq1 : V1.cell? ⟨b, off + (k - 1) * 2, none⟩ = some (.int .i64 q) := (HP1.out.below.cell (p := ⟨b, off + (k - 1) * 2, none⟩) hbw).trans hq
      clear hq
      obtain ⟨k', hk'⟩ : ∃ k', k - 1 = k' := ⟨_, rfl⟩
      rw [hk'] at hq1
      have k1 : decide ((0 : Int) < (k : Int)) = true := decide_eq_true (by omega)
      have k5 : decide (0 < k) = true := decide_eq_true h0
      have e1 : IntKind.i64.wrap ((k : Int) - 1) = (k' : Int) := by rw [IntWalk.i64_in _ (by omega)]; omega
      have e3 : (k : Int) - 1 = (k' : Int) := by omega
      have e9 : IntKind.i64.wrap (k' : Int) = (k' : Int) := by rw [IntWalk.i64_in _ (by omega)]
      have e4 : (0 : Int) ≤ (k' : Int) := by omega
      have e5 : (k' : Int) < (n : Int) := by omega
      by_cases b3 : xs ≤ q
      ·have HV : Hid (vlGo none l = false) := Lib.hid (HRR.out.trans (if_neg (by rw [hu, decide_eq_true b3]; simp)))
       clear HRR hk' hu
       generalize wr.heap.size = p4 at *
       go_wp2_with fail
       refine HIS2.out.mono ?_
       rintro e w1 ⟨rfl, rfl⟩
       go_wp2_with fail
       refine HBT2.out.mono ?_
       rintro e w1 ⟨rfl, rfl⟩
       go_wp2_with fail
       refine Lx.region (C := fun _ => True) (hs := []) (by kernel_rfl) (by kernel_rfl) trivial ?_
       repeat' (first | ((first | refine Lx.ln (fun K hK => ?_) | (first | (refine Lx.lp (v := ?_) ?_ (fun K hK => ?_); rotate_left 1; intro w' hCw; try dsimp only at hCw) | (refine Lx.lr (v := ?_) ?_ (fun K hK => ?_); rotate_left 1)); go_simp; first | done | with_reducible rfl); go_simp; refine hK _ ?_; clear hK K) | (refine Lx.le (fun K hK => ?_); go_simp; (first | skip | skip); refine hK _ _ (trivial) ?_; clear hK K) | (refine Lx.lex_cases rfl rfl rfl (fun hgd K hK => ?_) (fun hgd K hK => ?_) <;> (try simp only [decide_eq_true_eq, decide_eq_false_iff_not] at hgd) <;> (first | (exfalso; omega) | (go_simp; refine hK _ ?_; clear hK K))))
       all_goals (refine Lx.lex_nil ?_)
       go_wp2_with fail
       go_ret
       exact ⟨ret_bool HV.out.symm, HB1.out.drew⟩
      ·have HV : Hid (vlGo none l = vlGo (prevOf Prod.fst l (k + 1)) (l.drop (k + 1))) := Lib.hid (HRR.out.trans (if_pos (by rw [hu, decide_eq_false b3]; rfl)))
       clear HRR hk' hu
       generalize wr.heap.size = p4 at *
       go_wp2_with fail
       refine HIS2.out.mono ?_
       rintro e w1 ⟨rfl, rfl⟩
       go_wp2_with fail
       refine HBT2.out.mono ?_
       rintro e w1 ⟨rfl, rfl⟩
       go_wp2_with fail
       refine Lx.region (C := fun _ => True) (hs := []) (by kernel_rfl) (by kernel_rfl) trivial ?_
       repeat' (first | ((first | refine Lx.ln (fun K hK => ?_) | (first | (refine Lx.lp (v := ?_) ?_ (fun K hK => ?_); rotate_left 1; intro w' hCw; try dsimp only at hCw) | (refine Lx.lr (v := ?_) ?_ (fun K hK => ?_); rotate_left 1)); go_simp; first | done | with_reducible rfl); go_simp; refine hK _ ?_; clear hK K) | (refine Lx.le (fun K hK => ?_); go_simp; (first | skip | skip); refine hK _ _ (trivial) ?_; clear hK K) | (refine Lx.lex_cases rfl rfl rfl (fun hgd K hK => ?_) (fun hgd K hK => ?_) <;> (try simp only [decide_eq_true_eq, decide_eq_false_iff_not] at hgd) <;> (first | (exfalso; omega) | (go_simp; refine hK _ ?_; clear hK K))))
       all_goals (refine Lx.lex_nil ?_)
       clear e1 e3 e9 e4 e5 k1 k5
       go_wp2_with fail
       go_roundw
       case rel => exact ⟨k + 1, hlt, by go_num, HV.out, HB1.out.drew⟩
       case measure => simp [intOf]; omega
     ·have hk0 : k = 0 := by omega
      have hu := HP0.out hk0
      have HV : Hid (vlGo none l = vlGo (prevOf Prod.fst l (k + 1)) (l.drop (k + 1))) := Lib.hid (HRR.out.trans (if_pos (by rw [hu]; rfl)))
      have k1 : decide ((0 : Int) < (k : Int)) = false := decide_eq_false (by omega)
      have k5 : decide (0 < k) = false := decide_eq_false h0
      clear HRR hk0 hu
      generalize wr.heap.size = p4 at *
      go_wp2_with fail
      refine HIS2.out.mono ?_
      rintro e w1 ⟨rfl, rfl⟩
      go_wp2_with fail
      refine HBT2.out.mono ?_
      rintro e w1 ⟨rfl, rfl⟩
      go_wp2_with fail
      refine Lx.region (C := fun _ => True) (hs := []) (by kernel_rfl) (by kernel_rfl) trivial ?_
      repeat' (first | ((first | refine Lx.ln (fun K hK => ?_) | (first | (refine Lx.lp (v := ?_) ?_ (fun K hK => ?_); rotate_left 1; intro w' hCw; try dsimp only at hCw) | (refine Lx.lr (v := ?_) ?_ (fun K hK => ?_); rotate_left 1)); go_simp; first | done | with_reducible rfl); go_simp; refine hK _ ?_; clear hK K) | (refine Lx.le (fun K hK => ?_); go_simp; (first | skip | skip); refine hK _ _ (trivial) ?_; clear hK K) | (refine Lx.lex_cases rfl rfl rfl (fun hgd K hK => ?_) (fun hgd K hK => ?_) <;> (try simp only [decide_eq_true_eq, decide_eq_false_iff_not] at hgd) <;> (first | (exfalso; omega) | (go_simp; refine hK _ ?_; clear hK K))))
      all_goals (refine Lx.lex_nil ?_)
      clear k1 k5
      go_wp2_with fail
      go_roundw
      case rel => exact ⟨k + 1, hlt, by go_num, HV.out, HB1.out.drew⟩
      case measure => simp [intOf]; omega
  ·obtain rfl : k = n := by omega
   have HV : Hid (vlGo none l = true) := Lib.hid (by rw [HR.out, List.drop_of_length_le (by rw [Hlen.out]; exact Nat.le_refl _)]; rfl)
   clear hB HR
   go_wp2_with fail
   go_ret
   exact ⟨ret_bool HV.out.symm, HB.out⟩
theorem flat_lenR {α : Type} (sz : Nat) (f : α → Nat → Value) (ys : List α) : (flat sz f ys).length = ys.length * sz := by
 induction ys with
 | nil => simp [flat]
 | cons y ys ih =>
  have : flat sz f (y :: ys) = (List.range sz).map (f y) ++ flat sz f ys := rfl
  rw [this, List.length_append, ih, List.length_cons, Nat.succ_mul]; simp; omega
section
variable {P : Program}
theorem run_append_rowR {α : Type} {sz : Nat} {f : α → Nat → Value} (hsz : 0 < sz) (hf : ∀ a j, j < sz → (f a j).oneCell' = true) (w : World) (base : Nat) (t ty e : TypeId) (i : TypeInfo) (z : Value) (bytes : Nat) (ht : P.underlying t = some (.slice e)) (hi : P.info? e = some i) (hz : i.zero = some z)
  (hsize : i.size = sz) (hby : i.bytes = bytes) (hzs : z.cells.size = sz) (v : Value) (n : Nat) (xs : List Value) (hown : w.ownsRow base e sz v n xs) (A : Option Addr) (m c : Nat) (ys : List α) (D : Nat) (hy : RowS sz f w D A m ys)
  (h63 : n + m ≤ maxLen) (hbytes : (n + m) * bytes ≤ 140737488355328) (hbase : base ≤ w.heap.size) :
  ∃ v' w', (Builtin.append_ #[t, t] ty #[v, .slice A m c]).run P w = .ok v' w' ∧ w'.ownsRow base e sz v' (n + m) (xs ++ flat sz f ys) ∧ w.grownBy w' v.ownBlock ∧ (v'.ownBlock = v.ownBlock ∨ v'.ownBlock = some w.heap.size) := by
 cases A with
 | none =>
  have hn0 : m = 0 := by
   rcases Nat.eq_zero_or_pos m with h | h
   ·exact h
   ·obtain ⟨_, _, h1, _⟩ := hy.2 h; cases h1
  have hxs : ys = [] := List.eq_nil_of_length_eq_zero (by have := hy.1; omega)
  subst hn0 hxs
  refine ⟨v, w, ?_, by simpa [flat] using hown, ⟨rfl, rfl, rfl, Nat.le_refl _, fun _ _ _ => rfl⟩, .inl rfl⟩
  rcases hown.2 with ⟨rfl, rfl⟩ | ⟨g, cap, cur, rfl, hbg, hg, hnc, hcm, hcs, htake⟩
  ·simp [Builtin.append_, run_underlying ht, sizeOf, typeInfo, hi, Builtin.lenOf, Builtin.firstCells]
  ·simp [Builtin.append_, run_underlying ht, sizeOf, typeInfo, hi, Builtin.lenOf, Builtin.firstCells, loadCells, storeCells, hnc]
 | some ad =>
  have hlen := hy.1
  have hcells : ∀ j u, (flat sz f ys)[j]? = some u → w.cell? (ad.add j) = some u := by
   intro j u hu
   have hj := (List.getElem?_eq_some_iff.1 hu).1
   rw [flat_lenR, hlen] at hj
   have hm : 0 < m := by
    rcases Nat.eq_zero_or_pos m with h | h
    ·subst h; simp at hj
    ·exact h
   obtain ⟨b, off, h1, _, h3⟩ := hy.2 hm
   injection h1 with h1
   subst h1
   have hk : j / sz < ys.length := by rw [hlen]; exact Nat.div_lt_of_lt_mul (by rw [Nat.mul_comm]; exact hj)
   have hx := List.getElem?_eq_getElem hk
   have hj' : j / sz * sz + j % sz = j := by rw [Nat.mul_comm]; exact Nat.div_add_mod j sz
   have h4 := h3 (j / sz) _ hx (j % sz) (Nat.mod_lt _ hsz)
   have h5 := flat_at sz f ys (j / sz) _ hx (j % sz) (Nat.mod_lt _ hsz)
   rw [hj', hu] at h5
   rw [Nat.add_assoc, hj', ← h5] at h4
   unfold Addr.add
   by_cases hj0 : j = 0
   ·subst hj0; simpa using h4
   ·rw [if_neg hj0]; exact h4
  obtain ⟨v', w', hr, h2, h3, _, h5⟩ := run_append_own_at (P := P) w base t ty e i z sz bytes ht hi hz hsize hby hzs hsz v n xs hown ad m c (flat sz f ys) (by rw [flat_lenR, hlen]) hcells
   (by
    intro u hu
    obtain ⟨y, _, hy2⟩ := List.mem_flatMap.1 hu
    obtain ⟨j, hj, rfl⟩ := List.mem_map.1 hy2
    exact hf y j (List.mem_range.1 hj)) h63 hbytes hbase
  exact ⟨v', w', hr, h2, h3, h5⟩
theorem wpList_append_rowR {w : World} {ops : Array Oper} {rest : List Oper} {o : Oper} {a : Act} {Q : Exit → Act → World → Prop} (hgd : o.guard = none) (s x : Operand) (t : TypeId)
  (ho : o.op = .call { callee := .builtin .append, args := #[s, x], argTypes := #[t, t] })
  {α : Type} {sz : Nat} {f : α → Nat → Value} (hsz : 0 < sz) (hf : ∀ a j, j < sz → (f a j).oneCell' = true) (base : Nat) (e : TypeId) (i : TypeInfo) (z : Value) (bytes : Nat) (ht : P.underlying t = some (.slice e)) (hi : P.info? e = some i) (hz : i.zero = some z)
  (hsize : i.size = sz) (hby : i.bytes = bytes) (hzs : z.cells.size = sz)
  (v : Value) (n : Nat) (xs : List Value) (hs : a.eval s = v) (hown : w.ownsRow base e sz v n xs) (A : Option Addr) (m c : Nat) (ys : List α) (D : Nat) (hx : a.eval x = .slice A m c) (hy : RowS sz f w D A m ys)
  (h63 : n + m ≤ maxLen) (hbytes : (n + m) * bytes ≤ 140737488355328) (hbase : base ≤ w.heap.size)
  (h : ∀ v' w', w'.ownsRow base e sz v' (n + m) (xs ++ flat sz f ys) → w.grownBy w' v.ownBlock → (v'.ownBlock = v.ownBlock ∨ v'.ownBlock = some w.heap.size) → wpList P ops Q rest (a.put o.dst v') w') :
  wpList P ops Q (o :: rest) a w := by
 refine wpList_plain hgd fun K hK => ?_
 obtain ⟨v', w', hr, h2, h3, h5⟩ := run_append_rowR (P := P) hsz hf w base t o.type e i z bytes ht hi hz hsize hby hzs v n xs hown A m c ys D hy h63 hbytes hbase
 unfold Oper.wp execOp
 simp only [ho, resolve, invoke, builtin, Sem.run_bind, Sem.run_pure, Result.andThen_ok, List.map_toArray, List.map_cons, List.map_nil, hs, hx, hr]
 exact hK _ _ (h v' w' h2 h3 h5)
end
theorem cells_newR (w : World) (cs : List Value) (t : TypeId) : ∀ (j : Nat) (u : Value), cs[j]? = some u → (w.alloc (.cells cs.toArray t)).cell? ((⟨w.heap.size, 0, none⟩ : Addr).add j) = some u := by
 intro j u h
 have h0 := (blk_new w cs t).cell h
 unfold Addr.add
 by_cases hj : j = 0
 ·subst hj; simpa using h0
 ·rw [if_neg hj]; simpa using h0
def onlyF (l : List (Int × Int)) (L : List Int) : List (Int × Int) × Int := if vlGo none l = true then if stOk L = true then (l.filter (fun x => hasS (stS L) x.1), 0) else ([], 2) else ([], 2)
def ChsPost (r : List (Int × Int) × Int) (w : World) (e : Ending) (w' : World) : Prop := ∃ v, e = .returned (.tuple #[v, .int .i64 r.2]) ∧ w'.ownsRow w.heap.size 91 2 v r.1.length (flat 2 chC r.1) ∧ Below w.heap.size w w'
theorem ch_info : (Tryz.prog.info? 91).map (fun i => (i.zero, i.size, i.bytes)) = some (some (.agg #[.int .i64 0, .int .i64 0]), 2, 16) := by kernel_rfl
theorem filter_take_one {α : Type} {p : α → Bool} {L : List α} {k : Nat} {x : α} (h : L[k]? = some x) : (L.take (k + 1)).filter p = (L.take k).filter p ++ if p x then [x] else [] := by
 rw [List.take_add_one, h, List.filter_append]
 congr 1
 by_cases hp : p x <;> simp [hp]
theorem only_any (A : Option Addr) (n c : Nat) (B : Option Addr) (m d : Nat) (w : World) (l : List (Int × Int)) (L : List Int) (hn : n ≤ 100000) (hm : m ≤ 9223372036854775807) (hl : RowS 2 chC w w.heap.size A n l) (hL : Row1 intV w w.heap.size B m L) :
  Calls Tryz.prog 51 #[.slice A n c, .slice B m d] w (ChsPost (onlyF l L) w) := by
 obtain ⟨i0, hi, hz0, hz1, hz2⟩ := info_parts ch_info
 have HV := pvl_any A n c w l (by omega) hl
 have HW := Lib.hid (fun W hb => vst_any B m d W L hm (hL.keep hb))
 have HOF : Eqn (onlyF l L) (if vlGo none l = true then if stOk L = true then (l.filter (fun x => hasS (stS L) x.1), 0) else ([], 2) else ([], 2)) := rfl
 have HO := Lib.hid (fun W hb (h : ∀ y ∈ L, 0 ≤ y ∧ y < 512) => of_any B m d W L hm (hL.keep hb))
 generalize onlyF l L = r at *
 cases hv : vlGo none l with
 | false =>
  rw [hv] at HV HOF
  have HV := Lib.hid HV
  have HR : Hid (r = ([], 2)) := Lib.hid HOF
  clear HOF hv hl hL
  go_enter Tryz.func51, Tryz.ntmps51
  go_wp2_with fail
  refine HV.out.mono ?_
  rintro e w1 ⟨rfl, hb1⟩
  have HB := Lib.hid hb1
  clear hb1
  go_wp2_with fail
  refine bodyPost_ret (v := .tuple #[.slice none 0 0, .int .i64 2]) (by simp [results, Tryz.results51, go_sem]) rfl ⟨.slice none 0 0, by rw [HR.out], by rw [HR.out]; exact World.ownsRow_nil _ _ _ _, HB.out⟩
 | true =>
  rw [hv] at HV HOF
  have HV := Lib.hid HV
  cases hs : stOk L with
  | false =>
   rw [hs] at HOF HW
   have HR : Hid (r = ([], 2)) := Lib.hid HOF
   clear HOF hv hs hl hL
   go_enter Tryz.func51, Tryz.ntmps51
   go_wp2_with fail
   refine HV.out.mono ?_
   rintro e w1 ⟨rfl, hb1⟩
   have HB := Lib.hid hb1
   clear hb1
   go_wp2_with fail
   refine (HW.out _ HB.out).mono ?_
   rintro e w2 ⟨rfl, hb2⟩
   have HB2 := Lib.hid (HB.out.trans (hb2.mono HB.out.size))
   clear hb2
   go_wp2_with fail
   refine bodyPost_ret (v := .tuple #[.slice none 0 0, .int .i64 2]) (by simp [results, Tryz.results51, go_sem]) rfl ⟨.slice none 0 0, by rw [HR.out], by rw [HR.out]; exact World.ownsRow_nil _ _ _ _, HB2.out⟩
  | true =>
   rw [hs] at HOF HW
   have HR : Hid (r = (l.filter (fun x => hasS (stS L) x.1), 0)) := Lib.hid HOF
   have hin := stOk_in hs
   have HFT : Hid (Fit (stS L)) := Lib.hid (stS_fit hin)
   have HOO : Hid (∀ W, Below w.heap.size w W → Calls Tryz.prog 36 #[.slice B m d] W (RetPost (.tuple #[sV (stS L), .int .i64 0]) W.heap.size W)) := Lib.hid (fun W hb => by have := of_any B m d W L hm (hL.keep hb); rw [ofF_in hin] at this; exact this)
   have HHA := Lib.hid (fun x W => has_any (stS L) x W)
   have Hl := Lib.hid hl
   have Hlen := Eqn.mk hl.1
   have HF0 : Hid ((l.take 0).filter (fun x => hasS (stS L) x.1) = []) := Lib.hid rfl
   generalize stS L = T at *
   unfold sV at HOO HHA
   clear HOF hv hs hl hL hin HO
   go_enter Tryz.func51, Tryz.ntmps51
   go_wp2_with fail
   refine HV.out.mono ?_
   rintro e w1 ⟨rfl, hb1⟩
   have HB := Lib.hid hb1
   clear hb1
   go_wp2_with fail
   refine (HW.out _ HB.out).mono ?_
   rintro e w2 ⟨rfl, hb2⟩
   have HB2 := Lib.hid (HB.out.trans (hb2.mono HB.out.size))
   clear hb2
   go_wp2_with fail
   refine (HOO.out _ HB2.out).mono ?_
   rintro e w3 ⟨rfl, hb3⟩
   obtain ⟨V3, hV3⟩ : ∃ V, V = w3.alloc (.cells (sL T).toArray 100) := ⟨_, rfl⟩
   have hP3 := (((Hp.start w).keep (HB2.out.trans (hb3.mono HB2.out.size))).allocS T 100).nil 91 2
   rw [← hV3] at hP3
   unfold sL at hV3
   have HP3 := Lib.hid hP3
   clear hb3 hP3 HB HB2 HV HW HOO
   go_upto_region 4 with fail
   rw [← hV3]
   clear hV3
   generalize w3.heap.size = p6 at *
   go_wp2_with fail
   go_loopw [8, 26] (fun vo i wr => ∃ k : Nat, k ≤ n ∧ i = .int .i64 k ∧ Hp w w wr [.blk p6 100 (tabL 8 (sC T)), .row vo 91 2 ((l.take k).filter fun x => hasS T x.1).length (flat 2 chC ((l.take k).filter fun x => hasS T x.1))] []) (fun _ i _ => n - (intOf i).toNat)
   case atStart => exact ⟨0, Nat.zero_le _, rfl, by rw [HF0.out]; exact HP3.out⟩
   case round =>
    clear HP3 HF0
    obtain ⟨k, hk, rfl, hP⟩ := hrel
    have HP := Lib.hid hP
    obtain ⟨A1, c1, rfl⟩ := hP.form 1 rfl
    by_cases hlt : k < n
    ·have j0 : (k : Int) < (n : Int) := by omega
     obtain ⟨x, hx⟩ : ∃ x, l[k]? = some x := ⟨_, List.getElem?_eq_getElem (by rw [Hlen.out]; exact hlt)⟩
     have HSU := Eqn.mk (filter_take_one (p := fun x : Int × Int => hasS T x.1) hx)
     have hol : ((l.take k).filter fun x => hasS T x.1).length ≤ 100000 := by
      have := List.length_filter_le (fun x : Int × Int => hasS T x.1) (l.take k)
      rw [List.length_take] at this; omega
     obtain ⟨b, off, rfl, hbw, hcell⟩ := (Hl.out.below hP.below).2 (by omega)
     have y0 : wr.cell? ⟨b, off + k * 2, none⟩ = some (.int .i64 x.1) := hcell k x hx 0 (by decide)
     have y1 : wr.cell? ⟨b, off + k * 2 + 1, none⟩ = some (.int .i64 x.2) := hcell k x hx 1 (by decide)
     obtain ⟨xs, xc⟩ := x
     dsimp only at y0 y1 HSU
     generalize (l.take k).filter (fun x => hasS T x.1) = O at *
     obtain ⟨V4, hV4⟩ : ∃ V, V = wr.alloc (.cells #[.int .i64 xs, .int .i64 xc] 91) := ⟨_, rfl⟩
     have hP4 := HP.out.alloc [.int .i64 xs, .int .i64 xc] 91
     rw [show ([.int .i64 xs, .int .i64 xc] : List Value).toArray = #[.int .i64 xs, .int .i64 xc] from rfl, ← hV4] at hP4
     have HP4 := Lib.hid hP4
     obtain ⟨c0_0, c0_1, c0_2, c0_3, c0_4, c0_5, c0_6, c0_7⟩ := (hP4.blk 0 rfl).eight; have f0 := hP4.f 0 rfl; have l0 := hP4.lt 0 rfl
     have q0 := hP4.c 2 0 rfl rfl
     have q1 := hP4.c 2 1 rfl rfl
     have l2 := hP4.lt 2 rfl
     have HH1 := HHA.out xs V4
     generalize hasS T xs = hb at *
     have HH1 := Lib.hid HH1
     clear hP hx hcell hbw hP4
     go_upto_region 8 with fail
     rw [← hV4]
     clear hV4 y0 y1
     generalize wr.heap.size = p10 at *
     cases hb with
     | false =>
      have HSU2 : Eqn ((l.take (k + 1)).filter (fun x => hasS T x.1)) O := by rw [Eqn, HSU.out]; simp
      clear HSU
      go_wp2_with fail
      refine HH1.out.mono ?_
      rintro e w5 ⟨rfl, hb5⟩
      have HP5 := Lib.hid (HP4.out.keep hb5)
      clear hb5 HH1 HP4 HP q0 q1 l2 c0_0 c0_1 c0_2 c0_3 c0_4 c0_5 c0_6 c0_7 f0 l0
      go_wp2_with fail
      go_roundw
      case rel => exact ⟨k + 1, hlt, by go_num, by rw [HSU2.out]; exact HP5.out.sub (by simp)⟩
      case measure => simp [intOf]; omega
     | true =>
      have HSU2 : Eqn ((l.take (k + 1)).filter (fun x => hasS T x.1)) (O ++ [(xs, xc)]) := HSU
      clear HSU
      go_wp2_with fail
      refine HH1.out.mono ?_
      rintro e w5 ⟨rfl, hb5⟩
      have hP5 := HP4.out.keep hb5
      have HP5 := Lib.hid hP5
      clear q0 q1 l2 c0_0 c0_1 c0_2 c0_3 c0_4 c0_5 c0_6 c0_7 f0 l0
      have q0 := hP5.c 2 0 rfl rfl
      have q1 := hP5.c 2 1 rfl rfl
      have l2 := hP5.lt 2 rfl
      clear hb5 HH1 HP4 HP hP5
      go_wp2_with (at_builtin; refine wpList_append_own_at _ rfl _ _ 41 rfl w.heap.size 91 i0 (.agg #[.int .i64 0, .int .i64 0]) 2 16 Tryz.underlying41 hi hz0 hz1 hz2 rfl (by decide) _ _ _ rfl ((HP5.out.row 1 rfl).alloc _) ⟨w5.heap.size, 0, none⟩ 1 1 [.int .i64 xs, .int .i64 xc] rfl rfl (cells_newR w5 [.int .i64 xs, .int .i64 xc] 91) (by simp [Value.oneCell']) (by unfold maxLen; omega) (by omega) (by have := HP5.out.below.size; simp; omega) ?_; intro v2 w6 hown hgrow _ hat; have HP6 := Lib.hid ((HP5.out.alloc0 _).grow 1 rfl hgrow hown hat); obtain ⟨A5, cp5, rfl⟩ := HP6.out.form 1 rfl; clear hown hgrow hat)
      go_roundw
      case rel => exact ⟨k + 1, hlt, by go_num, by rw [HSU2.out, flat_snoc, List.length_append]; exact HP6.out.sub (List.Sublist.cons_cons _ (List.Sublist.cons_cons _ (List.nil_sublist _)))⟩
      case measure => simp [intOf]; omega
    ·obtain rfl : k = n := by omega
     rw [List.take_of_length_le (by rw [Hlen.out]; exact Nat.le_refl _)] at HP ⊢
     clear hP
     go_wp2_with fail
     refine bodyPost_ret (v := .tuple #[.slice A1 (l.filter fun x => hasS T x.1).length c1, .int .i64 0]) (by simp [results, Tryz.results51, go_sem]) rfl ⟨_, by rw [HR.out], by rw [HR.out]; exact HP.out.row 1 rfl, HP.out.below⟩
end Go.Proofs.YtdpbbhbegehcjaaGreatDoor
