/- The contracts of New, Next and Add of digraph. -/
import Derived.RangeFuncNested
import Derived.RangeFuncLeaves
import Derived.RangeFuncBox
import Derived.Deep.CutBlock
import Derived.Maps.AppendAt
import Derived.Test.YtpaakgngoocjeaaDoorDig01
import Derived.Test.YtpaakgngoocjeaaDoorDig03
/- The memory of a call's own as one list of entries: blocks known whole and rows that may be appended to; what the steps of a walk do to it; ranges over functions over such a list. Nothing of the program is named here. -/
namespace Go.Proofs.YtpaakgngoocjeaaDoor
open Go.RowKit Go.Shelf

inductive Ent
  | blk (g t : Nat) (s : List Value)
  | row (v : Value) (t size n : Nat) (xs : List Value)
def Ent.dst : Ent → Option Nat
  | .blk g _ _ => some g
  | .row v _ _ _ _ => v.ownBlock
def Ent.holds (B : Nat) (W : World) : Ent → Prop
  | .blk g t s => Blk W g t s
  | .row v t size n xs => W.ownsRow B t size v n xs
theorem Ent.cells {B : Nat} {W : World} {e : Ent} (h : e.holds B W) {g : Nat} (hg : e.dst = some g) : ∃ c t, W.heap[g]? = some (.cells c t (0, 0)) := by
  cases e with
  | blk g' t s => cases hg; exact ⟨_, _, h⟩
  | row v t size n xs =>
    rcases h.2 with ⟨rfl, _⟩ | ⟨g', cap, cur, rfl, _, h3, _⟩
    · cases hg
    · cases hg; exact ⟨_, _, h3⟩
theorem Ent.lt {B : Nat} {W : World} {e : Ent} (h : e.holds B W) {g : Nat} (hg : e.dst = some g) : g < W.heap.size := by
  obtain ⟨c, t, h⟩ := Ent.cells h hg
  exact (Array.getElem?_eq_some_iff.1 h).1
theorem Ent.same {B : Nat} {W X : World} {e : Ent} (h : e.holds B W) (hs : ∀ g, e.dst = some g → X.heap[g]? = W.heap[g]?) : e.holds B X := by
  cases e with
  | blk g' t s => exact (hs _ rfl).trans h
  | row v t size n xs =>
    refine ⟨h.1, ?_⟩
    rcases h.2 with h1 | ⟨g, cap, cur, rfl, h2, h3, h4⟩
    · exact .inl h1
    · exact .inr ⟨g, cap, cur, rfl, h2, (hs g rfl).trans h3, h4⟩
theorem Ent.mono {B B' : Nat} {W : World} {e : Ent} (h : e.holds B W) (hB : B' ≤ B) : e.holds B' W := by
  cases e with
  | blk g' t s => exact h
  | row v t size n xs => exact own_low h hB

/-- what the call that began in w owns in W; since u nothing but cells was touched; the marks of the ranges over functions -/
structure Hp (w u W : World) (L : List Ent) (ds : List Nat) : Prop where
  below : Below w.heap.size w W
  since : KeepsOthers u W
  all : ∀ e ∈ L, e.holds w.heap.size W
  low : ∀ e ∈ L, ∀ g, e.dst = some g → w.heap.size ≤ g
  apart : L.Pairwise fun a b => ∀ g, a.dst = some g → b.dst ≠ some g
  marks : ∀ D ∈ ds, w.heap.size ≤ D ∧ W.heap[D]? = some (.deferred (some []))
  nodup : ds.Nodup
theorem grownBy_cell (W : World) (g o : Nat) (v : Value) : W.grownBy (W.setCell ⟨g, o, none⟩ v) (some g) :=
  ⟨rfl, rfl, rfl, by simp [World.setCell], fun k _ hne => Below.heap_setCell _ _ _ _ (fun e => hne (by rw [e]))⟩
theorem Hp.start (w : World) : Hp w w w [] [] := ⟨Below.refl _ _, KeepsOthers.refl _, fun _ h => (by cases h), fun _ h => (by cases h), List.Pairwise.nil, fun _ h => (by cases h), List.Pairwise.nil⟩
section
variable {w u W X : World} {L : List Ent} {ds : List Nat}
theorem Hp.rebase (h : Hp w u W L ds) : Hp w W W L ds := ⟨h.below, KeepsOthers.refl _, h.all, h.low, h.apart, h.marks, h.nodup⟩
theorem Hp.nomarks (h : Hp w u W L ds) : Hp w u W L [] := ⟨h.below, h.since, h.all, h.low, h.apart, fun _ h => (by cases h), List.Pairwise.nil⟩
theorem Hp.sub {L' : List Ent} (h : Hp w u W L ds) (hs : L'.Sublist L) : Hp w u W L' ds :=
  ⟨h.below, h.since, fun e he => h.all e (hs.subset he), fun e he => h.low e (hs.subset he), h.apart.sublist hs, h.marks, h.nodup⟩
theorem Hp.perm {L' : List Ent} (h : Hp w u W L ds) (hs : L.Perm L') : Hp w u W L' ds := by
  refine ⟨h.below, h.since, fun e he => h.all e (hs.mem_iff.2 he), fun e he => h.low e (hs.mem_iff.2 he), ?_, h.marks, h.nodup⟩
  exact (hs.pairwise_iff (fun {a b} hab g hb ha => hab g ha hb)).1 h.apart
theorem Hp.blk (h : Hp w u W L ds) (i : Nat) {g t : Nat} {s : List Value} (hi : L[i]? = some (.blk g t s)) : Blk W g t s := h.all _ (List.mem_of_getElem? hi)
theorem Hp.row (h : Hp w u W L ds) (i : Nat) {v : Value} {t size n : Nat} {xs : List Value} (hi : L[i]? = some (.row v t size n xs)) : W.ownsRow w.heap.size t size v n xs := h.all _ (List.mem_of_getElem? hi)
theorem Hp.c (h : Hp w u W L ds) (i k : Nat) {g t : Nat} {s : List Value} {v : Value} (hi : L[i]? = some (.blk g t s)) (hk : s[k]? = some v) : W.cell? ⟨g, k, none⟩ = some v := (h.blk i hi).cell hk
theorem Hp.f (h : Hp w u W L ds) (i : Nat) {g t : Nat} {s : List Value} (hi : L[i]? = some (.blk g t s)) : ∀ o, W.frozen? ⟨g, o, none⟩ = false := (h.blk i hi).frozen
theorem Hp.lt (h : Hp w u W L ds) (i : Nat) {g t : Nat} {s : List Value} (hi : L[i]? = some (.blk g t s)) : g < W.heap.size := (h.blk i hi).lt
theorem Hp.lo (h : Hp w u W L ds) (i : Nat) {g t : Nat} {s : List Value} (hi : L[i]? = some (.blk g t s)) : w.heap.size ≤ g := h.low _ (List.mem_of_getElem? hi) g rfl
theorem Hp.ne (h : Hp w u W L ds) (i j : Nat) {e e' : Ent} (hi : L[i]? = some e) (hj : L[j]? = some e') (hij : i ≠ j) {g : Nat} (hg : e.dst = some g) : e'.dst ≠ some g := by
  obtain ⟨h1, e1⟩ := List.getElem?_eq_some_iff.1 hi
  obtain ⟨h2, e2⟩ := List.getElem?_eq_some_iff.1 hj
  rcases Nat.lt_or_ge i j with hlt | hge
  · have := List.pairwise_iff_getElem.1 h.apart i j h1 h2 hlt
    rw [e1, e2] at this
    exact this g hg
  · have := List.pairwise_iff_getElem.1 h.apart j i h2 h1 (by omega)
    rw [e1, e2] at this
    exact fun hg' => this g hg' hg
/-- one entry is turned -/
theorem Hp.upd (h : Hp w u W L ds) (i : Nat) {e e' : Ent} (hi : L[i]? = some e) (hg : W.grownBy X e.dst) (he : e'.holds w.heap.size X) (hd : ∀ g, e'.dst = some g → e.dst = some g ∨ W.heap.size ≤ g) : Hp w u X (L.set i e') ds := by
  have hmem := List.mem_of_getElem? hi
  have hlow := h.low e hmem
  have hk : ∀ j e2, L[j]? = some e2 → j ≠ i → ∀ g, e2.dst = some g → X.heap[g]? = W.heap[g]? := by
    intro j e2 hj hne g hg2
    exact hg.block g (Ent.lt (h.all e2 (List.mem_of_getElem? hj)) hg2) (fun e3 => h.ne j i hj hi hne hg2 e3.symm)
  have hilt := (List.getElem?_eq_some_iff.1 hi).1
  refine ⟨h.below.grown hg h.below.size hlow, h.since.trans (KeepsOthers.of_grownBy hg fun j o hj ho => ?_), ?_, ?_, ?_, fun D hD => ⟨(h.marks D hD).1, ?_⟩, h.nodup⟩
  · obtain ⟨c, t, hc⟩ := Ent.cells (h.all e hmem) hj
    rw [hc] at ho; cases ho; rfl
  · intro e2 he2
    obtain ⟨j, hj⟩ := List.getElem?_of_mem he2
    rw [List.getElem?_set] at hj
    split at hj
    · cases hj; exact he
    · rename_i hne
      exact Ent.same (h.all e2 (List.mem_of_getElem? hj)) (hk j e2 hj (fun e => hne e.symm))
  · intro e2 he2 g hg2
    obtain ⟨j, hj⟩ := List.getElem?_of_mem he2
    rw [List.getElem?_set] at hj
    split at hj
    · cases hj
      rcases hd g hg2 with h1 | h1
      · exact hlow g h1
      · exact Nat.le_trans h.below.size h1
    · exact h.low e2 (List.mem_of_getElem? hj) g hg2
  · rw [List.pairwise_iff_getElem]
    intro a b ha hb hab g hga hgb
    rw [List.length_set] at ha hb
    have hda : ∀ j (hj : j < L.length), j ≠ i → ∀ g, e'.dst = some g → (L[j]).dst ≠ some g := by
      intro j hj hne g h1 h2
      have hj' : L[j]? = some L[j] := List.getElem?_eq_getElem hj
      rcases hd g h1 with h3 | h3
      · exact h.ne i j hi hj' (Ne.symm hne) h3 h2
      · have := Ent.lt (h.all _ (List.mem_of_getElem? hj')) h2
        omega
    rw [List.getElem_set] at hga hgb
    split at hga
    · rename_i ia
      rw [if_neg (by omega)] at hgb
      exact hda b hb (by omega) g hga hgb
    · rename_i ia
      split at hgb
      · exact hda a ha (by omega) g hgb hga
      · exact List.pairwise_iff_getElem.1 h.apart a b ha hb hab g hga hgb
  · obtain ⟨h1, h2⟩ := h.marks D hD
    refine (hg.block D (Array.getElem?_eq_some_iff.1 h2).1 (fun e3 => ?_)).trans h2
    obtain ⟨c, t, hc⟩ := Ent.cells (h.all e hmem) e3.symm
    rw [hc] at h2; cases h2
theorem Hp.set (h : Hp w u W L ds) (i o : Nat) (v : Value) {g t : Nat} {s : List Value} (hi : L[i]? = some (.blk g t s)) : Hp w u (W.setCell ⟨g, o, none⟩ v) (L.set i (.blk g t (s.set o v))) ds :=
  h.upd i hi (grownBy_cell W g o v) ((h.blk i hi).set_ o v) (fun _ hg' => .inl hg')
theorem Hp.keep (h : Hp w u W L ds) (hb : Below W.heap.size W X) : Hp w u X L ds :=
  ⟨h.below.trans (hb.mono h.below.size), h.since.trans ⟨hb.size, fun k _ hk _ => (hb.block k (Array.getElem?_eq_some_iff.1 hk).1).trans hk⟩, fun e he => Ent.same (h.all e he) (fun g hg => hb.block g (Ent.lt (h.all e he) hg)), h.low, h.apart,
    fun D hD => ⟨(h.marks D hD).1, (hb.block D (Array.getElem?_eq_some_iff.1 (h.marks D hD).2).1).trans (h.marks D hD).2⟩, h.nodup⟩
theorem Hp.drew (h : Hp w u W L ds) : Hp w u W.drew L ds := h.keep (Below.refl _ _).drew
/-- something new -/
theorem Hp.push (h : Hp w u W L ds) (hb : Below W.heap.size W X) {e : Ent} (he : e.holds W.heap.size X) (hl : ∀ g, e.dst = some g → W.heap.size ≤ g) : Hp w u X (L ++ [e]) ds := by
  have hk := h.keep hb
  refine ⟨hk.below, hk.since, ?_, ?_, ?_, hk.marks, hk.nodup⟩
  · intro e2 he2
    rcases List.mem_append.1 he2 with h1 | h1
    · exact hk.all e2 h1
    · rw [List.mem_singleton] at h1; subst h1; exact Ent.mono he h.below.size
  · intro e2 he2 g hg
    rcases List.mem_append.1 he2 with h1 | h1
    · exact hk.low e2 h1 g hg
    · rw [List.mem_singleton] at h1; subst h1; exact Nat.le_trans h.below.size (hl g hg)
  · rw [List.pairwise_append]
    refine ⟨hk.apart, List.pairwise_singleton _ _, fun a ha b hb' g hga hgb => ?_⟩
    rw [List.mem_singleton] at hb'
    subst hb'
    have := Ent.lt (h.all a ha) hga
    have := hl g hgb
    omega
/-- two new things at once -/
theorem Hp.push2 (h : Hp w u W L ds) (hb : Below W.heap.size W X) {e e' : Ent} (he : e.holds W.heap.size X) (he' : e'.holds W.heap.size X) (hl : ∀ g, e.dst = some g → W.heap.size ≤ g) (hl' : ∀ g, e'.dst = some g → W.heap.size ≤ g) (hne : ∀ g, e.dst = some g → e'.dst ≠ some g) : Hp w u X (L ++ [e, e']) ds := by
  have h1 := h.push hb he hl
  have h2 := h.push hb he' hl'
  refine ⟨h1.below, h1.since, ?_, ?_, ?_, h1.marks, h1.nodup⟩
  · intro e2 h3
    rcases List.mem_append.1 h3 with h3 | h3
    · exact h1.all e2 (List.mem_append_left _ h3)
    · rcases List.mem_cons.1 h3 with rfl | h3
      · exact h1.all _ (by simp)
      · exact h2.all e2 (List.mem_append_right _ h3)
  · intro e2 h3
    rcases List.mem_append.1 h3 with h3 | h3
    · exact h1.low e2 (List.mem_append_left _ h3)
    · rcases List.mem_cons.1 h3 with rfl | h3
      · exact h1.low _ (by simp)
      · exact h2.low e2 (List.mem_append_right _ h3)
  · have a1 := h1.apart
    have a2 := h2.apart
    rw [List.pairwise_append] at a1 a2 ⊢
    refine ⟨a1.1, by simpa using hne, fun a ha b hb' => ?_⟩
    rcases List.mem_cons.1 hb' with rfl | hb'
    · exact a1.2.2 a ha _ (by simp)
    · exact a2.2.2 a ha b hb'
theorem perm_in (F E : List Ent) (b : Ent) : ((F ++ E) ++ [b]).Perm ((F ++ [b]) ++ E) := by
  rw [List.append_assoc, List.append_assoc]; exact List.Perm.append_left F List.perm_append_comm
theorem Hp.pushBlk (h : Hp w u W L ds) (hb : Below W.heap.size W X) {g t : Nat} {s : List Value} (he : Blk X g t s) (hl : W.heap.size ≤ g) : Hp w u X (L ++ [.blk g t s]) ds := h.push hb he (fun _ e => by cases e; exact hl)
theorem Hp.pushRow (h : Hp w u W L ds) (hb : Below W.heap.size W X) {v : Value} {t size n : Nat} {xs : List Value} (he : X.ownsRow W.heap.size t size v n xs) : Hp w u X (L ++ [.row v t size n xs]) ds := h.push (e := .row v t size n xs) hb he (fun g hg => own_ge he g hg)
theorem Hp.alloc (h : Hp w u W L ds) (s : List Value) (t : Nat) : Hp w u (W.alloc (.cells s.toArray t)) (L ++ [.blk W.heap.size t s]) ds :=
  h.pushBlk ((Below.refl _ W).alloc (Nat.le_refl _) _) (blk_new W s t) (Nat.le_refl _)
theorem Hp.alloc0 (h : Hp w u W L ds) (o : Obj) : Hp w u (W.alloc o) L ds := h.keep ((Below.refl _ W).alloc (Nat.le_refl _) _)
/-- a nil slice joins the list -/
theorem Hp.nil (h : Hp w u W L ds) (t size : Nat) : Hp w u W (L ++ [.row (.slice none 0 0) t size 0 []]) ds := h.pushRow (Below.refl _ _) ⟨by simp, .inl ⟨rfl, rfl⟩⟩
/-- a row has grown -/
theorem Hp.grow (h : Hp w u W L ds) (i : Nat) {v v' : Value} {t size n n' : Nat} {xs ys : List Value} (hi : L[i]? = some (.row v t size n xs)) (hg : W.grownBy X v.ownBlock) (ho : X.ownsRow w.heap.size t size v' n' ys) (hat : v'.ownBlock = v.ownBlock ∨ v'.ownBlock = some W.heap.size) :
    Hp w u X (L.set i (.row v' t size n' ys)) ds := by
  refine h.upd i hi hg ho (fun g hg' => ?_)
  have hg' : v'.ownBlock = some g := hg'
  rcases hat with e | e
  · exact .inl (show v.ownBlock = some g from by rw [← e]; exact hg')
  · rw [e] at hg'; cases hg'; exact .inr (Nat.le_refl _)
theorem Hp.form (h : Hp w u W L ds) (i : Nat) {v : Value} {t size n : Nat} {xs : List Value} (hi : L[i]? = some (.row v t size n xs)) : ∃ A c, v = .slice A n c := by
  rcases (h.row i hi).2 with ⟨rfl, rfl⟩ | ⟨g, cap, _, rfl, _⟩
  · exact ⟨none, 0, rfl⟩
  · exact ⟨_, cap, rfl⟩
theorem Hp.at (h : Hp w u W L ds) (i k : Nat) {v : Value} {t size n : Nat} {xs : List Value} {x : Value} (hi : L[i]? = some (.row v t size n xs)) (hk : xs[k]? = some x) :
    ∃ g c, v = .slice (some ⟨g, 0, none⟩) n c ∧ W.cell? ⟨g, k, none⟩ = some x ∧ (∀ o, W.frozen? ⟨g, o, none⟩ = false) ∧ g < W.heap.size := by
  obtain ⟨h1, ⟨_, h2⟩ | ⟨g, cap, cur, rfl, _, h3, _, _, _, h4⟩⟩ := h.row i hi
  · have := (List.getElem?_eq_some_iff.1 hk).1
    rw [h1, h2] at this
    omega
  · refine ⟨g, cap, rfl, ?_, fun o => by simp [World.frozen?, h3], (Array.getElem?_eq_some_iff.1 h3).1⟩
    have hlt := (List.getElem?_eq_some_iff.1 hk).1
    rw [← h4, List.getElem?_take, if_pos (by rw [← h1]; exact hlt)] at hk
    simp [World.cell?, h3] at hk ⊢
    exact hk
/-- a cell of a row is stored into -/
theorem Hp.setRow (h : Hp w u W L ds) (i o : Nat) (v : Value) {g c t size n : Nat} {xs : List Value} (hi : L[i]? = some (.row (.slice (some ⟨g, 0, none⟩) n c) t size n xs)) :
    Hp w u (W.setCell ⟨g, o, none⟩ v) (L.set i (.row (.slice (some ⟨g, 0, none⟩) n c) t size n (xs.set o v))) ds := by
  refine h.upd i hi (grownBy_cell W g o v) ?_ (fun _ hg' => .inl hg')
  obtain ⟨h1, h2⟩ := h.row i hi
  refine ⟨by rw [List.length_set]; exact h1, ?_⟩
  rcases h2 with ⟨h3, _⟩ | ⟨g', cap, cur, h3, h4, h5, h6, h7, h8, h9⟩
  · cases h3
  · injection h3 with h3 _ hc
    injection h3 with h3
    injection h3 with h3
    subst h3 hc
    refine .inr ⟨g, c, cur.setIfInBounds o v, rfl, h4, ?_, h6, h7, by simp [h8], ?_⟩
    · simp [World.setCell, Array.getElem?_modify, h5]
    · rw [Array.toList_setIfInBounds, List.take_set, h9]
/-- a made slice (as long as its block) becomes a block -/
theorem Hp.toBlk (h : Hp w u W L ds) (i : Nat) {g t size n : Nat} {xs : List Value} (hi : L[i]? = some (.row (.slice (some ⟨g, 0, none⟩) n n) t size n xs)) : Hp w u W (L.set i (.blk g t xs)) ds :=
  h.upd i hi ⟨rfl, rfl, rfl, Nat.le_refl _, fun _ _ _ => rfl⟩ (blk_of_own (h.row i hi)).1 (fun _ hg' => .inl hg')
/-- a block becomes a row -/
theorem Hp.toRow (h : Hp w u W L ds) (i n size : Nat) {g t : Nat} {xs : List Value} (hi : L[i]? = some (.blk g t xs)) (hn : xs.length = n * size) (hm : n ≤ maxLen) : Hp w u W (L.set i (.row (.slice (some ⟨g, 0, none⟩) n n) t size n xs)) ds :=
  h.upd i hi ⟨rfl, rfl, rfl, Nat.le_refl _, fun _ _ _ => rfl⟩ ⟨hn, .inr ⟨g, n, xs.toArray, rfl, h.lo i hi, h.blk i hi, Nat.le_refl _, hm, by simp [hn], by simp [← hn]⟩⟩ (fun _ hg' => .inl hg')
theorem Hp.mark (h : Hp w u W L ds) {D : Nat} (hD : W.heap[D]? = some (.deferred (some []))) (h5 : w.heap.size ≤ D) (hn : ∀ E ∈ ds, E < D) : Hp w u W L (D :: ds) := by
  refine ⟨h.below, h.since, h.all, h.low, h.apart, fun E hE => ?_, List.nodup_cons.2 ⟨fun h => by have := hn D h; omega, h.nodup⟩⟩
  rcases List.mem_cons.1 hE with rfl | hE
  · exact ⟨h5, hD⟩
  · exact h.marks E hE
/-- what is no cells may turn -/
theorem Hp.turn (h : Hp w u W L ds) {B : Nat} {row : Option Nat} (hg : W.grownBy X row) (hr : ∀ r, row = some r → B ≤ r ∧ ∃ o : Obj, W.heap[r]? = some o ∧ o.isCells = false) (hB : w.heap.size ≤ B) (hds : ∀ D ∈ ds, D < B) : Hp w X X L ds := by
  refine ⟨h.below.grown hg h.below.size (fun k e => Nat.le_trans hB (hr k e).1), KeepsOthers.refl _, fun e he => Ent.same (h.all e he) (fun g hg' => ?_), h.low, h.apart, fun D hD => ⟨(h.marks D hD).1, ?_⟩, h.nodup⟩
  · refine hg.block g (Ent.lt (h.all e he) hg') (fun e3 => ?_)
    obtain ⟨c, t, hc⟩ := Ent.cells (h.all e he) hg'
    obtain ⟨_, o, ho, hc'⟩ := hr g e3.symm
    rw [hc] at ho; cases ho; cases hc'
  · refine (hg.block D (Array.getElem?_eq_some_iff.1 (h.marks D hD).2).1 (fun e3 => ?_)).trans (h.marks D hD).2
    have := (hr D e3.symm).1
    have := hds D hD
    omega
theorem Hp.since' (h : Hp w u W L ds) (hu : KeepsOthers X u) : Hp w X W L ds := ⟨h.below, hu.trans h.since, h.all, h.low, h.apart, h.marks, h.nodup⟩
end
def marksOf (ds : List Nat) : List Deferred := ds.map fun D => { target := .collected D, args := #[] }
theorem hp_leaves {F : Fence} {n : Nat} {fn : Func} {tmps : Array Value} {R : Ending → World → Prop} {w : World} {L : List Ent} (hE : ∀ X, Hp w X X L [] → LeavesIn F n Tryd.prog fn tmps R [] .returning X) : ∀ (ds : List Nat) (u W : World), Hp w u W L ds → LeavesInM F n Tryd.prog fn tmps R (marksOf ds) .returning W := by
  intro ds
  induction ds with
  | nil => intro u W h; exact hE W h.rebase
  | cons D r ih =>
    intro u W h
    obtain ⟨h1, h2⟩ := h.marks D (by simp)
    have hn' := List.nodup_cons.1 h.nodup
    refine ⟨by simp, .inl ⟨D, _, rfl, run_takeDeferred h2, ?_⟩⟩
    refine ih (W.putObj D (.deferred none)) _ ⟨h.below.trans (belowK_b (w := w) (Nat.le_refl _) W D _ _ h1 h2 rfl rfl), KeepsOthers.refl _, fun e he => Ent.same (h.all e he) (fun g hg => World.putObj_heap_other ?_), h.low, h.apart, fun E hE' => ⟨(h.marks E (by simp [hE'])).1, ?_⟩, hn'.2⟩
    · rintro rfl
      obtain ⟨c, t, hc⟩ := Ent.cells (h.all e he) hg
      rw [hc] at h2; cases h2
    · rw [World.putObj_heap_other (fun e => hn'.1 (by rw [← e]; exact hE'))]
      exact (h.marks E (by simp [hE'])).2

section
variable {α σ : Type} {w W w0 : World} {ds : List Nat} {g : Operand} {ps : Array Tmp} {assign body : Code} {Q : Exit → Act → World → Prop} {a : Act} {n gf : Nat} {lb : Array Value} {encs : α → Array Value} {S Sp : List α → Prop} {N n₀ Bn t0 : Nat} {s0 : List Value}
/-- how the body of a round may be left -/
def hpEnd (w : World) (Lf : σ → List Ent) (ds : List Nat) (R : List α → σ → Prop) (Rx : Code → List α → σ → Prop) (xs : List α) (X : World) : Exit → Act → World → Prop
  | .normal, _, Y => ∃ s, R xs s ∧ Hp w X Y (Lf s) ds
  | .ret, _, Y => ∃ s, Rx .ret xs s ∧ Hp w X Y (Lf s) ds
  | .exit id, _, Y => ∃ s, Rx (.exit id) xs s ∧ Hp w X Y (Lf s) ds
  | .goto t, _, Y => ∃ s, Rx (.goto t) xs s ∧ Hp w X Y (Lf s) ds
  | .panic _, _, _ => False
  | .outgrown, _, _ => False
theorem hp_own {B : Nat} (hB : w.heap.size ≤ B) (hds : ∀ D ∈ ds, D < B) (Lf : σ → List Ent) (R : List α → σ → Prop) : OwnFrom B (fun pre X => ∃ s, R pre s ∧ Hp w X X (Lf s) ds) :=
  fun _ _ _ _ ⟨s, h1, h2⟩ hg hr => ⟨s, h1, h2.turn hg hr hB hds⟩
theorem hp_keep1 {X Y : World} {u : World} {L L' : List Ent} {i : Nat} (hn : n₀ ≤ w.heap.size) (h : Hp w u X L ds) (h' : Hp w X Y L' ds) (hi : L[i]? = some (.blk Bn t0 s0)) (hi' : L'[i]? = some (.blk Bn t0 s0)) : Keep1 n₀ Bn X Y :=
  ⟨⟨h'.below.os.trans h.below.os.symm, h'.below.tape.trans h.below.tape.symm, h'.below.output.trans h.below.output.symm, h'.since.size, fun k hk => (h'.below.block k (by omega)).trans (h.below.block k (by omega)).symm⟩, (h'.blk i hi').trans (h.blk i hi).symm⟩
/-- THE RANGE over a function whose contract speaks of one block, outside every round -/
theorem hp_range (Lf : σ → List Ent) (R : List α → σ → Prop) (Rx : Code → List α → σ → Prop) (iB : Nat) (a₁ : α → Act) (h1 : 1 ≤ n) (hg : a.eval g = .func (.func gf) #[] lb) (eg : ∀ args w, (callFunc gf args).run Tryd.prog w = .ok (.enter gf args) w)
    (hseq : SeqStopsK Fence.wide (n - 1) Tryd.prog gf lb encs (Keep1 n₀ Bn) S Sp N w0) (hw0 : w0 = W) (hn : n₀ ≤ w.heap.size) (hps : ∀ x, (encs x).size = ps.size) {u : World} (s : σ) (h0 : R [] s) (hH : Hp w u W (Lf s) ds) (hiB : ∀ s, (Lf s)[iB]? = some (.blk Bn t0 s0))
    (hassign : ∀ (l : Nat) (x : α) (W : World) (K : Act → World → Prop), K (a₁ x) W → assign.wpIn (Fence.wide.inRound l) (n - 1 - 1) Tryd.prog (Exit.then K (fun _ _ _ => False)) { tmps := (ps.zip (encs x)).foldl (fun t (p, v) => t.setIfInBounds p v) a.tmps, defers := [] } W)
    (hbody : ∀ (l : Nat) (pre : List α) (x : α) (X : World) (s : σ), (∃ r, X.heap[l]? = some (.loop r)) → R pre s → Hp w X X (Lf s) ds → pre.length < N → body.wpIn (Fence.wide.inRound l) (n - 1 - 1) Tryd.prog (hpEnd w Lf ds R Rx (pre ++ [x]) X) (a₁ x) X)
    (hdone : ∀ (D : Nat) (xs : List α) (X : World) (s : σ), S xs → R xs s → Hp w X X (Lf s) (D :: ds) → Q .normal { a with defers := { target := .collected D, args := #[] } :: a.defers } X)
    (hstop : ∀ (D : Nat) (c : Code) (pre : List α) (X : World) (s : σ), Sp pre → Rx c pre s → Hp w X X (Lf s) (D :: ds) → c.wpIn Fence.wide n Tryd.prog Q { a with defers := { target := .collected D, args := #[] } :: a.defers } X) :
    (Code.rangeFunc g ps assign body).wpIn Fence.wide n Tryd.prog Q a W := by
  subst hw0
  have hB := hH.below.size
  have hds : ∀ D ∈ ds, D < w0.heap.size := fun D hD => (Array.getElem?_eq_some_iff.1 (hH.marks D hD).2).1
  have hbn : Bn < w0.heap.size := hH.lt iB (hiB s)
  refine wpIn_rangeFunc_ownH (Kp := Keep1 n₀ Bn) rfl h1 hg trivial eg hseq keep1_t (keep1_b (by omega) hbn) (Below.refl _ _) hps
    (fun pre X => ∃ s, R pre s ∧ Hp w X X (Lf s) ds) (fun c pre X => ∃ s, Rx c pre s ∧ Hp w X X (Lf s) ds) (hp_own hB hds Lf R) (fun c => hp_own hB hds Lf (Rx c)) ⟨s, h0, hH.rebase⟩ (fun x a' _ => a' = a₁ x) (fun x a' _ _ _ _ h _ _ => h)
    ?_ ?_ ?_ ?_
  · rintro l pre x X K hI hK
    exact hassign l x X K (hK _ X (KeepsFrom.refl _ _) ⟨Below.refl _ _, rfl⟩ hI rfl)
  · rintro l pre x a' X hl hrec ⟨s, hR, hX⟩ rfl hlen
    refine wpIn_mono (hbody l pre x X s hrec hR hX hlen) ?_
    intro e a' Y he
    cases e with
    | normal => obtain ⟨s', h2, h3⟩ := he; exact ⟨h3.since.from _, hp_keep1 hn hX h3 (hiB s) (hiB s'), s', h2, h3.rebase⟩
    | ret => obtain ⟨s', h2, h3⟩ := he; exact ⟨h3.since.from _, s', h2, h3.rebase⟩
    | exit id => obtain ⟨s', h2, h3⟩ := he; exact ⟨h3.since.from _, s', h2, h3.rebase⟩
    | goto t => obtain ⟨s', h2, h3⟩ := he; exact ⟨h3.since.from _, s', h2, h3.rebase⟩
    | panic c => exact he.elim
    | outgrown => exact he.elim
  · rintro D xs X hD hS ⟨s, hR, hX⟩ hK
    exact hdone D xs X s hS hR (hX.mark hK (by omega) (fun E hE => by have := hds E hE; omega))
  · rintro D c pre X hD hS ⟨s, hR, hX⟩ hK
    exact hstop D c pre X s hS hR (hX.mark hK (by omega) (fun E hE => by have := hds E hE; omega))
/-- the same within a round -/
theorem hp_rangeN (Lf : σ → List Ent) (R : List α → σ → Prop) (Rx : Code → List α → σ → Prop) (iB : Nat) (a₁ : α → Act) (h1 : 1 ≤ n) {l₀ : Nat} (hl₀ : ∃ r, W.heap[l₀]? = some (.loop r)) (hg : a.eval g = .func (.func gf) #[] lb) (eg : ∀ args w, (callFunc gf args).run Tryd.prog w = .ok (.enter gf args) w)
    (hseq : SeqStopsK Fence.wide (n - 1) Tryd.prog gf lb encs (Keep1 n₀ Bn) S Sp N w0) (hw0 : w0 = W) (hn : n₀ ≤ w.heap.size) (hps : ∀ x, (encs x).size = ps.size) {u : World} (s : σ) (h0 : R [] s) (hH : Hp w u W (Lf s) ds) (hiB : ∀ s, (Lf s)[iB]? = some (.blk Bn t0 s0))
    (hassign : ∀ (l : Nat) (x : α) (W : World) (K : Act → World → Prop), K (a₁ x) W → assign.wpIn (Fence.wide.inRound l) (n - 1 - 1) Tryd.prog (Exit.then K (fun _ _ _ => False)) { tmps := (ps.zip (encs x)).foldl (fun t (p, v) => t.setIfInBounds p v) a.tmps, defers := [] } W)
    (hbody : ∀ (l : Nat) (pre : List α) (x : α) (X : World) (s : σ), (∃ r, X.heap[l]? = some (.loop r)) → R pre s → Hp w X X (Lf s) ds → pre.length < N → body.wpIn (Fence.wide.inRound l) (n - 1 - 1) Tryd.prog (hpEnd w Lf ds R Rx (pre ++ [x]) X) (a₁ x) X)
    (hdone : ∀ (xs : List α) (X : World) (s : σ), S xs → R xs s → Hp w u X (Lf s) ds → Q .normal a X)
    (hstop : ∀ (c : Code) (pre : List α) (X : World) (s : σ), Sp pre → Rx c pre s → Hp w u X (Lf s) ds → c.wpIn (Fence.wide.inRound l₀) n Tryd.prog Q a X) :
    (Code.rangeFunc g ps assign body).wpIn (Fence.wide.inRound l₀) n Tryd.prog Q a W := by
  subst hw0
  obtain ⟨r₀, hr₀⟩ := hl₀
  have hB := hH.below.size
  have hds : ∀ D ∈ ds, D < w0.heap.size := fun D hD => (Array.getElem?_eq_some_iff.1 (hH.marks D hD).2).1
  have hbn : Bn < w0.heap.size := hH.lt iB (hiB s)
  have hK0 := hH.since
  have own2 : ∀ (Rz : List α → σ → Prop), OwnFrom w0.heap.size (fun pre X => ∃ s, Rz pre s ∧ Hp w X X (Lf s) ds ∧ KeepsOthers u X) := by
    rintro Rz pre X Y row ⟨s, h2, h3, h4⟩ hg' hr
    refine ⟨s, h2, h3.turn hg' hr hB hds, Nat.le_trans h4.size hg'.size, fun k o hk ho => ?_⟩
    have hX := h4.same k o hk ho
    refine (hg'.block k (Array.getElem?_eq_some_iff.1 hX).1 (fun e => ?_)).trans hX
    have h5 := (hr k e.symm).1
    have h6 := (Array.getElem?_eq_some_iff.1 hk).1
    have := hK0.size
    omega
  refine wpIn_rangeFunc_ownN (Kp := Keep1 n₀ Bn) (l₀ := l₀) (r₀ := r₀) rfl hr₀ h1 hg trivial eg (hseq.inRound l₀) keep1_t (keep1_b (by omega) hbn) (Below.refl _ _) hps
    (fun pre X => ∃ s, R pre s ∧ Hp w X X (Lf s) ds ∧ KeepsOthers u X) (fun c pre X => ∃ s, Rx c pre s ∧ Hp w X X (Lf s) ds ∧ KeepsOthers u X) (own2 R) (fun c => own2 (Rx c)) ⟨s, h0, hH.rebase, hK0⟩ (fun x a' _ => a' = a₁ x) (fun x a' _ _ _ _ h _ _ => h)
    ?_ ?_ ?_ ?_
  · rintro l pre x X K hI hK
    exact hassign l x X K (hK _ X (KeepsFrom.refl _ _) ⟨Below.refl _ _, rfl⟩ hI rfl)
  · rintro l pre x a' X hl hrec ⟨s, hR, hX, hu⟩ rfl hlen
    refine wpIn_mono (hbody l pre x X s hrec hR hX hlen) ?_
    intro e a' Y he
    cases e with
    | normal => obtain ⟨s', h2, h3⟩ := he; exact ⟨h3.since.from _, hp_keep1 hn hX h3 (hiB s) (hiB s'), s', h2, h3.rebase, hu.trans h3.since⟩
    | ret => obtain ⟨s', h2, h3⟩ := he; exact ⟨h3.since.from _, s', h2, h3.rebase, hu.trans h3.since⟩
    | exit id => obtain ⟨s', h2, h3⟩ := he; exact ⟨h3.since.from _, s', h2, h3.rebase, hu.trans h3.since⟩
    | goto t => obtain ⟨s', h2, h3⟩ := he; exact ⟨h3.since.from _, s', h2, h3.rebase, hu.trans h3.since⟩
    | panic c => exact he.elim
    | outgrown => exact he.elim
  · rintro xs X hS ⟨s, hR, hX, hu⟩
    exact hdone xs X s hS hR (hX.since' hu)
  · rintro c pre X hS ⟨s, hR, hX, hu⟩
    exact hstop c pre X s hS hR (hX.since' hu)
/-- how the body of a round may be left, where nothing changes until the range is left -/
def hpEndC (w : World) (L0 : List Ent) (Lx : σ → List Ent) (ds : List Nat) (R : List α → Prop) (Rx : Code → List α → σ → Prop) (xs : List α) (X : World) : Exit → Act → World → Prop
  | .normal, _, Y => R xs ∧ Hp w X Y L0 ds
  | .ret, _, Y => ∃ s, Rx .ret xs s ∧ Hp w X Y (Lx s) ds
  | .exit id, _, Y => ∃ s, Rx (.exit id) xs s ∧ Hp w X Y (Lx s) ds
  | .goto t, _, Y => ∃ s, Rx (.goto t) xs s ∧ Hp w X Y (Lx s) ds
  | .panic _, _, _ => False
  | .outgrown, _, _ => False
/-- the range whose variable has a box of its own each round, and where nothing but such boxes changes until the range is left -/
theorem hp_rangeC (L0 : List Ent) (R : List α → Prop) (Lx : σ → List Ent) (Rx : Code → List α → σ → Prop) (iB : Nat) (a₁ : α → Nat → Act) (t1 : Nat) (val : α → Value) (h1 : 1 ≤ n) (hg : a.eval g = .func (.func gf) #[] lb) (eg : ∀ args w, (callFunc gf args).run Tryd.prog w = .ok (.enter gf args) w)
    (hseq : SeqStopsK Fence.wide (n - 1) Tryd.prog gf lb encs (Keep1 n₀ Bn) S Sp N w0) (hw0 : w0 = W) (hn : n₀ ≤ w.heap.size) (hps : ∀ x, (encs x).size = ps.size) {u : World} (h0 : R []) (hH : Hp w u W L0 ds) (hiB : L0[iB]? = some (.blk Bn t0 s0))
    (hassign : ∀ (l : Nat) (x : α) (p : Nat) (W : World) (K : Act → World → Prop), p = W.heap.size → K (a₁ x p) (W.alloc (.cells #[val x] t1)) → assign.wpIn (Fence.wide.inRound l) (n - 1 - 1) Tryd.prog (Exit.then K (fun _ _ _ => False)) { tmps := (ps.zip (encs x)).foldl (fun t (p, v) => t.setIfInBounds p v) a.tmps, defers := [] } W)
    (hbody : ∀ (l : Nat) (pre : List α) (x : α) (p : Nat) (X : World), (∃ r, X.heap[l]? = some (.loop r)) → R pre → Hp w X X (L0 ++ [.blk p t1 [val x]]) ds → pre.length < N → body.wpIn (Fence.wide.inRound l) (n - 1 - 1) Tryd.prog (hpEndC w L0 Lx ds R Rx (pre ++ [x]) X) (a₁ x p) X)
    (hdone : ∀ (D : Nat) (xs : List α) (X : World), S xs → R xs → Hp w X X L0 (D :: ds) → Q .normal { a with defers := { target := .collected D, args := #[] } :: a.defers } X)
    (hstop : ∀ (D : Nat) (c : Code) (pre : List α) (X : World) (s : σ), Sp pre → Rx c pre s → Hp w X X (Lx s) (D :: ds) → c.wpIn Fence.wide n Tryd.prog Q { a with defers := { target := .collected D, args := #[] } :: a.defers } X) :
    (Code.rangeFunc g ps assign body).wpIn Fence.wide n Tryd.prog Q a W := by
  subst hw0
  have hB := hH.below.size
  have hds : ∀ D ∈ ds, D < w0.heap.size := fun D hD => (Array.getElem?_eq_some_iff.1 (hH.marks D hD).2).1
  have hbn : Bn < w0.heap.size := hH.lt iB hiB
  have hiB' : ∀ e, (L0 ++ [e])[iB]? = some (.blk Bn t0 s0) := fun e => by rw [List.getElem?_append_left (List.getElem?_eq_some_iff.1 hiB).1]; exact hiB
  refine wpIn_rangeFunc_ownH (Kp := Keep1 n₀ Bn) rfl h1 hg trivial eg hseq keep1_t (keep1_b (by omega) hbn) (Below.refl _ _) hps
    (fun pre X => R pre ∧ Hp w X X L0 ds) (fun c pre X => ∃ s, Rx c pre s ∧ Hp w X X (Lx s) ds) (fun _ _ _ _ ⟨h2, h3⟩ hg hr => ⟨h2, h3.turn hg hr hB hds⟩) (fun c => hp_own hB hds Lx (Rx c)) ⟨h0, hH.rebase⟩
    (fun x a' X => ∃ p, a' = a₁ x p ∧ Hp w X X (L0 ++ [.blk p t1 [val x]]) ds) (fun x a' _ _ _ _ ⟨p, h2, h3⟩ hg hr => ⟨p, h2, h3.turn hg hr hB hds⟩)
    ?_ ?_ ?_ ?_
  · rintro l pre x X K ⟨hR, hX⟩ hK
    refine hassign l x _ X K rfl (hK _ _ ((KeepsOthers.alloc X _).from _) ⟨((Below.refl _ X).alloc (Nat.le_refl _) _).mono (by have := hX.below.size; omega), Below.heap_alloc _ _ _ (hX.lt iB hiB)⟩ ⟨hR, (hX.alloc0 _).rebase⟩ ⟨_, rfl, (hX.alloc [val x] t1).rebase⟩)
  · rintro l pre x a' X hl hrec ⟨hR, _⟩ ⟨p, rfl, hX⟩ hlen
    refine wpIn_mono (hbody l pre x p X hrec hR hX hlen) ?_
    intro e a' Y he
    cases e with
    | normal => obtain ⟨h2, h3⟩ := he; exact ⟨h3.since.from _, hp_keep1 hn hX h3 (hiB' _) hiB, h2, h3.rebase⟩
    | ret => obtain ⟨s', h2, h3⟩ := he; exact ⟨h3.since.from _, s', h2, h3.rebase⟩
    | exit id => obtain ⟨s', h2, h3⟩ := he; exact ⟨h3.since.from _, s', h2, h3.rebase⟩
    | goto t => obtain ⟨s', h2, h3⟩ := he; exact ⟨h3.since.from _, s', h2, h3.rebase⟩
    | panic c => exact he.elim
    | outgrown => exact he.elim
  · rintro D xs X hD hS ⟨hR, hX⟩ hK
    exact hdone D xs X hS hR (hX.mark hK (by omega) (fun E hE => by have := hds E hE; omega))
  · rintro D c pre X hD hS ⟨s, hR, hX⟩ hK
    exact hstop D c pre X s hS hR (hX.mark hK (by omega) (fun E hE => by have := hds E hE; omega))
end
end Go.Proofs.YtpaakgngoocjeaaDoor

/- append(a row of one's own, a row of structs), whatever the second row's address. -/
namespace Go.Proofs.YtpaakgngoocjeaaDoor
open Go.RowKit

theorem flat_lenR {α : Type} (sz : Nat) (f : α → Nat → Value) (ys : List α) : (flat sz f ys).length = ys.length * sz := by
  induction ys with
  | nil => simp [flat]
  | cons y ys ih =>
    have : flat sz f (y :: ys) = (List.range sz).map (f y) ++ flat sz f ys := rfl
    rw [this, List.length_append, ih, List.length_cons, Nat.succ_mul]; simp; omega
section
variable {P : Program}
theorem run_append_rowR {α : Type} {sz : Nat} {f : α → Nat → Value} (hsz : 0 < sz) (hf : ∀ a j, j < sz → (f a j).oneCell' = true) (w : World) (base : Nat) (t ty e : TypeId) (i : TypeInfo) (z : Value) (bytes : Nat) (ht : P.underlying t = some (.slice e)) (hi : P.info? e = some i) (hz : i.zero = some z)
    (hsize : i.size = sz) (hby : i.bytes = bytes) (hzs : z.cells.size = sz) (v : Value) (n : Nat) (xs : List Value) (hown : w.ownsRow base e sz v n xs) (A : Option Addr) (m c : Nat) (ys : List α) (D : Nat) (hy : RowS sz f w D A m ys)
    (h63 : n + m ≤ maxLen) (hbytes : (n + m) * bytes ≤ 140737488355328) (hbase : base ≤ w.heap.size) :
    ∃ v' w', (Builtin.append_ #[t, t] ty #[v, .slice A m c]).run P w = .ok v' w' ∧ w'.ownsRow base e sz v' (n + m) (xs ++ flat sz f ys) ∧ w.grownBy w' v.ownBlock ∧ (v'.ownBlock = v.ownBlock ∨ v'.ownBlock = some w.heap.size) := by
  cases A with
  | none =>
    have hn0 : m = 0 := by
      rcases Nat.eq_zero_or_pos m with h | h
      · exact h
      · obtain ⟨_, _, h1, _⟩ := hy.2 h; cases h1
    have hxs : ys = [] := List.eq_nil_of_length_eq_zero (by have := hy.1; omega)
    subst hn0 hxs
    refine ⟨v, w, ?_, by simpa [flat] using hown, ⟨rfl, rfl, rfl, Nat.le_refl _, fun _ _ _ => rfl⟩, .inl rfl⟩
    rcases hown.2 with ⟨rfl, rfl⟩ | ⟨g, cap, cur, rfl, hbg, hg, hnc, hcm, hcs, htake⟩
    · simp [Builtin.append_, run_underlying ht, sizeOf, typeInfo, hi, Builtin.lenOf, Builtin.firstCells]
    · simp [Builtin.append_, run_underlying ht, sizeOf, typeInfo, hi, Builtin.lenOf, Builtin.firstCells, loadCells, storeCells, hnc]
  | some ad =>
    have hlen := hy.1
    have hcells : ∀ j u, (flat sz f ys)[j]? = some u → w.cell? (ad.add j) = some u := by
      intro j u hu
      have hj := (List.getElem?_eq_some_iff.1 hu).1
      rw [flat_lenR, hlen] at hj
      have hm : 0 < m := by
        rcases Nat.eq_zero_or_pos m with h | h
        · subst h; simp at hj
        · exact h
      obtain ⟨b, off, h1, _, h3⟩ := hy.2 hm
      injection h1 with h1
      subst h1
      have hk : j / sz < ys.length := by rw [hlen]; exact Nat.div_lt_of_lt_mul (by rw [Nat.mul_comm]; exact hj)
      have hx := List.getElem?_eq_getElem hk
      have hj' : j / sz * sz + j % sz = j := by rw [Nat.mul_comm]; exact Nat.div_add_mod j sz
      have h4 := h3 (j / sz) _ hx (j % sz) (Nat.mod_lt _ hsz)
      have h5 := flat_at sz f ys (j / sz) _ hx (j % sz) (Nat.mod_lt _ hsz)
      rw [hj', hu] at h5
      rw [Nat.add_assoc, hj', ← h5] at h4
      unfold Addr.add
      by_cases hj0 : j = 0
      · subst hj0; simpa using h4
      · rw [if_neg hj0]; exact h4
    obtain ⟨v', w', hr, h2, h3, _, h5⟩ := run_append_own_at (P := P) w base t ty e i z sz bytes ht hi hz hsize hby hzs hsz v n xs hown ad m c (flat sz f ys) (by rw [flat_lenR, hlen]) hcells
      (by
        intro u hu
        obtain ⟨y, _, hy2⟩ := List.mem_flatMap.1 hu
        obtain ⟨j, hj, rfl⟩ := List.mem_map.1 hy2
        exact hf y j (List.mem_range.1 hj)) h63 hbytes hbase
    exact ⟨v', w', hr, h2, h3, h5⟩
theorem wpList_append_rowR {w : World} {ops : Array Oper} {rest : List Oper} {o : Oper} {a : Act} {Q : Exit → Act → World → Prop} (hgd : o.guard = none) (s x : Operand) (t : TypeId)
    (ho : o.op = .call { callee := .builtin .append, args := #[s, x], argTypes := #[t, t] })
    {α : Type} {sz : Nat} {f : α → Nat → Value} (hsz : 0 < sz) (hf : ∀ a j, j < sz → (f a j).oneCell' = true) (base : Nat) (e : TypeId) (i : TypeInfo) (z : Value) (bytes : Nat) (ht : P.underlying t = some (.slice e)) (hi : P.info? e = some i) (hz : i.zero = some z)
    (hsize : i.size = sz) (hby : i.bytes = bytes) (hzs : z.cells.size = sz)
    (v : Value) (n : Nat) (xs : List Value) (hs : a.eval s = v) (hown : w.ownsRow base e sz v n xs) (A : Option Addr) (m c : Nat) (ys : List α) (D : Nat) (hx : a.eval x = .slice A m c) (hy : RowS sz f w D A m ys)
    (h63 : n + m ≤ maxLen) (hbytes : (n + m) * bytes ≤ 140737488355328) (hbase : base ≤ w.heap.size)
    (h : ∀ v' w', w'.ownsRow base e sz v' (n + m) (xs ++ flat sz f ys) → w.grownBy w' v.ownBlock → (v'.ownBlock = v.ownBlock ∨ v'.ownBlock = some w.heap.size) → wpList P ops Q rest (a.put o.dst v') w') :
    wpList P ops Q (o :: rest) a w := by
  refine wpList_plain hgd fun K hK => ?_
  obtain ⟨v', w', hr, h2, h3, h5⟩ := run_append_rowR (P := P) hsz hf w base t o.type e i z bytes ht hi hz hsize hby hzs v n xs hown A m c ys D hy h63 hbytes hbase
  unfold Oper.wp execOp
  simp only [ho, resolve, invoke, builtin, Sem.run_bind, Sem.run_pure, Result.andThen_ok, List.map_toArray, List.map_cons, List.map_nil, hs, hx, hr]
  exact hK _ _ (h v' w' h2 h3 h5)
end
theorem cells_newR (w : World) (cs : List Value) (t : TypeId) : ∀ (j : Nat) (u : Value), cs[j]? = some u → (w.alloc (.cells cs.toArray t)).cell? ((⟨w.heap.size, 0, none⟩ : Addr).add j) = some u := by
  intro j u h
  have h0 := (blk_new w cs t).cell h
  unfold Addr.add
  by_cases hj : j = 0
  · subst hj; simpa using h0
  · rw [if_neg hj]; simpa using h0
/-- two blocks are turned at once -/
theorem Hp.upd2 {w u W X : World} {L : List Ent} {ds : List Nat} (h : Hp w u W L ds) (i j : Nat) (hij : i ≠ j) {g1 t1 t1' g2 t2 t2' : Nat} {s1 s2 s1' s2' : List Value} (hi : L[i]? = some (.blk g1 t1 s1)) (hj : L[j]? = some (.blk g2 t2 s2))
    (hos : X.os = W.os ∧ X.tape = W.tape ∧ X.output = W.output) (hsz : W.heap.size ≤ X.heap.size) (hb : ∀ k, k < W.heap.size → k ≠ g1 → k ≠ g2 → X.heap[k]? = W.heap[k]?) (h1 : Blk X g1 t1' s1') (h2 : Blk X g2 t2' s2') :
    Hp w u X ((L.set i (.blk g1 t1' s1')).set j (.blk g2 t2' s2')) ds := by
  have hg1 := h.lo i hi
  have hg2 := h.lo j hj
  have hl1 := h.lt i hi
  have hl2 := h.lt j hj
  have hne : g1 ≠ g2 := fun e => h.ne i j hi hj hij rfl (by rw [e]; rfl)
  -- first the block g1 alone: a world between
  obtain ⟨Y, hY⟩ : ∃ Y : World, Y = { W with heap := W.heap.modify g1 fun _ => .cells s1'.toArray t1' } := ⟨_, rfl⟩
  have hYb : ∀ k, k ≠ g1 → Y.heap[k]? = W.heap[k]? := by
    intro k hk
    rw [hY]
    simp only [Array.getElem?_modify]
    rw [if_neg (fun e => hk e.symm)]
  have hYs : Y.heap.size = W.heap.size := by rw [hY]; simp
  have hY1 : Blk Y g1 t1' s1' := by
    unfold Blk
    rw [hY]
    simp only [Array.getElem?_modify, if_true]
    have : W.heap[g1]? = some (.cells s1.toArray t1 (0, 0)) := h.blk i hi
    rw [this]
    rfl
  have hA := h.upd (X := Y) i hi ⟨by rw [hY], by rw [hY], by rw [hY], by rw [hYs]; exact Nat.le_refl _, fun k _ hk => hYb k (fun e => hk (by rw [e]; rfl))⟩ (e' := .blk g1 t1' s1') hY1 (fun _ e => .inl e)
  have hj' : (L.set i (.blk g1 t1' s1'))[j]? = some (.blk g2 t2 s2) := by rw [List.getElem?_set_ne hij]; exact hj
  refine hA.upd (X := X) j hj' ⟨by rw [hos.1, hY], by rw [hos.2.1, hY], by rw [hos.2.2, hY], by rw [hYs]; exact hsz, fun k hk hne2 => ?_⟩ (e' := .blk g2 t2' s2') h2 (fun _ e => .inl e)
  by_cases hk1 : k = g1
  · subst hk1
    exact (show X.heap[k]? = _ from h1).trans hY1.symm
  · rw [hYb k hk1]
    exact hb k (by omega) hk1 (fun e => hne2 (by rw [e]; rfl))
end Go.Proofs.YtpaakgngoocjeaaDoor

/- The reference's Add where it adds an arc. -/
namespace Go.Proofs.YtpaakgngoocjeaaDoor
open Go.RowKit

theorem arc_info : (Tryd.prog.info? 31).map (fun i => (i.zero, i.size, i.bytes)) = some (some (.agg #[.int .i64 0, .int .i64 0]), 2, 16) := by kernel_rfl
theorem arcV_one (a : Int × Int) (j : Nat) (_ : j < 2) : (arcV a j).oneCell' = true := rfl
theorem flat_arc (l : List (Int × Int)) (a b : Int) : flat 2 arcV l ++ [.int .i64 a, .int .i64 b] = flat 2 arcV (l ++ [(a, b)]) := by rw [flat_snoc]; rfl
set_option maxRecDepth 100000 in
set_option maxHeartbeats 1000000 in
theorem radd_ok (N : Nat) (A : Option Addr) (n c : Nat) (a b : Int) (w : World) (l : List (Int × Int)) (hn : n ≤ 100000) (hl : RowS 2 arcV w w.heap.size A n l) (ha : 0 ≤ a ∧ a < (N : Int)) (hb : 0 ≤ b ∧ b < (N : Int)) (hab : a ≠ b) (hh : hasA l a b = false) :
    Calls Tryd.prog 13 #[.int .i64 N, .slice A n c, .int .i64 a, .int .i64 b] w fun e w' => ∃ v, e = .returned (.tuple #[v, .int .i64 0]) ∧ w'.ownsRow w.heap.size 31 2 v (n + 1) (flat 2 arcV (l ++ [(a, b)])) ∧ Below w.heap.size w w' := by
  obtain ⟨i0, hi, hz0, hz1, hz2⟩ := info_parts arc_info
  have HH := rhas_any A n c a b w _ l hn hl
  rw [hh] at HH
  have HH := Lib.hid HH
  have hP0 := (Hp.start w).alloc [] 31
  have HP0 := Lib.hid (hP0.toRow 0 0 2 rfl rfl (by decide))
  have HL := Lib.hid hl
  have d1 : decide (a < 0) = false := decide_eq_false (by omega)
  have d2 : decide ((N : Int) ≤ a) = false := decide_eq_false (by omega)
  have d3 : decide (b < 0) = false := decide_eq_false (by omega)
  have d4 : decide ((N : Int) ≤ b) = false := decide_eq_false (by omega)
  have d5 : (a == b) = false := by simpa using hab
  clear hl hh ha hb hab hP0
  go_enter Tryd.func13, Tryd.ntmps13
  go_wp2_with fail
  refine HH.out.mono ?_
  rintro e w1 ⟨rfl, rfl⟩
  go_wp2_with (at_builtin; first
    | (refine wpList_append_rowR rfl _ _ 22 rfl (by decide) arcV_one w.heap.size 31 i0 (.agg #[.int .i64 0, .int .i64 0]) 16 Tryd.underlying22 hi hz0 hz1 hz2 rfl _ 0 _ rfl (HP0.out.row 0 rfl) A n c l _ rfl (HL.out.below ((Below.refl _ w).alloc (Nat.le_refl _) _)) (by unfold maxLen; omega) (by omega) (by simp) ?_; intro v1 w3 hown hgrow hat; rw [Nat.zero_add, List.nil_append] at hown; have HP1 := Lib.hid (HP0.out.grow 0 rfl hgrow hown hat); obtain ⟨A1, cp1, rfl⟩ := HP1.out.form 0 rfl; clear hown hgrow hat)
    | (refine wpList_append_own_at _ rfl _ _ 22 rfl w.heap.size 31 i0 (.agg #[.int .i64 0, .int .i64 0]) 2 16 Tryd.underlying22 hi hz0 hz1 hz2 rfl (by decide) _ _ _ rfl ((HP1.out.row 0 rfl).alloc _) ⟨w3.heap.size, 0, none⟩ 1 1 [.int .i64 a, .int .i64 b] rfl rfl (cells_newR w3 [.int .i64 a, .int .i64 b] 31) (by simp [Value.oneCell']) (by unfold maxLen; omega) (by omega) (by have := HP1.out.below.size; simp; omega) ?_; intro v2 w4 hown hgrow _ hat; have HP2 := Lib.hid ((HP1.out.alloc0 _).grow 0 rfl hgrow hown hat); obtain ⟨A2, cp2, rfl⟩ := HP2.out.form 0 rfl; clear hown hgrow hat))
  refine bodyPost_ret (v := .tuple #[.slice A2 (n + 1) cp2, .int .i64 0]) (by simp [results, Tryd.results13, go_sem]) rfl ⟨_, rfl, ?_, HP2.out.below⟩
  have h1 := HP2.out.row 0 rfl
  rw [flat_arc] at h1
  exact h1
end Go.Proofs.YtpaakgngoocjeaaDoor

/- A directed graph in memory; the contracts of New, valid, has, Has, Len, Arcs, Next and Add of digraph. -/
namespace Go.Proofs.YtpaakgngoocjeaaDoor
open Go.RowKit

/-- the cells of a list of sets -/
def rowC (S : List Nat) : List Value := flat 8 sC S
theorem rowC_cons (x : Nat) (r : List Nat) : rowC (x :: r) = sL x ++ rowC r := rfl
theorem rowC_len (S : List Nat) : (rowC S).length = S.length * 8 := by
  induction S with
  | nil => rfl
  | cons x r ih => rw [rowC_cons, List.length_append, ih, List.length_cons]; simp [sL]; omega
theorem rowC_at {S : List Nat} {k x : Nat} (h : S[k]? = some x) {j : Nat} (hj : j < 8) : (rowC S)[k * 8 + j]? = some (sC x j) := flat_at 8 sC S k x h j hj
/-- storing a set at an offset -/
def setAt (W : World) (g o S : Nat) : World :=
  (((((((W.setCell ⟨g, o, none⟩ (.int .u64 (wd S 0))).setCell ⟨g, o + 1, none⟩ (.int .u64 (wd S 1))).setCell ⟨g, o + 2, none⟩ (.int .u64 (wd S 2))).setCell ⟨g, o + 3, none⟩ (.int .u64 (wd S 3))).setCell ⟨g, o + 4, none⟩ (.int .u64 (wd S 4))).setCell ⟨g, o + 5, none⟩ (.int .u64 (wd S 5))).setCell ⟨g, o + 6, none⟩ (.int .u64 (wd S 6))).setCell ⟨g, o + 7, none⟩ (.int .u64 (wd S 7))
theorem rowC_set : ∀ (S : List Nat) (k T x : Nat), S[k]? = some x →
    ((((((((rowC S).set (k * 8) (.int .u64 (wd T 0))).set (k * 8 + 1) (.int .u64 (wd T 1))).set (k * 8 + 2) (.int .u64 (wd T 2))).set (k * 8 + 3) (.int .u64 (wd T 3))).set (k * 8 + 4) (.int .u64 (wd T 4))).set (k * 8 + 5) (.int .u64 (wd T 5))).set (k * 8 + 6) (.int .u64 (wd T 6))).set (k * 8 + 7) (.int .u64 (wd T 7)) = rowC (S.set k T) := by
  intro S
  induction S with
  | nil => intro k T x h; simp at h
  | cons y r ih =>
    intro k T x h
    cases k with
    | zero => rw [List.set_cons_zero, rowC_cons, rowC_cons]; simp [sL]
    | succ k =>
      simp at h
      rw [List.set_cons_succ, rowC_cons, rowC_cons, ← ih k T x h]
      have e : ∀ (l : List Value) (j : Nat) (v : Value), (sL y ++ l).set ((k + 1) * 8 + j) v = sL y ++ l.set (k * 8 + j) v := by
        intro l j v
        rw [List.set_append_right _ _ (by simp [sL]; omega)]
        congr 2
        simp [sL]; omega
      have e0 : ∀ (l : List Value) (v : Value), (sL y ++ l).set ((k + 1) * 8) v = sL y ++ l.set (k * 8) v := fun l v => e l 0 v
      rw [e0, e, e, e, e, e, e, e]
theorem rowE_set (S : List Nat) (ext : List Value) (k T x : Nat) (h : S[k]? = some x) :
    ((((((((rowC S ++ ext).set (k * 8) (.int .u64 (wd T 0))).set (k * 8 + 1) (.int .u64 (wd T 1))).set (k * 8 + 2) (.int .u64 (wd T 2))).set (k * 8 + 3) (.int .u64 (wd T 3))).set (k * 8 + 4) (.int .u64 (wd T 4))).set (k * 8 + 5) (.int .u64 (wd T 5))).set (k * 8 + 6) (.int .u64 (wd T 6))).set (k * 8 + 7) (.int .u64 (wd T 7)) = rowC (S.set k T) ++ ext := by
  have hk : k < S.length := (List.getElem?_eq_some_iff.1 h).1
  have e : ∀ (l : List Value) (j : Nat) (v : Value), l.length = S.length * 8 → j < 8 → (l ++ ext).set (k * 8 + j) v = l.set (k * 8 + j) v ++ ext := by
    intro l j v hl hj
    rw [List.set_append_left _ _ (by omega)]
  have e0 : ∀ (l : List Value) (v : Value), l.length = S.length * 8 → (l ++ ext).set (k * 8) v = l.set (k * 8) v ++ ext := fun l v hl => e l 0 v hl (by decide)
  have hl := rowC_len S
  rw [e0 _ _ hl, e _ _ _ (by simp [hl]) (by decide), e _ _ _ (by simp [hl]) (by decide), e _ _ _ (by simp [hl]) (by decide), e _ _ _ (by simp [hl]) (by decide), e _ _ _ (by simp [hl]) (by decide), e _ _ _ (by simp [hl]) (by decide), e _ _ _ (by simp [hl]) (by decide), rowC_set S k T x h]
theorem Blk.setRow {W : World} {g t k T x : Nat} {ext : List Value} {S : List Nat} (h : Blk W g t (rowC S ++ ext)) (hk : S[k]? = some x) : Blk (setAt W g (k * 8) T) g t (rowC (S.set k T) ++ ext) := by
  rw [← rowE_set S ext k T x hk]
  unfold setAt
  exact (((((((h.set_ (k * 8) (.int .u64 (wd T 0))).set_ (k * 8 + 1) (.int .u64 (wd T 1))).set_ (k * 8 + 2) (.int .u64 (wd T 2))).set_ (k * 8 + 3) (.int .u64 (wd T 3))).set_ (k * 8 + 4) (.int .u64 (wd T 4))).set_ (k * 8 + 5) (.int .u64 (wd T 5))).set_ (k * 8 + 6) (.int .u64 (wd T 6))).set_ (k * 8 + 7) (.int .u64 (wd T 7))
theorem Blk.otherAt {W : World} {g t g' o T : Nat} {s : List Value} (h : Blk W g t s) (hne : g' ≠ g) : Blk (setAt W g' o T) g t s := by
  unfold setAt
  exact (((((((h.other _ _ hne).other _ _ hne).other _ _ hne).other _ _ hne).other _ _ hne).other _ _ hne).other _ _ hne).other _ _ hne
theorem grown_setAt (W : World) (g o T : Nat) : W.grownBy (setAt W g o T) (some g) := by
  unfold setAt
  have h : ∀ (X : World) (i : Nat) (v : Value), W.grownBy X (some g) → W.grownBy (X.setCell ⟨g, i, none⟩ v) (some g) := by
    intro X i v hX
    refine ⟨hX.os, hX.tape, hX.output, by simpa using hX.size, fun k hk hne => ?_⟩
    rw [Below.heap_setCell _ _ _ _ (fun e => hne (by rw [e]))]
    exact hX.block k hk hne
  exact h _ _ _ (h _ _ _ (h _ _ _ (h _ _ _ (h _ _ _ (h _ _ _ (h _ _ _ (h _ _ _ ⟨rfl, rfl, rfl, Nat.le_refl _, fun _ _ _ => rfl⟩)))))))

/-- a directed graph: its box, the block of its rows -/
def GAt (w : World) (gb rb cap : Nat) (ext : List Value) (S : List Nat) (arcs : Int) : Prop :=
  Blk w gb 67 [.bool true, .slice (some ⟨rb, 0, none⟩) S.length cap, .int .i64 arcs] ∧ Blk w rb 40 (rowC S ++ ext) ∧ (∀ x ∈ S, Fit x) ∧ S.length ≤ 512
theorem GAt.keep {w w' : World} {gb rb cap : Nat} {ext : List Value} {S : List Nat} {arcs : Int} (h : GAt w gb rb cap ext S arcs) (hb : Below w.heap.size w w') : GAt w' gb rb cap ext S arcs := ⟨h.1.keep hb, h.2.1.keep hb, h.2.2⟩
theorem GAt.ne {w : World} {gb rb cap : Nat} {ext : List Value} {S : List Nat} {arcs : Int} (h : GAt w gb rb cap ext S arcs) : gb ≠ rb := by
  rintro rfl
  have h1 := h.1
  have h2 := h.2.1
  unfold Blk at h1 h2
  rw [h1] at h2
  simp at h2
theorem GAt.cells {w : World} {gb rb cap : Nat} {ext : List Value} {S : List Nat} {arcs : Int} (h : GAt w gb rb cap ext S arcs) : w.cell? ⟨gb, 0, none⟩ = some (.bool true) ∧ w.cell? ⟨gb, 1, none⟩ = some (.slice (some ⟨rb, 0, none⟩) S.length cap) ∧ w.cell? ⟨gb, 2, none⟩ = some (.int .i64 arcs) ∧ gb < w.heap.size :=
  ⟨h.1.cell rfl, h.1.cell rfl, h.1.cell rfl, h.1.lt⟩
theorem rowE_at {S : List Nat} {ext : List Value} {k x : Nat} (h : S[k]? = some x) {j : Nat} (hj : j < 8) : (rowC S ++ ext)[k * 8 + j]? = some (sC x j) := by
  have h1 := rowC_at h hj
  rw [List.getElem?_append_left (List.getElem?_eq_some_iff.1 h1).1]
  exact h1
theorem row_cells {w : World} {rb t k x : Nat} {ext : List Value} {S : List Nat} (h : Blk w rb t (rowC S ++ ext)) (hk : S[k]? = some x) :
    w.cell? ⟨rb, k * 8, none⟩ = some (.int .u64 (wd x 0)) ∧ w.cell? ⟨rb, k * 8 + 1, none⟩ = some (.int .u64 (wd x 1)) ∧ w.cell? ⟨rb, k * 8 + 2, none⟩ = some (.int .u64 (wd x 2)) ∧ w.cell? ⟨rb, k * 8 + 3, none⟩ = some (.int .u64 (wd x 3)) ∧
    w.cell? ⟨rb, k * 8 + 4, none⟩ = some (.int .u64 (wd x 4)) ∧ w.cell? ⟨rb, k * 8 + 5, none⟩ = some (.int .u64 (wd x 5)) ∧ w.cell? ⟨rb, k * 8 + 6, none⟩ = some (.int .u64 (wd x 6)) ∧ w.cell? ⟨rb, k * 8 + 7, none⟩ = some (.int .u64 (wd x 7)) ∧ rb < w.heap.size :=
  ⟨h.cell (rowE_at hk (j := 0) (by decide)), h.cell (rowE_at hk (j := 1) (by decide)), h.cell (rowE_at hk (j := 2) (by decide)), h.cell (rowE_at hk (j := 3) (by decide)), h.cell (rowE_at hk (j := 4) (by decide)), h.cell (rowE_at hk (j := 5) (by decide)), h.cell (rowE_at hk (j := 6) (by decide)), h.cell (rowE_at hk (j := 7) (by decide)), h.lt⟩
def gptr (gb : Nat) : Value := .pointer (some ⟨gb, 0, none⟩)

theorem gvalid_any {gb rb cap : Nat} {ext : List Value} {S : List Nat} {arcs : Int} (w : World) (h : GAt w gb rb cap ext S arcs) : Calls Tryd.prog 41 #[.pointer (some ⟨gb, 0, none⟩)] w fun e w' => e = .returned (.bool true) ∧ w = w' := by
  obtain ⟨c0, _, _, c3⟩ := h.cells
  clear h
  go_enter Tryd.func41, Tryd.ntmps41
  go_wp2_with fail
  go_ret
  exact ⟨rfl, rfl⟩
/-- no graph: nil, or a zero value -/
def NoG (w : World) (p : Value) : Prop := p = .pointer none ∨ ∃ gb, p = .pointer (some ⟨gb, 0, none⟩) ∧ w.cell? ⟨gb, 0, none⟩ = some (.bool false) ∧ gb < w.heap.size
theorem NoG.keep {w w' : World} {p : Value} (h : NoG w p) (hb : Below w.heap.size w w') : NoG w' p := by
  rcases h with h | ⟨gb, h1, h2, h3⟩
  · exact .inl h
  · exact .inr ⟨gb, h1, (hb.cell (p := ⟨gb, 0, none⟩) h3).trans h2, Nat.lt_of_lt_of_le h3 hb.size⟩
theorem gvalid_no (p : Value) (w : World) (h : NoG w p) : Calls Tryd.prog 41 #[p] w fun e w' => e = .returned (.bool false) ∧ w = w' := by
  rcases h with rfl | ⟨gb, rfl, h2, h3⟩
  · go_enter Tryd.func41, Tryd.ntmps41
    go_wp2_with fail
    go_ret
    exact ⟨rfl, rfl⟩
  · go_enter Tryd.func41, Tryd.ntmps41
    go_wp2_with fail
    go_ret
    exact ⟨rfl, rfl⟩

theorem ghas_any {gb rb cap : Nat} {ext : List Value} {S : List Nat} {arcs : Int} (v : Int) (w : World) (h : GAt w gb rb cap ext S arcs) : Calls Tryd.prog 42 #[.pointer (some ⟨gb, 0, none⟩), .int .i64 v] w fun e w' => e = .returned (.bool (decide (0 ≤ v ∧ v < (S.length : Int)))) ∧ w = w' := by
  have HV := Lib.hid (gvalid_any w h)
  obtain ⟨_, c1, _, c3⟩ := h.cells
  clear h
  by_cases h0 : 0 ≤ v
  · have d0 : decide (0 ≤ v) = true := decide_eq_true h0
    have HR : Eqn (decide (0 ≤ v ∧ v < (S.length : Int))) (decide (v < (S.length : Int))) := by rw [Eqn]; simp [h0]
    rw [HR.out]
    clear h0
    go_enter Tryd.func42, Tryd.ntmps42
    go_wp2_with fail
    refine HV.out.mono ?_
    rintro e w1 ⟨rfl, rfl⟩
    go_wp2_with fail
    go_ret
    exact ⟨ret_bool (by first | rfl | simp), rfl⟩
  · have d0 : decide (0 ≤ v) = false := decide_eq_false h0
    have HR : Eqn (decide (0 ≤ v ∧ v < (S.length : Int))) false := by rw [Eqn]; simp [h0]
    rw [HR.out]
    clear h0
    go_enter Tryd.func42, Tryd.ntmps42
    go_wp2_with fail
    refine HV.out.mono ?_
    rintro e w1 ⟨rfl, rfl⟩
    go_wp2_with fail
    go_ret
    exact ⟨rfl, rfl⟩
theorem ghas_no (p : Value) (v : Int) (w : World) (h : NoG w p) : Calls Tryd.prog 42 #[p, .int .i64 v] w fun e w' => e = .returned (.bool false) ∧ w = w' := by
  have HV := Lib.hid (gvalid_no p w h)
  clear h
  go_enter Tryd.func42, Tryd.ntmps42
  go_wp2_with fail
  refine HV.out.mono ?_
  rintro e w1 ⟨rfl, rfl⟩
  go_wp2_with fail
  go_ret
  exact ⟨rfl, rfl⟩
theorem glen_any {gb rb cap : Nat} {ext : List Value} {S : List Nat} {arcs : Int} (w : World) (h : GAt w gb rb cap ext S arcs) : Calls Tryd.prog 15 #[.pointer (some ⟨gb, 0, none⟩)] w fun e w' => e = .returned (.int .i64 S.length) ∧ w = w' := by
  have HV := Lib.hid (gvalid_any w h)
  obtain ⟨_, c1, _, c3⟩ := h.cells
  clear h
  go_enter Tryd.func15, Tryd.ntmps15
  go_wp2_with fail
  refine HV.out.mono ?_
  rintro e w1 ⟨rfl, rfl⟩
  go_wp2_with fail
  go_ret
  exact ⟨rfl, rfl⟩
theorem garcs_any {gb rb cap : Nat} {ext : List Value} {S : List Nat} {arcs : Int} (w : World) (h : GAt w gb rb cap ext S arcs) : Calls Tryd.prog 16 #[.pointer (some ⟨gb, 0, none⟩)] w fun e w' => e = .returned (.int .i64 arcs) ∧ w = w' := by
  have HV := Lib.hid (gvalid_any w h)
  obtain ⟨_, _, c2, c3⟩ := h.cells
  clear h
  go_enter Tryd.func16, Tryd.ntmps16
  go_wp2_with fail
  refine HV.out.mono ?_
  rintro e w1 ⟨rfl, rfl⟩
  go_wp2_with fail
  go_ret
  exact ⟨rfl, rfl⟩
theorem glen_no (p : Value) (w : World) (h : NoG w p) : Calls Tryd.prog 15 #[p] w fun e w' => e = .returned (.int .i64 0) ∧ w = w' := by
  have HV := Lib.hid (gvalid_no p w h)
  clear h
  go_enter Tryd.func15, Tryd.ntmps15
  go_wp2_with fail
  refine HV.out.mono ?_
  rintro e w1 ⟨rfl, rfl⟩
  go_wp2_with fail
  go_ret
  exact ⟨rfl, rfl⟩
theorem garcs_no (p : Value) (w : World) (h : NoG w p) : Calls Tryd.prog 16 #[p] w fun e w' => e = .returned (.int .i64 0) ∧ w = w' := by
  have HV := Lib.hid (gvalid_no p w h)
  clear h
  go_enter Tryd.func16, Tryd.ntmps16
  go_wp2_with fail
  refine HV.out.mono ?_
  rintro e w1 ⟨rfl, rfl⟩
  go_wp2_with fail
  go_ret
  exact ⟨rfl, rfl⟩

/-- whether there is an arc -/
def arcF (S : List Nat) (a b : Int) : Bool := decide (0 ≤ a ∧ a < (S.length : Int)) && hasS (S.getD a.toNat 0) b
theorem ghasarc_any {gb rb cap : Nat} {ext : List Value} {S : List Nat} {arcs : Int} (a b : Int) (w : World) (h : GAt w gb rb cap ext S arcs) : Calls Tryd.prog 17 #[.pointer (some ⟨gb, 0, none⟩), .int .i64 a, .int .i64 b] w (RetPost (.bool (arcF S a b)) w.heap.size w) := by
  have HV := Lib.hid (ghas_any a w h)
  obtain ⟨_, c1, _, c3⟩ := h.cells
  unfold arcF
  by_cases ha : 0 ≤ a ∧ a < (S.length : Int)
  · obtain ⟨k, rfl⟩ : ∃ k : Nat, a = (k : Int) := ⟨a.toNat, by omega⟩
    have hk : k < S.length := by omega
    obtain ⟨x, hx, _⟩ := drop_at (xs := S) hk
    obtain ⟨y0, y1, y2, y3, y4, y5, y6, y7, y8⟩ := row_cells h.2.1 hx
    have hgd : S.getD (k : Int).toNat 0 = x := by rw [Int.toNat_natCast, List.getD_eq_getElem?_getD, hx]; rfl
    rw [hgd, decide_eq_true ha, Bool.true_and]
    rw [decide_eq_true ha] at HV
    have HHS := Lib.hid (has_any x b w)
    unfold sV at HHS
    have j0 : (k : Int) < (S.length : Int) := by omega
    clear h ha hgd hx
    go_enter Tryd.func17, Tryd.ntmps17
    go_wp2_with fail
    refine HV.out.mono ?_
    rintro e w1 ⟨rfl, rfl⟩
    go_wp2_with fail
    refine HHS.out.mono ?_
    rintro e w1 ⟨rfl, hb⟩
    have HB := Lib.hid hb
    clear hb c1 c3 y0 y1 y2 y3 y4 y5 y6 y7 y8
    go_wp2_with fail
    go_ret
    exact ⟨rfl, HB.out⟩
  · rw [decide_eq_false ha, Bool.false_and]
    rw [decide_eq_false ha] at HV
    clear h ha
    go_enter Tryd.func17, Tryd.ntmps17
    go_wp2_with fail
    refine HV.out.mono ?_
    rintro e w1 ⟨rfl, rfl⟩
    go_wp2_with fail
    go_ret
    exact ⟨rfl, Below.refl _ _⟩
theorem ghasarc_no (p : Value) (a b : Int) (w : World) (h : NoG w p) : Calls Tryd.prog 17 #[p, .int .i64 a, .int .i64 b] w fun e w' => e = .returned (.bool false) ∧ w = w' := by
  have HV := Lib.hid (ghas_no p a w h)
  clear h
  go_enter Tryd.func17, Tryd.ntmps17
  go_wp2_with fail
  refine HV.out.mono ?_
  rintro e w1 ⟨rfl, rfl⟩
  go_wp2_with fail
  go_ret
  exact ⟨rfl, rfl⟩
end Go.Proofs.YtpaakgngoocjeaaDoor

namespace Go.Proofs.YtpaakgngoocjeaaDoor
open Go.RowKit

theorem set_info : (Tryd.prog.info? 40).map (fun i => (i.zero, i.size, i.bytes)) = some (some (.agg #[.int .u64 0, .int .u64 0, .int .u64 0, .int .u64 0, .int .u64 0, .int .u64 0, .int .u64 0, .int .u64 0]), 8, 64) := by kernel_rfl
theorem made_sets : ∀ n : Nat, (madeCells (Value.agg #[.int .u64 0, .int .u64 0, .int .u64 0, .int .u64 0, .int .u64 0, .int .u64 0, .int .u64 0, .int .u64 0]).cells (n * 8)).toList = rowC (List.replicate n 0) := by
  intro n
  apply List.ext_getElem?
  intro j
  have hz : (Value.agg #[.int .u64 0, .int .u64 0, .int .u64 0, .int .u64 0, .int .u64 0, .int .u64 0, .int .u64 0, .int .u64 0]).cells = #[.int .u64 0, .int .u64 0, .int .u64 0, .int .u64 0, .int .u64 0, .int .u64 0, .int .u64 0, .int .u64 0] := by simp [Value.cells]
  rw [hz]
  by_cases hj : j < n * 8
  · have h1 : (rowC (List.replicate n 0))[j / 8 * 8 + j % 8]? = some (sC 0 (j % 8)) := rowC_at (by rw [List.getElem?_replicate, if_pos (by omega)]) (Nat.mod_lt _ (by decide))
    rw [show j / 8 * 8 + j % 8 = j by omega] at h1
    rw [h1]
    have h2 : ∀ i, i < 8 → (#[Value.int .u64 0, .int .u64 0, .int .u64 0, .int .u64 0, .int .u64 0, .int .u64 0, .int .u64 0, .int .u64 0] : Array Value)[i]! = Value.int .u64 0 := by
      intro i hi
      match i, hi with
      | 0, _ => rfl
      | 1, _ => rfl
      | 2, _ => rfl
      | 3, _ => rfl
      | 4, _ => rfl
      | 5, _ => rfl
      | 6, _ => rfl
      | 7, _ => rfl
    simp only [madeCells, Array.toList_map, Array.toList_range, List.getElem?_map, List.getElem?_range hj, Option.map_some]
    unfold sC
    rw [wd_zero]
    exact congrArg some (h2 (j % 8) (Nat.mod_lt _ (by decide)))
  · rw [List.getElem?_eq_none (by simp [madeCells]; omega), List.getElem?_eq_none (by rw [rowC_len]; simp; omega)]

def GNew (n : Int) (w : World) (e : Ending) (w' : World) : Prop :=
  if 0 ≤ n ∧ n ≤ 512 then ∃ gb rb, e = .returned (.tuple #[.pointer (some ⟨gb, 0, none⟩), .int .i64 0]) ∧ GAt w' gb rb n.toNat [] (List.replicate n.toNat 0) 0 ∧ w.heap.size ≤ gb ∧ w.heap.size ≤ rb ∧ Below w.heap.size w w'
  else e = .returned (.tuple #[.pointer none, .int .i64 2]) ∧ w = w'
theorem gnew_any (n : Int) (w : World) : Calls Tryd.prog 12 #[.int .i64 n] w (GNew n w) := by
  by_cases h0 : n < 0
  · have d0 : decide (n < 0) = true := decide_eq_true h0
    have HG : Hid (∀ e w', (e = .returned (.tuple #[.pointer none, .int .i64 2]) ∧ w = w') → GNew n w e w') := Lib.hid (fun e w' h => by unfold GNew; rw [if_neg (by omega)]; exact h)
    clear h0
    go_enter Tryd.func12, Tryd.ntmps12
    go_wp2_with fail
    refine bodyPost_ret (v := .tuple #[.pointer none, .int .i64 2]) (by simp [results, Tryd.results12, go_sem]) rfl (HG.out _ _ ⟨rfl, rfl⟩)
  have d0 : decide (n < 0) = false := decide_eq_false h0
  by_cases h1 : 512 < n
  · have d1 : decide (512 < n) = true := decide_eq_true h1
    have HG : Hid (∀ e w', (e = .returned (.tuple #[.pointer none, .int .i64 2]) ∧ w = w') → GNew n w e w') := Lib.hid (fun e w' h => by unfold GNew; rw [if_neg (by omega)]; exact h)
    clear h0 h1
    go_enter Tryd.func12, Tryd.ntmps12
    go_wp2_with fail
    refine bodyPost_ret (v := .tuple #[.pointer none, .int .i64 2]) (by simp [results, Tryd.results12, go_sem]) rfl (HG.out _ _ ⟨rfl, rfl⟩)
  have d1 : decide (512 < n) = false := decide_eq_false h1
  obtain ⟨m, rfl⟩ : ∃ m : Nat, n = (m : Int) := ⟨n.toNat, by omega⟩
  have hm : m ≤ 512 := by omega
  have HG : Hid (∀ e w', (∃ gb rb, e = .returned (.tuple #[.pointer (some ⟨gb, 0, none⟩), .int .i64 0]) ∧ GAt w' gb rb m [] (List.replicate m 0) 0 ∧ w.heap.size ≤ gb ∧ w.heap.size ≤ rb ∧ Below w.heap.size w w') → GNew m w e w') := Lib.hid (fun e w' h => by unfold GNew; rw [if_pos (by omega)]; exact h)
  obtain ⟨i0, hi, hz0, hz1, hz2⟩ := info_parts set_info
  clear h0 h1
  go_enter Tryd.func12, Tryd.ntmps12
  go_wp2_with (at_make; refine wpList_make_full _ rfl _ _ 65 rfl w.heap.size 40 i0 (.agg #[.int .u64 0, .int .u64 0, .int .u64 0, .int .u64 0, .int .u64 0, .int .u64 0, .int .u64 0, .int .u64 0]) 8 Tryd.underlying65 hi hz0 hz1 .i64 .i64 _ _ m rfl rfl rfl rfl (by rw [hz2]; omega) (by unfold maxLen; omega) (Nat.le_refl _) ?_; intro w2 hown hgrow; rw [made_sets] at hown; have HO := Lib.hid (And.intro hown ((Below.refl w.heap.size w).grown hgrow (Nat.le_refl _) (fun g hg => by cases hg))); clear hown hgrow)
  have hbl := (blk_of_own HO.out.1).1
  have hsz := HO.out.2.size
  have hlt := hbl.lt
  refine bodyPost_ret (v := .tuple #[.pointer (some ⟨w2.heap.size, 0, none⟩), .int .i64 0]) (by simp [results, Tryd.results12, go_sem]) rfl (HG.out _ _ ⟨w2.heap.size, w.heap.size, rfl, ⟨?_, by rw [List.append_nil]; exact hbl.alloc _, ?_, ?_⟩, hsz, Nat.le_refl _, HO.out.2.alloc hsz _⟩)
  · rw [List.length_replicate]; exact blk_new w2 [.bool true, .slice (some ⟨w.heap.size, 0, none⟩) m m, .int .i64 0] _
  · intro x hx
    obtain ⟨_, rfl⟩ := List.mem_replicate.1 hx
    exact fit_zero
  · simpa using hm

theorem gnext_any {gb rb cap : Nat} {ext : List Value} {S : List Nat} {arcs : Int} (v x : Nat) (w : World) (h : GAt w gb rb cap ext S arcs) (hx : S[v]? = some x) : Calls Tryd.prog 19 #[.pointer (some ⟨gb, 0, none⟩), .int .i64 v] w (RetPost (.tuple #[sV x, .int .i64 0]) w.heap.size w) := by
  obtain ⟨W0, hW0⟩ : ∃ W0, W0 = w.alloc (.cells (sL 0).toArray 40) := ⟨_, rfl⟩
  have hB0 : Below w.heap.size w W0 := by rw [hW0]; exact (Below.refl _ w).alloc (Nat.le_refl _) _
  have hS : Blk W0 w.heap.size 40 (tabL 8 (sC 0)) := by rw [hW0, ← sL_tab]; exact blk_new w _ _
  have h0 := h.keep hB0
  have HV := Lib.hid (gvalid_any W0 h0)
  have HH := ghas_any (v : Int) W0 h0
  have hv : v < S.length := (List.getElem?_eq_some_iff.1 hx).1
  rw [decide_eq_true (by omega)] at HH
  have HH := Lib.hid HH
  obtain ⟨_, c1, _, c3⟩ := h0.cells
  obtain ⟨y0, y1, y2, y3, y4, y5, y6, y7, y8⟩ := row_cells h0.2.1 hx
  obtain ⟨z0, z1, z2, z3, z4, z5, z6, z7⟩ := hS.eight
  have zl := hS.lt
  have zf : ∀ o, W0.frozen? ⟨w.heap.size, o, none⟩ = false := hS.frozen
  have HS := Lib.hid hS
  have HB := Lib.hid hB0
  have j0 : (v : Int) < (S.length : Int) := by omega
  clear h h0 hB0 hS hx
  rw [sL_zero] at hW0
  go_enter Tryd.func19, Tryd.ntmps19
  go_upto_region 1 with fail
  rw [← hW0]
  clear hW0
  go_wp2_with fail
  refine HV.out.mono ?_
  rintro e w1 ⟨rfl, rfl⟩
  go_wp2_with fail
  refine HH.out.mono ?_
  rintro e w1 ⟨rfl, rfl⟩
  go_wp2_with fail
  have b := HS.out.set8 x
  have HB2 := below_set8 x HB.out (Nat.le_refl w.heap.size)
  change bodyPost _ _ _ _ _ (set8 W0 w.heap.size x)
  generalize set8 W0 w.heap.size x = V2 at *
  obtain ⟨x0, x1, x2, x3, x4, x5, x6, x7⟩ := b.eight
  refine bodyPost_ret (v := .tuple #[sV x, .int .i64 0]) (by simp [results, Tryd.results19, go_sem, sV, x0, x1, x2, x3, x4, x5, x6, x7]) rfl ⟨rfl, HB2⟩
end Go.Proofs.YtpaakgngoocjeaaDoor
