/- What Order of digraph computes, in plain Lean: a greedy list of vertices, and when it has all. -/
import Derived.Test.YtpaakgngoocjeaaDoorDig09
import Derived.Test.YtpaakgngoocjeaaDoorDig10
import Derived.Test.YtpaakgngoocjeaaDoorDig11
import Derived.Test.YtpaakgngoocjeaaDoorDig12
/- Directed graphs in plain Lean: reachability and components. -/
namespace Go.Proofs.YtpaakgngoocjeaaDoor
open Go.RowKit

/-- an arc -/
def Ed (S : List Nat) (a b : Nat) : Prop := (S.getD a 0).testBit b = true
theorem ed_lt {S : List Nat} {a b : Nat} (hI : InG S) (h : Ed S a b) : a < S.length ∧ b < S.length := by
  unfold Ed at h
  rw [List.getD_eq_getElem?_getD] at h
  cases ha : S[a]? with
  | none => rw [ha] at h; simp at h
  | some y => rw [ha] at h; exact ⟨(List.getElem?_eq_some_iff.1 ha).1, hI y (List.mem_of_getElem? ha) _ h⟩
theorem rch_trans {S : List Nat} {a b c : Nat} (h1 : Rch S a b) (h2 : Rch S b c) : Rch S a c := by
  induction h2 with
  | refl => exact h1
  | step _ h ih => exact .step ih h
theorem rch_one {S : List Nat} {a b : Nat} (h : Ed S a b) : Rch S a b := .step .refl h
theorem rch_back {S : List Nat} {a b : Nat} (hI : InG S) (h : Rch S a b) (hb : b < S.length) : a < S.length := by
  induction h with
  | refl => exact hb
  | step _ h ih => exact ih (ed_lt hI h).1
/-- two vertices of one component -/
def Sc (S : List Nat) (a b : Nat) : Prop := Rch S a b ∧ Rch S b a
theorem sc_refl (S : List Nat) (a : Nat) : Sc S a a := ⟨.refl, .refl⟩
theorem sc_symm {S : List Nat} {a b : Nat} (h : Sc S a b) : Sc S b a := ⟨h.2, h.1⟩
theorem sc_trans {S : List Nat} {a b c : Nat} (h : Sc S a b) (h' : Sc S b c) : Sc S a c := ⟨rch_trans h.1 h'.1, rch_trans h'.2 h.2⟩
theorem sc_lt {S : List Nat} {a b : Nat} (hI : InG S) (ha : a < S.length) (h : Sc S a b) : b < S.length := rch_lt hI ha h.1
section
variable {S : List Nat} (hI : InG S) (h512 : S.length ≤ 512)
include hI h512
theorem partL_mem {v w : Nat} (hv : v < S.length) : w ∈ partL S v ↔ Sc S v w := by
  unfold partL
  rw [List.mem_filter, mem_iff (reachM_fit S v), reachM_tb, reachM_tb]
  constructor
  · rintro ⟨⟨_, h1⟩, _, h2⟩; exact ⟨h1, h2⟩
  · rintro ⟨h1, h2⟩; have := rch_lt hI hv h1; exact ⟨⟨by omega, h1⟩, by omega, h2⟩
theorem partL_self {v : Nat} (hv : v < S.length) : v ∈ partL S v := (partL_mem hI h512 hv).2 (sc_refl S v)
theorem partL_lt {v w : Nat} (hv : v < S.length) (h : w ∈ partL S v) : w < S.length := sc_lt hI hv ((partL_mem hI h512 hv).1 h)
omit hI h512 in
theorem partL_sorted (v : Nat) : (partL S v).Pairwise (· < ·) := List.Pairwise.filter _ (mem_sorted _)
theorem partL_eq {v w : Nat} (hv : v < S.length) (h : Sc S v w) : partL S v = partL S w := by
  refine sorted_ext (partL_sorted v) (partL_sorted w) fun x => ?_
  rw [partL_mem hI h512 hv, partL_mem hI h512 (sc_lt hI hv h)]
  exact ⟨fun h' => sc_trans (sc_symm h) h', fun h' => sc_trans h h'⟩
theorem mem_part {v : Nat} (hv : v < S.length) : mem (orBits (partL S v)) = partL S v := by
  refine sorted_ext (mem_sorted _) (partL_sorted v) fun x => ?_
  rw [mem_iff (fit_lt h512 (fun b hb => partL_lt hI h512 hv ((orBits_tb b _).1 hb))), orBits_tb]
theorem part_tb {v w : Nat} (hv : v < S.length) : (orBits (partL S v)).testBit w = true ↔ Sc S v w := by rw [orBits_tb, partL_mem hI h512 hv]
end
/-- the least vertex of its component -/
noncomputable def isL (S : List Nat) (v : Nat) : Bool := (partL S v).head? == some v
theorem head_le {l : List Nat} (h : l.Pairwise (· < ·)) {v u : Nat} (hv : l.head? = some v) (hu : u ∈ l) : v ≤ u := by
  cases l with
  | nil => cases hu
  | cons x r =>
    cases hv
    rcases List.mem_cons.1 hu with rfl | h1
    · exact Nat.le_refl _
    · have := (List.pairwise_cons.1 h).1 u h1; omega
section
variable {S : List Nat} (hI : InG S) (h512 : S.length ≤ 512)
include hI h512
theorem isL_iff {v : Nat} (hv : v < S.length) : isL S v = true ↔ ∀ u, Sc S v u → v ≤ u := by
  unfold isL
  rw [beq_iff_eq]
  constructor
  · intro h u hu
    exact head_le (partL_sorted v) h ((partL_mem hI h512 hv).2 hu)
  · intro h
    cases hp : partL S v with
    | nil => have := partL_self hI h512 hv; rw [hp] at this; cases this
    | cons x r =>
      have h1 : x ∈ partL S v := by rw [hp]; simp
      have h2 := h x ((partL_mem hI h512 hv).1 h1)
      have h3 := head_le (partL_sorted v) (by rw [hp]; rfl) (partL_self hI h512 hv) (v := x)
      have : x = v := by omega
      rw [this]; rfl
theorem lead_ex {v : Nat} (hv : v < S.length) : ∃ u, isL S u = true ∧ Sc S v u ∧ u < S.length := by
  cases hp : partL S v with
  | nil => have := partL_self hI h512 hv; rw [hp] at this; cases this
  | cons x r =>
    have h1 : Sc S v x := (partL_mem hI h512 hv).1 (by rw [hp]; simp)
    refine ⟨x, ?_, h1, sc_lt hI hv h1⟩
    unfold isL
    rw [← partL_eq hI h512 hv h1, hp]
    simp
theorem lead_uniq {a b : Nat} (ha : a < S.length) (hb : b < S.length) (h1 : isL S a = true) (h2 : isL S b = true) (h : Sc S a b) : a = b := by
  have := (isL_iff hI h512 ha).1 h1 b h
  have := (isL_iff hI h512 hb).1 h2 a (sc_symm h)
  omega
end
/-- the least vertices of the components -/
noncomputable def leads (S : List Nat) (k : Nat) : List Nat := (List.range k).filter (isL S)
theorem leads_succ (S : List Nat) (k : Nat) : leads S (k + 1) = leads S k ++ (if isL S k then [k] else []) := by
  unfold leads
  rw [List.range_succ, List.filter_append]
  by_cases h : isL S k <;> simp [h]
theorem leads_mem {S : List Nat} {k v : Nat} : v ∈ leads S k ↔ v < k ∧ isL S v = true := by unfold leads; rw [List.mem_filter, List.mem_range]
theorem leads_sorted (S : List Nat) (k : Nat) : (leads S k).Pairwise (· < ·) := List.Pairwise.filter _ List.pairwise_lt_range
theorem leads_len (S : List Nat) (k : Nat) : (leads S k).length ≤ k := by
  unfold leads
  have := List.length_filter_le (isL S) (List.range k)
  rwa [List.length_range] at this
theorem setIdx_get (m : Int) : ∀ (L : List Nat) (X : List Int) (u : Nat), u < X.length → (setIdx X L m).getD u 0 = if u ∈ L then m else X.getD u 0 := by
  intro L
  induction L with
  | nil => intro X u _; simp [setIdx]
  | cons y r ih =>
    intro X u hu
    have h := ih (X.set y m) u (by rwa [List.length_set])
    have e : setIdx X (y :: r) m = setIdx (X.set y m) r m := rfl
    rw [e, h]
    by_cases hr : u ∈ r
    · simp [hr]
    · by_cases hy : y = u
      · subst hy; simp [hr, List.getD_eq_getElem?_getD, hu]
      · have : u ≠ y := fun e => hy e.symm
        simp [hr, this, List.getD_eq_getElem?_getD, hy]
section
variable {S : List Nat} (hI : InG S) (h512 : S.length ≤ 512)
include hI h512
theorem parts_spec : ∀ k, k ≤ S.length → (∀ u, (partsK S k).1.testBit u = true ↔ ∃ v, v < k ∧ Sc S v u) ∧ (partsK S k).2.1 = (leads S k).map (fun v => orBits (partL S v)) ∧
    (∀ (j l u : Nat), (leads S k)[j]? = some l → Sc S l u → (partsK S k).2.2.getD u 0 = (j : Int)) := by
  intro k
  induction k with
  | zero =>
    intro _
    refine ⟨fun u => ?_, by simp [partsK, leads], fun j l u h => by simp [leads] at h⟩
    simp [partsK]
  | succ k ih =>
    intro hk
    obtain ⟨h1, h2, h3⟩ := ih (by omega)
    have hkl : k < S.length := by omega
    have hseen : (partsK S k).1.testBit k = true ↔ isL S k = false := by
      rw [h1, ← Bool.not_eq_true, isL_iff hI h512 hkl]
      constructor
      · rintro ⟨v, hv, hs⟩ h; have := h v (sc_symm hs); omega
      · intro h
        apply Classical.byContradiction
        intro hn
        refine h fun u hu => ?_
        rcases Nat.lt_or_ge u k with hlt | hge
        · exact absurd ⟨u, hlt, sc_symm hu⟩ hn
        · exact hge
    rw [partsK_succ]
    unfold stepP
    by_cases hs : (partsK S k).1.testBit k = true
    · rw [if_pos hs]
      have hL := hseen.1 hs
      have hle : leads S (k + 1) = leads S k := by rw [leads_succ, hL]; simp
      rw [hle]
      refine ⟨fun u => ?_, h2, h3⟩
      rw [h1]
      constructor
      · rintro ⟨v, hv, hh⟩; exact ⟨v, by omega, hh⟩
      · rintro ⟨v, hv, hh⟩
        rcases Nat.lt_or_ge v k with hlt | hge
        · exact ⟨v, hlt, hh⟩
        · have : v = k := by omega
          subst this
          obtain ⟨u', hu', hs'⟩ := (h1 v).1 hs
          exact ⟨u', hu', sc_trans hs' hh⟩
    · rw [if_neg hs]
      have hL : isL S k = true := by
        cases h : isL S k with
        | true => rfl
        | false => exact absurd (hseen.2 h) hs
      have hle : leads S (k + 1) = leads S k ++ [k] := by rw [leads_succ, hL]; simp
      refine ⟨fun u => ?_, ?_, ?_⟩
      · dsimp only
        rw [Nat.testBit_or, Bool.or_eq_true, h1, part_tb hI h512 hkl]
        constructor
        · rintro (⟨v, hv, hh⟩ | h)
          · exact ⟨v, by omega, hh⟩
          · exact ⟨k, by omega, h⟩
        · rintro ⟨v, hv, hh⟩
          rcases Nat.lt_or_ge v k with hlt | hge
          · exact .inl ⟨v, hlt, hh⟩
          · have : v = k := by omega
            subst this; exact .inr hh
      · dsimp only
        rw [h2, hle, List.map_append]; rfl
      · intro j l u hj hsc
        dsimp only
        have hlen : (partsK S k).2.1.length = (leads S k).length := by rw [h2, List.length_map]
        rw [hle] at hj
        have hlk : l < k + 1 := by
          have := List.mem_of_getElem? hj
          rcases List.mem_append.1 this with h | h
          · have := (leads_mem.1 h).1; omega
          · rw [List.mem_singleton] at h; omega
        have hul : u < S.length := sc_lt hI (by omega) hsc
        rw [setIdx_get _ _ _ _ (by rw [(partsK_len S k).1]; exact hul)]
        rcases Nat.lt_or_ge j (leads S k).length with hlt | hge
        · rw [List.getElem?_append_left hlt] at hj
          have hlm := leads_mem.1 (List.mem_of_getElem? hj)
          rw [if_neg, h3 j l u hj hsc]
          intro hm
          have hm' := (partL_mem hI h512 hkl).1 hm
          have := lead_uniq hI h512 (by omega) hkl hlm.2 hL (sc_trans hsc (sc_symm hm'))
          omega
        · rw [List.getElem?_append_right hge] at hj
          have hj0 : j = (leads S k).length := by
            have := (List.getElem?_eq_some_iff.1 hj).1
            rw [List.length_singleton] at this; omega
          rw [hj0] at hj ⊢
          simp at hj
          subst hj
          rw [if_pos ((partL_mem hI h512 hkl).2 hsc), hlen]
/-- the index of the component of a vertex -/
theorem idx_ex {v : Nat} (hv : v < S.length) : ∃ j l : Nat, (leads S S.length)[j]? = some l ∧ Sc S l v ∧ l < S.length ∧ (partsK S S.length).2.2.getD v 0 = (j : Int) := by
  obtain ⟨u, h1, h2, h3⟩ := lead_ex hI h512 hv
  obtain ⟨j, hj⟩ := List.getElem?_of_mem (leads_mem.2 ⟨h3, h1⟩)
  exact ⟨j, u, hj, sc_symm h2, h3, (parts_spec hI h512 _ (Nat.le_refl _)).2.2 j u v hj (sc_symm h2)⟩
theorem idx_iff {j l v : Nat} (hj : (leads S S.length)[j]? = some l) (hv : v < S.length) : (partsK S S.length).2.2.getD v 0 = (j : Int) ↔ Sc S l v := by
  constructor
  · intro h
    obtain ⟨j', l', h1, h2, h3, h4⟩ := idx_ex hI h512 hv
    rw [h4] at h
    have : j' = j := by omega
    subst this
    rw [h1] at hj; cases hj; exact h2
  · exact (parts_spec hI h512 _ (Nat.le_refl _)).2.2 j l v hj
end
end Go.Proofs.YtpaakgngoocjeaaDoor

/- Counts, greedy choices and a lemma of progress, in plain Lean. -/
namespace Go.Proofs.YtpaakgngoocjeaaDoor
open Go.RowKit

/-- one more or one less -/
def addT (c : Int) (X : List Int) (w : Nat) : List Int := X.set w (wrap64 (X.getD w 0 + c))
theorem addT_fold (c : Int) (hc : c = 1 ∨ c = -1) : ∀ (E : List Nat) (X : List Int) (M : Int), (∀ j, -M ≤ X.getD j 0 ∧ X.getD j 0 ≤ M) → M + (E.length : Int) < 4611686018427387904 →
    ∀ j, j < X.length → (E.foldl (addT c) X).getD j 0 = X.getD j 0 + c * (E.count j : Int) := by
  intro E
  induction E with
  | nil => intro X M _ _ j _; simp
  | cons w r ih =>
    intro X M hX hM j hj
    rw [List.length_cons] at hM
    have hw := hX w
    have e1 : wrap64 (X.getD w 0 + c) = X.getD w 0 + c := by unfold wrap64; omega
    have hg : ∀ i, (addT c X w).getD i 0 = if i = w ∧ w < X.length then X.getD w 0 + c else X.getD i 0 := by
      intro i
      unfold addT
      rw [e1, List.getD_eq_getElem?_getD, List.getElem?_set]
      by_cases hiw : w = i
      · subst hiw
        by_cases hl : w < X.length
        · simp [hl]
        · simp [hl, List.getD_eq_getElem?_getD]
      · have : ¬ i = w := fun e => hiw e.symm
        simp [hiw, this, List.getD_eq_getElem?_getD]
    rw [List.foldl_cons, ih (addT c X w) (M + 1) (fun i => by rw [hg i]; have := hX i; split <;> omega) (by omega) j (by unfold addT; rwa [List.length_set]), hg j, List.count_cons]
    by_cases hjw : j = w
    · subst hjw
      rw [if_pos ⟨rfl, hj⟩]
      simp
      rcases hc with rfl | rfl <;> omega
    · rw [if_neg (fun h => hjw h.1)]
      have : (w == j) = false := by simpa using fun e => hjw e.symm
      rw [this]; simp
theorem addT_len (c : Int) : ∀ (E : List Nat) (X : List Int), (E.foldl (addT c) X).length = X.length := by
  intro E
  induction E with
  | nil => intro X; rfl
  | cons w r ih => intro X; rw [List.foldl_cons, ih]; simp [addT]
theorem foldl_flat {α β γ : Type} (f : β → α → β) (g : γ → List α) : ∀ (L : List γ) (b : β), L.foldl (fun b x => (g x).foldl f b) b = (L.flatMap g).foldl f b := by
  intro L
  induction L with
  | nil => intro b; rfl
  | cons x r ih => intro b; rw [List.foldl_cons, ih, List.flatMap_cons, List.foldl_append]
theorem flat_len {γ α : Type} (g : γ → List α) (B : Nat) : ∀ (L : List γ), (∀ x ∈ L, (g x).length ≤ B) → (L.flatMap g).length ≤ L.length * B := by
  intro L
  induction L with
  | nil => intro _; simp
  | cons x r ih =>
    intro h
    rw [List.flatMap_cons, List.length_append, List.length_cons, Nat.succ_mul]
    have := h x (by simp)
    have := ih (fun y hy => h y (by simp [hy]))
    omega
theorem count_flat_zero {γ : Type} (g : γ → List Nat) (L : List γ) (j : Nat) : (L.flatMap g).count j = 0 ↔ ∀ x ∈ L, j ∉ g x := by
  rw [List.count_eq_zero]
  simp [List.mem_flatMap]
theorem count_flat_perm {γ : Type} (g : γ → List Nat) {L L' : List γ} (h : L.Perm L') (j : Nat) : (L.flatMap g).count j = (L'.flatMap g).count j := (h.flatMap_right g).count_eq j
/-- a greedy choice: the least that is not chosen and that nothing left leads to -/
def Pk (N : Nat) (dep : Nat → Nat → Prop) (G : List Nat) (x : Nat) : Prop := x < N ∧ x ∉ G ∧ ∀ p, p < N → p ∉ G → ¬ dep p x
def GStep (N : Nat) (dep : Nat → Nat → Prop) (G : List Nat) (x : Nat) : Prop := Pk N dep G x ∧ ∀ y, y < x → ¬ Pk N dep G y
inductive Greedy (N : Nat) (dep : Nat → Nat → Prop) : List Nat → Prop
  | nil : Greedy N dep []
  | snoc {G : List Nat} {x : Nat} : Greedy N dep G → GStep N dep G x → Greedy N dep (G ++ [x])
def Stuck (N : Nat) (dep : Nat → Nat → Prop) (G : List Nat) : Prop := ∀ x, ¬ Pk N dep G x
section
variable {N : Nat} {dep : Nat → Nat → Prop}
theorem gstep_uniq {G : List Nat} {x y : Nat} (h : GStep N dep G x) (h' : GStep N dep G y) : x = y := by
  rcases Nat.lt_trichotomy x y with h1 | h1 | h1
  · exact absurd h.1 (h'.2 x h1)
  · exact h1
  · exact absurd h'.1 (h.2 y h1)
theorem gstep_ex {G : List Nat} (h : ¬ Stuck N dep G) : ∃ x, GStep N dep G x := by
  apply Classical.byContradiction
  intro hn
  have : ∀ k x, x < k → ¬ Pk N dep G x := by
    intro k
    induction k with
    | zero => intro x hx; omega
    | succ k ih =>
      intro x hx hp
      exact hn ⟨x, hp, fun y hy => ih y (by omega)⟩
  exact h (fun x hx => this (x + 1) x (by omega) hx)
theorem greedy_lt {G : List Nat} (h : Greedy N dep G) : (∀ x ∈ G, x < N) ∧ G.Nodup := by
  induction h with
  | nil => exact ⟨fun _ h => (by cases h), List.nodup_nil⟩
  | @snoc G x hG hx ih =>
    refine ⟨fun y hy => ?_, ?_⟩
    · rcases List.mem_append.1 hy with h | h
      · exact ih.1 y h
      · rw [List.mem_singleton] at h; subst h; exact hx.1.1
    · rw [List.nodup_append]
      refine ⟨ih.2, by simp, fun a ha b hb => ?_⟩
      rw [List.mem_singleton] at hb
      subst hb
      intro e; subst e
      exact hx.1.2.1 ha
theorem nodup_len {G : List Nat} {N : Nat} (hn : G.Nodup) (hl : ∀ x ∈ G, x < N) : G.length ≤ N := by
  have key : ∀ (N : Nat) (G : List Nat), G.Nodup → (∀ x ∈ G, x < N) → G.length ≤ N := by
    intro N
    induction N with
    | zero =>
      intro G _ h
      cases G with
      | nil => exact Nat.le_refl _
      | cons x r => exact absurd (h x (by simp)) (by omega)
    | succ N ih =>
      intro G hn h
      have h1 := ih (G.erase N) (hn.erase N) (fun x hx => by
        have h2 := (hn.mem_erase_iff.1 hx)
        have := h x h2.2
        omega)
      have h2 := List.length_erase (a := N) (l := G)
      split at h2 <;> omega
  exact key N G hn hl
theorem full_len : ∀ (N : Nat) {G : List Nat}, (∀ j, j < N → j ∈ G) → N ≤ G.length := by
  intro N
  induction N with
  | zero => intro G _; omega
  | succ N ih =>
    intro G h
    have h1 := ih (G := G.erase N) (fun j hj => (List.mem_erase_of_ne (by omega)).2 (h j (by omega)))
    rw [List.length_erase_of_mem (h N (by omega))] at h1
    have h2 := List.length_pos_of_mem (h N (by omega))
    omega
theorem full_mem {N : Nat} {G : List Nat} (hn : G.Nodup) (hl : ∀ x ∈ G, x < N) (h : N ≤ G.length) : ∀ j, j < N → j ∈ G := by
  intro j hj
  apply Classical.byContradiction
  intro hc
  have := nodup_len (N := N) (G := j :: G) (List.nodup_cons.2 ⟨hc, hn⟩) (fun x hx => by
    rcases List.mem_cons.1 hx with rfl | h
    · exact hj
    · exact hl x h)
  rw [List.length_cons] at this; omega
theorem greedy_len {G : List Nat} (h : Greedy N dep G) : G.length ≤ N := nodup_len (greedy_lt h).2 (greedy_lt h).1
/-- what is before -/
theorem greedy_before {G : List Nat} (h : Greedy N dep G) : ∀ (i : Nat) (x : Nat), G[i]? = some x → ∀ p, p < N → dep p x → ∃ k, k < i ∧ G[k]? = some p := by
  induction h with
  | nil => intro i x h; simp at h
  | @snoc G y hG hy ih =>
    intro i x hi p hp hd
    rcases Nat.lt_or_ge i G.length with hlt | hge
    · rw [List.getElem?_append_left hlt] at hi
      obtain ⟨k, hk, he⟩ := ih i x hi p hp hd
      exact ⟨k, hk, by rw [List.getElem?_append_left (by omega)]; exact he⟩
    · have hi' := (List.getElem?_eq_some_iff.1 hi).1
      rw [List.length_append, List.length_singleton] at hi'
      have : i = G.length := by omega
      subst this
      rw [List.getElem?_append_right (Nat.le_refl _)] at hi
      simp at hi
      subst hi
      have hm : p ∈ G := by
        apply Classical.byContradiction
        intro hn
        exact hy.1.2.2 p hp hn hd
      obtain ⟨k, hk⟩ := List.getElem?_of_mem hm
      have := (List.getElem?_eq_some_iff.1 hk).1
      exact ⟨k, this, by rw [List.getElem?_append_left this]; exact hk⟩
theorem greedy_take {G : List Nat} (h : Greedy N dep G) : ∀ k, Greedy N dep (G.take k) := by
  induction h with
  | nil => intro k; simp; exact .nil
  | @snoc G y hG hy ih =>
    intro k
    rcases Nat.lt_or_ge G.length k with hlt | hge
    · rw [List.take_of_length_le (by rw [List.length_append, List.length_singleton]; omega)]
      exact .snoc hG hy
    · rw [List.take_append_of_le_length hge]; exact ih k
/-- greedy lists of one length are equal -/
theorem greedy_uniq {G G' : List Nat} (h : Greedy N dep G) (h' : Greedy N dep G') (hl : G.length = G'.length) : G = G' := by
  induction h generalizing G' with
  | nil => exact (List.eq_nil_of_length_eq_zero (by simpa using hl.symm)).symm
  | @snoc G y hG hy ih =>
    cases h' with
    | nil => simp at hl
    | @snoc G2 z hG2 hz =>
      simp at hl
      have := ih hG2 hl
      subst this
      rw [gstep_uniq hy hz]
/-- a greedy list that is stuck has all that another one has -/
theorem stuck_len {G G' : List Nat} (h : Greedy N dep G) (hs : Stuck N dep G) (h' : Greedy N dep G') : G'.length ≤ G.length := by
  apply Classical.byContradiction
  intro hn
  have e : G = G'.take G.length := greedy_uniq h (greedy_take h' _) (by rw [List.length_take]; omega)
  have : ∀ {L : List Nat}, Greedy N dep L → ∀ k, k < L.length → ∃ x, GStep N dep (L.take k) x := by
    intro L hL
    induction hL with
    | nil => intro k hk; simp at hk
    | @snoc G y hG hy ih =>
      intro k hk
      rw [List.length_append, List.length_singleton] at hk
      rw [List.take_append_of_le_length (by omega)]
      rcases Nat.lt_or_ge k G.length with hlt | hge
      · exact ih k hlt
      · rw [List.take_of_length_le hge]; exact ⟨y, hy⟩
  obtain ⟨x, hx⟩ := this h' G.length (by omega)
  rw [← e] at hx
  exact hs x hx.1
theorem stuck_uniq {G G' : List Nat} (h : Greedy N dep G) (hs : Stuck N dep G) (h' : Greedy N dep G') (hs' : Stuck N dep G') : G = G' :=
  greedy_uniq h h' (Nat.le_antisymm (stuck_len h' hs' h) (stuck_len h hs h'))
theorem find_gstep {G : List Nat} {f : Nat → Bool} {M x : Nat} (hM : N ≤ M) (hf : ∀ x, f x = true ↔ Pk N dep G x) : (List.range M).find? f = some x ↔ GStep N dep G x := by
  rw [List.find?_range_eq_some]
  constructor
  · rintro ⟨h1, h2, h3⟩
    exact ⟨(hf x).1 h1, fun y hy hp => by have := h3 y hy; rw [(hf y).2 hp] at this; simp at this⟩
  · rintro ⟨h1, h2⟩
    refine ⟨(hf x).2 h1, List.mem_range.2 (by have := h1.1; omega), fun y hy => ?_⟩
    rw [Bool.not_eq_true', ← Bool.not_eq_true, hf]; exact h2 y hy
theorem find_none {G : List Nat} {f : Nat → Bool} {M : Nat} (hM : N ≤ M) (hf : ∀ x, f x = true ↔ Pk N dep G x) : (List.range M).find? f = none ↔ Stuck N dep G := by
  rw [List.find?_eq_none]
  constructor
  · intro h x hx; exact h x (List.mem_range.2 (by have := hx.1; omega)) ((hf x).2 hx)
  · intro h x _ hx; exact h x ((hf x).1 hx)
end
/-- the number of ancestors -/
noncomputable def anc (S : List Nat) (x : Nat) : Nat := ((List.range S.length).filter fun u => @decide (Rch S u x) (Classical.propDecidable _)).length
theorem anc_le {S : List Nat} {p x : Nat} (h : Rch S p x) : anc S p ≤ anc S x := by
  unfold anc
  rw [← List.countP_eq_length_filter, ← List.countP_eq_length_filter]
  refine List.countP_mono_left fun u _ hu => ?_
  simp only [decide_eq_true_eq] at hu ⊢
  exact rch_trans hu h
theorem anc_eq {S : List Nat} {p x : Nat} (hx : x < S.length) (h : Rch S p x) (he : anc S x ≤ anc S p) : Rch S x p := by
  apply Classical.byContradiction
  intro hn
  unfold anc at he
  have hs : ((List.range S.length).filter fun u => @decide (Rch S u p) (Classical.propDecidable _)).Sublist ((List.range S.length).filter fun u => @decide (Rch S u x) (Classical.propDecidable _)) := by
    have hf : ∀ l : List Nat, (l.filter fun u => @decide (Rch S u p) (Classical.propDecidable _)).Sublist (l.filter fun u => @decide (Rch S u x) (Classical.propDecidable _)) := by
      intro l
      induction l with
      | nil => exact List.Sublist.refl _
      | cons y r ih =>
        rw [List.filter_cons, List.filter_cons]
        split
        · rename_i h1
          rw [if_pos (@decide_eq_true _ (Classical.propDecidable _) (rch_trans (@of_decide_eq_true _ (Classical.propDecidable _) h1) h))]
          exact ih.cons_cons _
        · split
          · exact ih.cons _
          · exact ih
    exact hf _
  have e := hs.eq_of_length_le he
  have hm : x ∈ ((List.range S.length).filter fun u => @decide (Rch S u x) (Classical.propDecidable _)) := by
    rw [List.mem_filter]; exact ⟨List.mem_range.2 hx, @decide_eq_true _ (Classical.propDecidable _) (.refl)⟩
  rw [← e, List.mem_filter] at hm
  exact hn (@of_decide_eq_true _ (Classical.propDecidable _) hm.2)
/-- where each of some vertices has an ancestor among them, there are two of one component -/
theorem progress {S : List Nat} (R : Nat → Prop) (E : Nat → Nat → Prop) {x0 : Nat} (hx0 : x0 < S.length) (hR0 : R x0) (hR : ∀ x, x < S.length → R x → ∃ p, p < S.length ∧ R p ∧ E p x ∧ Rch S p x) :
    ∃ x p, x < S.length ∧ p < S.length ∧ R x ∧ R p ∧ E p x ∧ Sc S x p := by
  have : ∀ N x, anc S x ≤ N → x < S.length → R x → ∃ x p, x < S.length ∧ p < S.length ∧ R x ∧ R p ∧ E p x ∧ Sc S x p := by
    intro N
    induction N with
    | zero =>
      intro x h hx hr
      obtain ⟨p, h1, h2, h3, h4⟩ := hR x hx hr
      exact ⟨x, p, hx, h1, hr, h2, h3, anc_eq hx h4 (by omega), h4⟩
    | succ N ih =>
      intro x h hx hr
      obtain ⟨p, h1, h2, h3, h4⟩ := hR x hx hr
      rcases Nat.lt_or_ge (anc S p) (anc S x) with hlt | hge
      · exact ih p (by omega) h1 h2
      · exact ⟨x, p, hx, h1, hr, h2, h3, anc_eq hx h4 hge, h4⟩
  exact this _ x0 (Nat.le_refl _) hx0 hR0
end Go.Proofs.YtpaakgngoocjeaaDoor

/- What Components of digraph computes, in plain Lean: a greedy list of components. -/
namespace Go.Proofs.YtpaakgngoocjeaaDoor
open Go.RowKit

def NoLoop (S : List Nat) : Prop := ∀ a, ¬ Ed S a a
theorem ed_row {S : List Nat} (hF : ∀ x ∈ S, Fit x) {v w : Nat} : w ∈ mem (S.getD v 0) ↔ Ed S v w := mem_iff (getD_fit hF v)
/-- the index of the component of a vertex -/
noncomputable def idx (S : List Nat) (v : Nat) : Nat := ((partsK S S.length).2.2.getD v 0).toNat
noncomputable def ldr (S : List Nat) (j : Nat) : Nat := (leads S S.length).getD j 0
noncomputable def cmN (S : List Nat) : Nat := (leads S S.length).length
/-- an arc from one component to another one -/
def depC (S : List Nat) (q p : Nat) : Prop := q ≠ p ∧ ∃ v w, Ed S v w ∧ idx S v = q ∧ idx S w = p
section
variable {S : List Nat} (hI : InG S) (h512 : S.length ≤ 512)
include hI h512
theorem idx_val {v : Nat} (hv : v < S.length) : (partsK S S.length).2.2.getD v 0 = (idx S v : Int) := by
  obtain ⟨j, l, _, _, _, h⟩ := idx_ex hI h512 hv
  unfold idx; rw [h]; rfl
theorem idx_ldr {v : Nat} (hv : v < S.length) : idx S v < cmN S ∧ Sc S (ldr S (idx S v)) v ∧ ldr S (idx S v) < S.length := by
  obtain ⟨j, l, h1, h2, h3, h⟩ := idx_ex hI h512 hv
  have e : idx S v = j := by unfold idx; rw [h]; rfl
  have e2 : ldr S j = l := by unfold ldr; rw [List.getD_eq_getElem?_getD, h1]; rfl
  rw [e, e2]
  exact ⟨(List.getElem?_eq_some_iff.1 h1).1, h2, h3⟩
omit hI h512 in
theorem ldr_at {j : Nat} (hj : j < cmN S) : (leads S S.length)[j]? = some (ldr S j) := by
  unfold ldr; rw [List.getD_eq_getElem?_getD]
  rw [List.getElem?_eq_getElem hj]; rfl
omit hI h512 in
theorem ldr_lt {j : Nat} (hj : j < cmN S) : ldr S j < S.length ∧ isL S (ldr S j) = true := leads_mem.1 (List.mem_of_getElem? (ldr_at hj))
theorem idx_sc {j v : Nat} (hj : j < cmN S) (hv : v < S.length) : idx S v = j ↔ Sc S (ldr S j) v := by
  rw [← idx_iff hI h512 (ldr_at hj) hv, idx_val hI h512 hv]
  omega
theorem idx_eq {v w : Nat} (hv : v < S.length) (hw : w < S.length) : idx S v = idx S w ↔ Sc S v w := by
  have h1 := idx_ldr hI h512 hv
  have h2 := idx_ldr hI h512 hw
  constructor
  · intro h
    rw [← h] at h2
    exact sc_trans (sc_symm h1.2.1) h2.2.1
  · intro h
    rw [eq_comm, idx_sc hI h512 h1.1 hw]
    exact sc_trans h1.2.1 h
end
noncomputable def tgV (S : List Nat) (v : Nat) : List Nat := ((mem (S.getD v 0)).filter fun w => decide ((partsK S S.length).2.2.getD w 0 ≠ (partsK S S.length).2.2.getD v 0)).map fun w => idx S w
theorem tgV_len (S : List Nat) (v : Nat) : (tgV S v).length ≤ 512 := by
  unfold tgV
  rw [List.length_map]
  exact Nat.le_trans (List.length_filter_le _ _) (mem_len _)
theorem bumpC_fold (X : List Int) (p : Int) : ∀ (L : List Nat) (inc : List Int), L.foldl (bumpC X p) inc = ((L.filter fun w => decide (X.getD w 0 ≠ p)).map fun w => (X.getD w 0).toNat).foldl (addT 1) inc := by
  intro L
  induction L with
  | nil => intro inc; rfl
  | cons w r ih =>
    intro inc
    rw [List.foldl_cons, ih, List.filter_cons]
    unfold bumpC
    by_cases h : X.getD w 0 ≠ p
    · rw [if_pos h, if_pos (decide_eq_true h)]; rfl
    · rw [if_neg h, if_neg (by simpa using h)]
theorem downC_fold (X : List Int) : ∀ (L : List Nat) (inc : List Int), L.foldl (downC X) inc = (L.map fun w => (X.getD w 0).toNat).foldl (addT (-1)) inc := by
  intro L
  induction L with
  | nil => intro inc; rfl
  | cons w r ih => intro inc; rw [List.foldl_cons, ih]; rfl
theorem foldl_ext {α β : Type} (f g : β → α → β) : ∀ (L : List α) (b : β), (∀ b, ∀ x ∈ L, f b x = g b x) → L.foldl f b = L.foldl g b := by
  intro L
  induction L with
  | nil => intro b _; rfl
  | cons x r ih => intro b h; rw [List.foldl_cons, List.foldl_cons, h b x (by simp), ih _ (fun b y hy => h b y (by simp [hy]))]
noncomputable def restC (S : List Nat) (G : List Nat) : List Nat := (List.range S.length).filter fun v => decide (idx S v ∉ G)
/-- what stands after some choices -/
def CKI (S G : List Nat) (st : Nat × List (List Nat) × List Int) : Prop := (∀ j, st.1.testBit j = true ↔ j < cmN S ∧ j ∉ G) ∧ st.2.1 = G.map (fun j => partL S (ldr S j)) ∧ st.2.2.length = cmN S ∧ ∀ j, j < cmN S → st.2.2.getD j 0 = (((restC S G).flatMap (tgV S)).count j : Int)
section
variable {S : List Nat} (hI : InG S) (h512 : S.length ≤ 512) (hF : ∀ x ∈ S, Fit x)
include hI h512 hF
theorem tgV_mem {v j : Nat} (hv : v < S.length) : j ∈ tgV S v ↔ ∃ w, Ed S v w ∧ idx S w = j ∧ j ≠ idx S v := by
  unfold tgV
  rw [List.mem_map]
  constructor
  · rintro ⟨w, hw, rfl⟩
    rw [List.mem_filter, ed_row hF, decide_eq_true_eq] at hw
    rw [idx_val hI h512 (ed_lt hI hw.1).2, idx_val hI h512 hv] at hw
    exact ⟨w, hw.1, rfl, by have := hw.2; omega⟩
  · rintro ⟨w, h1, rfl, h2⟩
    refine ⟨w, ?_, rfl⟩
    rw [List.mem_filter, ed_row hF, decide_eq_true_eq, idx_val hI h512 (ed_lt hI h1).2, idx_val hI h512 hv]
    exact ⟨h1, by omega⟩
omit hI h512 hF in
theorem restC_len (G : List Nat) : (restC S G).length ≤ S.length := by
  unfold restC
  have := List.length_filter_le (fun v => decide (idx S v ∉ G)) (List.range S.length)
  rwa [List.length_range] at this
omit hI hF in
theorem tg_small {L : List Nat} (hL : L.length ≤ S.length) : (L.flatMap (tgV S)).length ≤ 262144 := by
  have h1 := flat_len (tgV S) 512 L (fun x _ => tgV_len S x)
  have h2 : L.length * 512 ≤ 512 * 512 := Nat.mul_le_mul_right _ (by omega)
  omega
theorem pk_iff {G : List Nat} {st : Nat × List (List Nat) × List Int} (h : CKI S G st) (x : Nat) : (st.1.testBit x && decide (st.2.2.getD x 0 ≤ 0)) = true ↔ Pk (cmN S) (depC S) G x := by
  rw [Bool.and_eq_true, decide_eq_true_eq, h.1]
  unfold Pk
  constructor
  · rintro ⟨⟨h1, h2⟩, h3⟩
    refine ⟨h1, h2, fun p hp hpG hd => ?_⟩
    rw [h.2.2.2 x h1] at h3
    have h4 := (count_flat_zero _ _ _).1 (show ((restC S G).flatMap (tgV S)).count x = 0 by omega)
    obtain ⟨hne, v, w, h5, h6, h7⟩ := hd
    have hv := (ed_lt hI h5).1
    refine h4 v ?_ ((tgV_mem hI h512 hF hv).2 ⟨w, h5, h7, by omega⟩)
    unfold restC
    rw [List.mem_filter, List.mem_range, decide_eq_true_eq, h6]
    exact ⟨hv, hpG⟩
  · rintro ⟨h1, h2, h3⟩
    refine ⟨⟨h1, h2⟩, ?_⟩
    rw [h.2.2.2 x h1]
    have : ((restC S G).flatMap (tgV S)).count x = 0 := by
      rw [count_flat_zero]
      intro v hv hx
      unfold restC at hv
      rw [List.mem_filter, List.mem_range, decide_eq_true_eq] at hv
      obtain ⟨w, h5, h6, h7⟩ := (tgV_mem hI h512 hF hv.1).1 hx
      exact h3 (idx S v) (idx_ldr hI h512 hv.1).1 hv.2 ⟨fun e => h7 e.symm, v, w, h5, rfl, h6⟩
    omega
omit hF in
theorem part_of {j : Nat} (hj : j < cmN S) : (partsK S S.length).2.1.getD j 0 = orBits (partL S (ldr S j)) := by
  rw [(parts_spec hI h512 _ (Nat.le_refl _)).2.1, List.getD_eq_getElem?_getD, List.getElem?_map, ldr_at hj, Option.map_some, Option.getD_some]
omit hF in
theorem parts_cm : (partsK S S.length).2.1.length = cmN S := by rw [(parts_spec hI h512 _ (Nat.le_refl _)).2.1, List.length_map]; rfl
omit hF in
theorem cki_start : CKI S [] (compK S (partsK S S.length).2.2 (partsK S S.length).2.1 0) := by
  unfold compK
  rw [parts_cm hI h512]
  refine ⟨fun j => by rw [Nat.testBit_two_pow_sub_one]; simp, rfl, incC_len _ _ _ _, fun j hj => ?_⟩
  dsimp only
  have e : incC S (partsK S S.length).2.2 (cmN S) S.length = ((List.range S.length).flatMap (tgV S)).foldl (addT 1) (List.replicate (cmN S) 0) := by
    unfold incC
    rw [← foldl_flat]
    refine foldl_ext _ _ _ _ fun b v _ => ?_
    rw [bumpC_fold]
    rfl
  have hr : restC S [] = List.range S.length := by unfold restC; rw [List.filter_eq_self]; simp
  rw [e, hr, addT_fold 1 (.inl rfl) _ _ 0 (fun i => by rw [List.getD_eq_getElem?_getD, List.getElem?_replicate]; split <;> simp) (by have := tg_small h512 (L := List.range S.length) (by simp); omega) j (by simpa using hj)]
  rw [List.getD_eq_getElem?_getD, List.getElem?_replicate, if_pos hj]
  simp
theorem cki_step {G : List Nat} {st : Nat × List (List Nat) × List Int} (h : CKI S G st) : (Stuck (cmN S) (depC S) G ∧ compStep S (partsK S S.length).2.2 (partsK S S.length).2.1 st = st) ∨
    ∃ x, GStep (cmN S) (depC S) G x ∧ CKI S (G ++ [x]) (compStep S (partsK S S.length).2.2 (partsK S S.length).2.1 st) := by
  have hm : cmN S ≤ 512 := Nat.le_trans (leads_len S _) h512
  have hfind : (mem st.1).find? (fun p => decide (st.2.2.getD p 0 ≤ 0)) = (List.range 512).find? (fun x => st.1.testBit x && decide (st.2.2.getD x 0 ≤ 0)) := by
    unfold mem; rw [List.find?_filter]; congr 1; funext a; simp
  unfold compStep
  rw [hfind]
  cases hx : (List.range 512).find? (fun x => st.1.testBit x && decide (st.2.2.getD x 0 ≤ 0)) with
  | none => exact .inl ⟨(find_none hm (pk_iff hI h512 hF h)).1 hx, rfl⟩
  | some p =>
    have hg := (find_gstep hm (pk_iff hI h512 hF h)).1 hx
    refine .inr ⟨p, hg, ?_⟩
    have hp := hg.1.1
    have hpl := ldr_lt hp
    dsimp only
    rw [part_of hI h512 hp, mem_part hI h512 hpl.1]
    have hfold : ∀ inc : List Int, (partL S (ldr S p)).foldl (downP S (partsK S S.length).2.2 (orBits (partL S (ldr S p)))) inc = ((partL S (ldr S p)).flatMap (tgV S)).foldl (addT (-1)) inc := by
      intro inc
      rw [← foldl_flat]
      refine foldl_ext _ _ _ _ fun b v hv => ?_
      unfold downP
      rw [downC_fold]
      unfold tgV
      have hvs := (partL_mem hI h512 hpl.1).1 hv
      have hvl := sc_lt hI hpl.1 hvs
      have : mem (mi (S.getD v 0) (orBits (partL S (ldr S p)))) = (mem (S.getD v 0)).filter fun w => decide ((partsK S S.length).2.2.getD w 0 ≠ (partsK S S.length).2.2.getD v 0) := by
        refine sorted_ext (mem_sorted _) (List.Pairwise.filter _ (mem_sorted _)) fun w => ?_
        rw [mem_iff (mi_lt _ (getD_fit hF v)), mi_tb, List.mem_filter, ed_row hF, Bool.and_eq_true, Bool.not_eq_true', decide_eq_true_eq, ← Bool.not_eq_true, part_tb hI h512 hpl.1]
        constructor
        · rintro ⟨h1, h2⟩
          have hw := (ed_lt hI h1).2
          refine ⟨h1, ?_⟩
          rw [idx_val hI h512 hw, idx_val hI h512 hvl, (idx_sc hI h512 hp hvl).2 hvs]
          intro e
          exact h2 ((idx_sc hI h512 hp hw).1 (by omega))
        · rintro ⟨h1, h2⟩
          have hw := (ed_lt hI h1).2
          rw [idx_val hI h512 hw, idx_val hI h512 hvl, (idx_sc hI h512 hp hvl).2 hvs] at h2
          exact ⟨h1, fun e => h2 (by rw [(idx_sc hI h512 hp hw).2 e])⟩
      rw [this]
      simp only [idx]
    rw [hfold]
    refine ⟨fun j => ?_, ?_, by rw [addT_len]; exact h.2.2.1, fun j hj => ?_⟩
    · dsimp only
      rw [mi_tb, Bool.and_eq_true, h.1, bit_tb]
      simp only [Bool.not_eq_true', decide_eq_false_iff_not, List.mem_append, List.mem_singleton]
      constructor
      · rintro ⟨⟨h1, h2⟩, h3⟩; exact ⟨h1, fun e => e.elim h2 (fun e => h3 e.symm)⟩
      · rintro ⟨h1, h2⟩; exact ⟨⟨h1, fun e => h2 (.inl e)⟩, fun e => h2 (.inr e.symm)⟩
    · dsimp only
      rw [h.2.1, List.map_append]; rfl
    · dsimp only
      have hVp : (restC S G).filter (fun v => decide (idx S v = p)) = partL S (ldr S p) := by
        refine sorted_ext (List.Pairwise.filter _ (List.Pairwise.filter _ List.pairwise_lt_range)) (partL_sorted _) fun v => ?_
        unfold restC
        rw [List.mem_filter, List.mem_filter, List.mem_range, decide_eq_true_eq, decide_eq_true_eq, partL_mem hI h512 hpl.1]
        constructor
        · rintro ⟨⟨h1, _⟩, h3⟩; exact (idx_sc hI h512 hp h1).1 h3
        · intro hs
          have hv := sc_lt hI hpl.1 hs
          have he := (idx_sc hI h512 hp hv).2 hs
          exact ⟨⟨hv, by rw [he]; exact hg.1.2.1⟩, he⟩
      have hRest : (restC S G).filter (fun v => !decide (idx S v = p)) = restC S (G ++ [p]) := by
        unfold restC
        rw [List.filter_filter]
        refine List.filter_congr fun v _ => ?_
        rw [Bool.eq_iff_iff]
        simp only [Bool.and_eq_true, Bool.not_eq_true', decide_eq_false_iff_not, decide_eq_true_eq, List.mem_append, List.mem_singleton, not_or]
        exact ⟨fun h => ⟨h.2, h.1⟩, fun h => ⟨h.2, h.1⟩⟩
      have hperm := List.filter_append_perm (fun v => decide (idx S v = p)) (restC S G)
      rw [hVp, hRest] at hperm
      have hc := count_flat_perm (tgV S) hperm j
      rw [List.flatMap_append, List.count_append] at hc
      have hsm := tg_small h512 (restC_len (S := S) G)
      have hVl : (partL S (ldr S p)).length ≤ S.length := by rw [← hVp]; exact Nat.le_trans (List.length_filter_le _ _) (restC_len G)
      have hsm2 := tg_small h512 hVl
      rw [addT_fold (-1) (.inr rfl) _ _ 262144 (fun i => ?_) (by omega) j (by rw [h.2.2.1]; exact hj), h.2.2.2 j hj]
      · omega
      · rcases Nat.lt_or_ge i (cmN S) with hi | hi
        · rw [h.2.2.2 i hi]
          have := List.count_le_length (a := i) (l := (restC S G).flatMap (tgV S))
          omega
        · rw [List.getD_eq_getElem?_getD, List.getElem?_eq_none (by rw [h.2.2.1]; exact hi)]; simp
omit hF in
theorem stuck_allC {G : List Nat} (hs : Stuck (cmN S) (depC S) G) : ∀ j, j < cmN S → j ∈ G := by
  intro j hj
  apply Classical.byContradiction
  intro hn
  have hl := (ldr_lt hj).1
  have hij : idx S (ldr S j) = j := (idx_sc hI h512 hj hl).2 (sc_refl _ _)
  obtain ⟨x, p, h1, h2, h3, h4, h5, h6⟩ := progress (S := S) (fun x => idx S x ∉ G) (fun p x => idx S p ≠ idx S x) hl (by rw [hij]; exact hn) (fun x hx hr => by
    have h := hs (idx S x)
    unfold Pk at h
    apply Classical.byContradiction
    intro hc
    refine h ⟨(idx_ldr hI h512 hx).1, hr, fun q hq hqG hd => hc ?_⟩
    obtain ⟨hne, v, w, h1, h2, h3⟩ := hd
    have hv := ed_lt hI h1
    exact ⟨v, hv.1, by rw [h2]; exact hqG, by rw [h2]; exact hne, rch_trans (rch_one h1) ((idx_eq hI h512 hv.2 hx).1 h3).1⟩)
  exact h5 ((idx_eq hI h512 h2 h1).2 (sc_symm h6))
theorem compF_spec : ∃ G, Greedy (cmN S) (depC S) G ∧ (∀ j, j < cmN S → j ∈ G) ∧ G.length = cmN S ∧ compF S = G.map fun j => partL S (ldr S j) := by
  have key : ∀ k, ∃ G, Greedy (cmN S) (depC S) G ∧ G.length ≤ k ∧ (G.length = k ∨ Stuck (cmN S) (depC S) G) ∧ CKI S G (compK S (partsK S S.length).2.2 (partsK S S.length).2.1 k) := by
    intro k
    induction k with
    | zero => exact ⟨[], .nil, by simp, .inl rfl, cki_start hI h512⟩
    | succ k ih =>
      obtain ⟨G, h1, h2, h3, h4⟩ := ih
      unfold compK
      rcases cki_step hI h512 hF h4 with ⟨h5, h6⟩ | ⟨x, h5, h6⟩
      · rw [h6]; exact ⟨G, h1, by omega, .inr h5, h4⟩
      · rcases h3 with h3 | h3
        · exact ⟨G ++ [x], .snoc h1 h5, by simp; omega, .inl (by simp; omega), h6⟩
        · exact absurd h5.1 (h3 x)
  obtain ⟨G, h1, h2, h3, h4⟩ := key (cmN S)
  have hall : ∀ j, j < cmN S → j ∈ G := by
    rcases h3 with h3 | h3
    · exact full_mem (greedy_lt h1).2 (greedy_lt h1).1 (by omega)
    · exact stuck_allC hI h512 h3
  have hlen := full_len _ hall
  refine ⟨G, h1, hall, by omega, ?_⟩
  unfold compF
  rw [parts_cm hI h512]
  exact h4.2.1
end
end Go.Proofs.YtpaakgngoocjeaaDoor

namespace Go.Proofs.YtpaakgngoocjeaaDoor
open Go.RowKit

theorem downs_fst : ∀ (L : List Nat) (st : List Int × Nat), (L.foldl downS st).1 = L.foldl (addT (-1)) st.1 := by
  intro L
  induction L with
  | nil => intro st; rfl
  | cons w r ih => intro st; rw [List.foldl_cons, ih, List.foldl_cons]; rfl
theorem downs_snd (b : Nat) : ∀ (L : List Nat) (st : List Int × Nat), L.Nodup → ((L.foldl downS st).2.testBit b = true ↔ st.2.testBit b = true ∨ (b ∈ L ∧ wrap64 (st.1.getD b 0 - 1) = 0)) := by
  intro L
  induction L with
  | nil => intro st _; simp
  | cons w r ih =>
    intro st hn
    obtain ⟨h1, h2⟩ := List.nodup_cons.1 hn
    rw [List.foldl_cons, ih _ h2]
    have e1 : (downS st w).2.testBit b = true ↔ st.2.testBit b = true ∨ (b = w ∧ wrap64 (st.1.getD b 0 - 1) = 0) := by
      unfold downS
      dsimp only
      split
      · rename_i hz
        rw [Nat.testBit_or, Bool.or_eq_true, bit_tb, decide_eq_true_eq]
        constructor
        · rintro (h | rfl)
          · exact .inl h
          · exact .inr ⟨rfl, hz⟩
        · rintro (h | ⟨rfl, _⟩)
          · exact .inl h
          · exact .inr rfl
      · rename_i hz
        constructor
        · exact .inl
        · rintro (h | ⟨rfl, h⟩)
          · exact h
          · exact absurd h hz
    have e2 : b ∈ r → (downS st w).1.getD b 0 = st.1.getD b 0 := by
      intro hb
      have : w ≠ b := fun e => h1 (by rw [e]; exact hb)
      unfold downS
      dsimp only
      rw [List.getD_eq_getElem?_getD, List.getElem?_set, if_neg this, List.getD_eq_getElem?_getD]
    rw [e1]
    constructor
    · rintro ((h | ⟨rfl, h⟩) | ⟨hb, h⟩)
      · exact .inl h
      · exact .inr ⟨by simp, h⟩
      · exact .inr ⟨by simp [hb], by rw [e2 hb] at h; exact h⟩
    · rintro (h | ⟨hb, h⟩)
      · exact .inl (.inl h)
      · rcases List.mem_cons.1 hb with rfl | hb
        · exact .inl (.inr ⟨rfl, h⟩)
        · exact .inr ⟨hb, by rw [e2 hb]; exact h⟩
def rowL (S : List Nat) (v : Nat) : List Nat := mem (S.getD v 0)
def restO (S : List Nat) (G : List Nat) : List Nat := (List.range S.length).filter fun v => decide (v ∉ G)
def OrI (S G : List Nat) (X : List Int) (r : Nat) : Prop := (∀ b, r.testBit b = true ↔ Pk S.length (Ed S) G b) ∧ X.length = S.length ∧ ∀ j, j < S.length → X.getD j 0 = (((restO S G).flatMap (rowL S)).count j : Int)
section
variable {S : List Nat} (hI : InG S) (h512 : S.length ≤ 512) (hF : ∀ x ∈ S, Fit x)
theorem restO_len (G : List Nat) : (restO S G).length ≤ S.length := by
  unfold restO
  have := List.length_filter_le (fun v => decide (v ∉ G)) (List.range S.length)
  rwa [List.length_range] at this
include h512 in
theorem row_small {L : List Nat} (hL : L.length ≤ S.length) : (L.flatMap (rowL S)).length ≤ 262144 := by
  have h1 := flat_len (rowL S) 512 L (fun x _ => mem_len _)
  have h2 : L.length * 512 ≤ 512 * 512 := Nat.mul_le_mul_right _ (by omega)
  omega
theorem zero_tb (X : List Int) (b : Nat) : ∀ k, (zeroK X k).testBit b = true ↔ b < k ∧ X.getD b 0 = 0 := by
  intro k
  induction k with
  | zero => simp [zeroK]
  | succ k ih =>
    rw [zeroK_succ]
    split
    · rename_i hz
      rw [Nat.testBit_or, Bool.or_eq_true, ih, bit_tb, decide_eq_true_eq]
      constructor
      · rintro (⟨h1, h2⟩ | rfl)
        · exact ⟨by omega, h2⟩
        · exact ⟨by omega, hz⟩
      · rintro ⟨h1, h2⟩
        by_cases hb : k = b
        · exact .inr hb
        · exact .inl ⟨by omega, h2⟩
    · rename_i hz
      rw [ih]
      constructor
      · rintro ⟨h1, h2⟩; exact ⟨by omega, h2⟩
      · rintro ⟨h1, h2⟩
        refine ⟨?_, h2⟩
        rcases Nat.lt_or_ge b k with h | h
        · exact h
        · have : b = k := by omega
          subst this; exact absurd h2 hz
include hI hF
omit hI in
theorem cnt_zero {G : List Nat} {x : Nat} : ((restO S G).flatMap (rowL S)).count x = 0 ↔ ∀ p, p < S.length → p ∉ G → ¬ Ed S p x := by
  rw [count_flat_zero]
  constructor
  · intro h p hp hG hd
    refine h p ?_ ((ed_row hF).2 hd)
    unfold restO
    rw [List.mem_filter, List.mem_range, decide_eq_true_eq]; exact ⟨hp, hG⟩
  · intro h p hp hd
    unfold restO at hp
    rw [List.mem_filter, List.mem_range, decide_eq_true_eq] at hp
    exact h p hp.1 hp.2 ((ed_row hF).1 hd)
include h512
omit hI in
theorem ori_start : OrI S [] (bumpK S S.length) (zeroK (bumpK S S.length) S.length) := by
  have hr : restO S [] = List.range S.length := by unfold restO; rw [List.filter_eq_self]; simp
  have hc : ∀ j, j < S.length → (bumpK S S.length).getD j 0 = (((restO S []).flatMap (rowL S)).count j : Int) := by
    intro j hj
    have e : bumpK S S.length = ((List.range S.length).flatMap (rowL S)).foldl (addT 1) (List.replicate S.length 0) := by
      unfold bumpK
      rw [← foldl_flat]
      rfl
    rw [hr, e, addT_fold 1 (.inl rfl) _ _ 0 (fun i => by rw [List.getD_eq_getElem?_getD, List.getElem?_replicate]; split <;> simp) (by have := row_small h512 (L := List.range S.length) (by simp); omega) j (by simpa using hj)]
    rw [List.getD_eq_getElem?_getD, List.getElem?_replicate, if_pos hj]
    simp
  refine ⟨fun b => ?_, bumpK_len _ _, hc⟩
  rw [zero_tb]
  unfold Pk
  constructor
  · rintro ⟨h1, h2⟩
    rw [hc b h1] at h2
    exact ⟨h1, by simp, (cnt_zero hF).1 (by omega)⟩
  · rintro ⟨h1, _, h3⟩
    refine ⟨h1, ?_⟩
    rw [hc b h1, (cnt_zero hF).2 h3]; rfl
theorem ori_step (hN : NoLoop S) {G : List Nat} {X : List Int} {r : Nat} (hG : Greedy S.length (Ed S) G) (h : OrI S G X r) (h0 : r ≠ 0) :
    GStep S.length (Ed S) G ((mem r).headD 0) ∧ OrI S (G ++ [(mem r).headD 0]) ((mem (S.getD ((mem r).headD 0) 0)).foldl downS (X, mi r (2 ^ (mem r).headD 0))).1 ((mem (S.getD ((mem r).headD 0) 0)).foldl downS (X, mi r (2 ^ (mem r).headD 0))).2 := by
  have hrF : Fit r := fit_lt h512 (fun b hb => ((h.1 b).1 hb).1)
  obtain ⟨v, tl, hv⟩ : ∃ v tl, mem r = v :: tl := by
    cases hm : mem r with
    | nil => exact absurd ((mem_nilS hrF).1 hm) h0
    | cons v tl => exact ⟨v, tl, rfl⟩
  rw [hv, List.headD_cons]
  have hvr : Pk S.length (Ed S) G v := (h.1 v).1 (mem_tb (by rw [hv]; simp))
  have hg : GStep S.length (Ed S) G v := ⟨hvr, fun y hy hp => by
    have h1 := (mem_iff hrF).2 ((h.1 y).2 hp)
    have := head_le (mem_sorted r) (v := v) (by rw [hv]; rfl) h1
    omega⟩
  refine ⟨hg, ?_⟩
  have hvl := hg.1.1
  have hcv : ∀ j, j < S.length → ((mem (S.getD v 0)).foldl (addT (-1)) X).getD j 0 = (((restO S (G ++ [v])).flatMap (rowL S)).count j : Int) := by
    intro j hj
    have hRest : (restO S G).filter (fun u => !decide (u = v)) = restO S (G ++ [v]) := by
      unfold restO
      rw [List.filter_filter]
      refine List.filter_congr fun u _ => ?_
      rw [Bool.eq_iff_iff]
      simp only [Bool.and_eq_true, Bool.not_eq_true', decide_eq_false_iff_not, decide_eq_true_eq, List.mem_append, List.mem_singleton, not_or]
      exact ⟨fun h => ⟨h.2, h.1⟩, fun h => ⟨h.2, h.1⟩⟩
    have hV : (restO S G).filter (fun u => decide (u = v)) = [v] := by
      refine sorted_ext (List.Pairwise.filter _ (List.Pairwise.filter _ List.pairwise_lt_range)) (List.pairwise_singleton _ _) fun u => ?_
      unfold restO
      rw [List.mem_filter, List.mem_filter, List.mem_range, decide_eq_true_eq, decide_eq_true_eq, List.mem_singleton]
      exact ⟨fun h => h.2, fun e => by subst e; exact ⟨⟨hvl, hg.1.2.1⟩, rfl⟩⟩
    have hperm := List.filter_append_perm (fun u => decide (u = v)) (restO S G)
    rw [hV, hRest] at hperm
    have hc := count_flat_perm (rowL S) hperm j
    rw [List.flatMap_append, List.count_append, List.flatMap_singleton] at hc
    have hsm := row_small h512 (restO_len (S := S) G)
    have hml := mem_len (S.getD v 0)
    rw [addT_fold (-1) (.inr rfl) _ _ 262144 (fun i => ?_) (by omega) j (by rw [h.2.1]; exact hj), h.2.2 j hj]
    · have : (rowL S v).count j = (mem (S.getD v 0)).count j := rfl
      omega
    · rcases Nat.lt_or_ge i S.length with hi | hi
      · rw [h.2.2 i hi]
        have := List.count_le_length (a := i) (l := (restO S G).flatMap (rowL S))
        omega
      · rw [List.getD_eq_getElem?_getD, List.getElem?_eq_none (by rw [h.2.1]; exact hi)]; simp
  have hnd : (mem (S.getD v 0)).Nodup := (mem_sorted _).imp (fun h => by omega)
  refine ⟨fun b => ?_, by rw [downs_fst, addT_len]; exact h.2.1, fun j hj => by rw [downs_fst]; exact hcv j hj⟩
  rw [downs_snd b _ _ hnd]
  dsimp only
  rw [mi_tb, Bool.and_eq_true, h.1, bit_tb, ed_row hF]
  simp only [Bool.not_eq_true', decide_eq_false_iff_not]
  have hX : ∀ b, Ed S v b → (wrap64 (X.getD b 0 - 1) = 0 ↔ ∀ p, p < S.length → p ∉ G ++ [v] → ¬ Ed S p b) := by
    intro b hb
    have hbl := (ed_lt hI hb).2
    rw [← cnt_zero hF]
    have h1 := hcv b hbl
    rw [addT_fold (-1) (.inr rfl) _ _ 262144 (fun i => ?_) (by have := mem_len (S.getD v 0); omega) b (by rw [h.2.1]; exact hbl)] at h1
    · have h2 : (mem (S.getD v 0)).count b = 1 := by
        have h3 := List.nodup_iff_count.1 hnd b
        have h4 := List.count_pos_iff.2 ((ed_row hF).2 hb)
        omega
      rw [h2] at h1
      have h3 := row_small h512 (restO_len (S := S) (G ++ [v]))
      have h4 := List.count_le_length (a := b) (l := (restO S (G ++ [v])).flatMap (rowL S))
      unfold wrap64
      omega
    · rcases Nat.lt_or_ge i S.length with hi | hi
      · rw [h.2.2 i hi]
        have := List.count_le_length (a := i) (l := (restO S G).flatMap (rowL S))
        have := row_small h512 (restO_len (S := S) G)
        omega
      · rw [List.getD_eq_getElem?_getD, List.getElem?_eq_none (by rw [h.2.1]; exact hi)]; simp
  constructor
  · rintro (⟨h1, h2⟩ | ⟨h1, h2⟩)
    · refine ⟨h1.1, ?_, fun p hp hpG => h1.2.2 p hp (fun h => hpG (List.mem_append_left _ h))⟩
      rw [List.mem_append, List.mem_singleton]
      exact fun e => e.elim h1.2.1 (fun e => h2 e.symm)
    · refine ⟨(ed_lt hI h1).2, ?_, (hX b h1).1 h2⟩
      rw [List.mem_append, List.mem_singleton]
      rintro (e | rfl)
      · obtain ⟨i, hi⟩ := List.getElem?_of_mem e
        obtain ⟨k, _, hk⟩ := greedy_before hG i b hi v hvl h1
        exact hg.1.2.1 (List.mem_of_getElem? hk)
      · exact hN _ h1
  · rintro ⟨h1, h2, h3⟩
    rw [List.mem_append, List.mem_singleton, not_or] at h2
    by_cases hd : Ed S v b
    · exact .inr ⟨hd, (hX b hd).2 h3⟩
    · refine .inl ⟨⟨h1, h2.1, fun p hp hpG he => ?_⟩, fun e => h2.2 e.symm⟩
      refine h3 p hp ?_ he
      rw [List.mem_append, List.mem_singleton]
      rintro (e | rfl)
      · exact hpG e
      · exact hd he
theorem ordGo_spec (hN : NoLoop S) : ∀ (f : Nat) (X : List Int) (r : Nat) (G : List Nat), Greedy S.length (Ed S) G → OrI S G X r → S.length - G.length ≤ f → ∃ o, ordGo S f X r G = some o ∧ Greedy S.length (Ed S) o ∧ Stuck S.length (Ed S) o := by
  intro f
  induction f with
  | zero =>
    intro X r G hG h hf
    by_cases h0 : r = 0
    · unfold ordGo
      rw [if_pos h0]
      refine ⟨G, rfl, hG, fun x hx => ?_⟩
      have := (h.1 x).2 hx
      rw [h0] at this; simp at this
    · have h1 := (ori_step hI h512 hF hN hG h h0).1
      have h2 := greedy_len (Greedy.snoc hG h1)
      rw [List.length_append, List.length_singleton] at h2
      omega
  | succ f ih =>
    intro X r G hG h hf
    unfold ordGo
    by_cases h0 : r = 0
    · rw [if_pos h0]
      refine ⟨G, rfl, hG, fun x hx => ?_⟩
      have := (h.1 x).2 hx
      rw [h0] at this; simp at this
    · rw [if_neg h0]
      obtain ⟨h1, h2⟩ := ori_step hI h512 hF hN hG h h0
      exact ih _ _ _ (.snoc hG h1) h2 (by rw [List.length_append, List.length_singleton]; omega)
theorem ordF_spec (hN : NoLoop S) : ∃ o, ordF S.length S = some o ∧ Greedy S.length (Ed S) o ∧ Stuck S.length (Ed S) o :=
  ordGo_spec hI h512 hF hN _ _ _ [] .nil (ori_start h512 hF) (by simp)
end
/-- all components are single vertices -/
def Acyc (S : List Nat) : Prop := ∀ v u, v < S.length → Sc S v u → u = v
theorem nodup_at {L : List Nat} (h : L.Nodup) {i j x : Nat} (hi : L[i]? = some x) (hj : L[j]? = some x) : i = j := by
  rcases Nat.lt_trichotomy i j with h1 | h1 | h1
  · exfalso
    have := List.pairwise_iff_getElem.1 h i j (List.getElem?_eq_some_iff.1 hi).1 (List.getElem?_eq_some_iff.1 hj).1 h1
    rw [(List.getElem?_eq_some_iff.1 hi).2, (List.getElem?_eq_some_iff.1 hj).2] at this
    exact this rfl
  · exact h1
  · exfalso
    have := List.pairwise_iff_getElem.1 h j i (List.getElem?_eq_some_iff.1 hj).1 (List.getElem?_eq_some_iff.1 hi).1 h1
    rw [(List.getElem?_eq_some_iff.1 hi).2, (List.getElem?_eq_some_iff.1 hj).2] at this
    exact this rfl
theorem greedy_rch {S o : List Nat} (hI : InG S) (h : Greedy S.length (Ed S) o) {a b : Nat} (hr : Rch S a b) : ∀ k : Nat, o[k]? = some b → ∃ i : Nat, i ≤ k ∧ o[i]? = some a ∧ (i = k → a = b) := by
  induction hr with
  | refl => intro k hk; exact ⟨k, Nat.le_refl _, hk, fun _ => rfl⟩
  | @step c d h1 h2 ih =>
    intro k hk
    obtain ⟨j, hj, hjc⟩ := greedy_before h k d hk c (ed_lt hI h2).1 h2
    obtain ⟨i, hi, hia, _⟩ := ih j hjc
    exact ⟨i, by omega, hia, fun e => by omega⟩
section
variable {S o : List Nat} (hI : InG S) (hN : NoLoop S) (hG : Greedy S.length (Ed S) o) (hs : Stuck S.length (Ed S) o)
include hI hN hG hs
theorem acyc_iff : o.length = S.length ↔ Acyc S := by
  constructor
  · intro hl v u hv hsc
    have hall := full_mem (greedy_lt hG).2 (greedy_lt hG).1 (by omega)
    obtain ⟨k, hk⟩ := List.getElem?_of_mem (hall v hv)
    obtain ⟨i, h1, h2, h3⟩ := greedy_rch hI hG hsc.2 k hk
    obtain ⟨j, h4, h5, h6⟩ := greedy_rch hI hG hsc.1 i h2
    have := nodup_at (greedy_lt hG).2 h5 hk
    exact h3 (by omega)
  · intro ha
    have hall : ∀ x, x < S.length → x ∈ o := by
      intro x hx
      apply Classical.byContradiction
      intro hn
      obtain ⟨x, p, h1, h2, h3, h4, h5, h6⟩ := progress (S := S) (fun x => x ∉ o) (fun p x => Ed S p x) hx hn (fun x hx hr => by
        have h := hs x
        unfold Pk at h
        apply Classical.byContradiction
        intro hc
        exact h ⟨hx, hr, fun p hp hpG hd => hc ⟨p, hp, hpG, hd, rch_one hd⟩⟩)
      have := ha x p h1 h6
      subst this
      exact hN _ h5
    have := full_len _ hall
    have := greedy_len hG
    omega
end
section
variable {S : List Nat} (hI : InG S) (h512 : S.length ≤ 512) (ha : Acyc S)
include hI h512 ha
theorem acyc_part {v : Nat} (hv : v < S.length) : partL S v = [v] := by
  refine sorted_ext (partL_sorted v) (List.pairwise_singleton _ _) fun x => ?_
  rw [partL_mem hI h512 hv, List.mem_singleton]
  exact ⟨fun h => ha v x hv h, fun e => by rw [e]; exact sc_refl _ _⟩
theorem acyc_leads : leads S S.length = List.range S.length := by
  unfold leads
  rw [List.filter_eq_self]
  intro v hv
  have hv := List.mem_range.1 hv
  unfold isL
  rw [acyc_part hI h512 ha hv]; simp
theorem acyc_cm : cmN S = S.length := by unfold cmN; rw [acyc_leads hI h512 ha, List.length_range]
theorem acyc_ldr {j : Nat} (hj : j < S.length) : ldr S j = j := by unfold ldr; rw [acyc_leads hI h512 ha, List.getD_eq_getElem?_getD, List.getElem?_range hj]; rfl
theorem acyc_idx {v : Nat} (hv : v < S.length) : idx S v = v := by
  rw [idx_sc hI h512 (by rw [acyc_cm hI h512 ha]; exact hv) hv, acyc_ldr hI h512 ha hv]
  exact sc_refl _ _
theorem acyc_comp (hF : ∀ x ∈ S, Fit x) (hN : NoLoop S) {o : List Nat} (hG : Greedy S.length (Ed S) o) (hs : Stuck S.length (Ed S) o) : compF S = o.map fun v => [v] := by
  obtain ⟨G, h1, h2, h3, h4⟩ := compF_spec hI h512 hF
  rw [acyc_cm hI h512 ha] at h1 h2 h3
  have hpk : ∀ L x, Pk S.length (depC S) L x ↔ Pk S.length (Ed S) L x := by
    intro L x
    unfold Pk
    constructor
    · rintro ⟨a, b, c⟩
      refine ⟨a, b, fun p hp hL hd => c p hp hL ⟨fun e => hN x (by rw [e] at hd; exact hd), p, x, hd, acyc_idx hI h512 ha hp, acyc_idx hI h512 ha a⟩⟩
    · rintro ⟨a, b, c⟩
      refine ⟨a, b, fun p hp hL hd => ?_⟩
      obtain ⟨_, v, w, h5, h6, h7⟩ := hd
      have hl := ed_lt hI h5
      rw [acyc_idx hI h512 ha hl.1] at h6
      rw [acyc_idx hI h512 ha hl.2] at h7
      subst h6 h7
      exact c _ hp hL h5
  have hGo : Greedy S.length (Ed S) G := by
    clear h2 h3 h4
    induction h1 with
    | nil => exact .nil
    | snoc _ hx ih => exact .snoc ih ⟨(hpk _ _).1 hx.1, fun y hy hp => hx.2 y hy ((hpk _ _).2 hp)⟩
  have e : G = o := greedy_uniq hGo hG (by rw [h3]; exact ((acyc_iff hI hN hG hs).2 ha).symm)
  subst e
  rw [h4]
  refine List.map_congr_left fun v hv => ?_
  have hv' := (greedy_lt h1).1 v hv
  rw [acyc_ldr hI h512 ha hv', acyc_part hI h512 ha hv']
end
end Go.Proofs.YtpaakgngoocjeaaDoor
