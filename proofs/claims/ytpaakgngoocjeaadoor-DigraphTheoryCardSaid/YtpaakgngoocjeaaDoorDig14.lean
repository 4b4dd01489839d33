/- The contract of the reference's Reachable. -/
import Derived.Test.YtpaakgngoocjeaaDoorDig03
import Derived.Test.YtpaakgngoocjeaaDoorDig12
import Derived.Test.YtpaakgngoocjeaaDoorDig13
/- Distances in plain Lean: what distances of digraph computes. -/
namespace Go.Proofs.YtpaakgngoocjeaaDoor
open Go.RowKit

def Wk (S : List Nat) : Nat → Nat → Nat → Prop
  | 0, a, b => a = b
  | k + 1, a, b => ∃ c, Wk S k a c ∧ Ed S c b
theorem wk_cons {S : List Nat} : ∀ (k : Nat) {a b : Nat}, Wk S (k + 1) a b ↔ ∃ c, Ed S a c ∧ Wk S k c b := by
  intro k
  induction k with
  | zero =>
    intro a b
    constructor
    · rintro ⟨c, h1, h2⟩; cases h1; exact ⟨b, h2, rfl⟩
    · rintro ⟨c, h1, h2⟩; cases h2; exact ⟨a, rfl, h1⟩
  | succ k ih =>
    intro a b
    constructor
    · rintro ⟨c, h1, h2⟩
      obtain ⟨d, h3, h4⟩ := ih.1 h1
      exact ⟨d, h3, c, h4, h2⟩
    · rintro ⟨d, h3, c, h4, h2⟩
      exact ⟨c, ih.2 ⟨d, h3, h4⟩, h2⟩
theorem wk_rch {S : List Nat} {a b : Nat} : (∃ k, Wk S k a b) ↔ Rch S a b := by
  constructor
  · rintro ⟨k, h⟩
    induction k generalizing b with
    | zero => cases h; exact .refl
    | succ k ih => obtain ⟨c, h1, h2⟩ := h; exact .step (ih h1) h2
  · intro h
    induction h with
    | refl => exact ⟨0, rfl⟩
    | step _ h ih => obtain ⟨k, hk⟩ := ih; exact ⟨k + 1, _, hk, h⟩
theorem least_ex (P : Nat → Prop) {k : Nat} (h : P k) : ∃ m, P m ∧ ∀ j, j < m → ¬ P j := by
  induction k using Nat.strongRecOn with
  | ind k ih =>
    by_cases hc : ∃ j, j < k ∧ P j
    · obtain ⟨j, h1, h2⟩ := hc; exact ih j h1 h2
    · exact ⟨k, h, fun j hj hp => hc ⟨j, hj, hp⟩⟩
/-- the number of arcs of a shortest path, or -1 -/
def IsFar (S : List Nat) (a b : Nat) (d : Int) : Prop := (d = -1 ∧ ¬ Rch S a b) ∨ ∃ k : Nat, d = (k : Int) ∧ Wk S k a b ∧ ∀ j, j < k → ¬ Wk S j a b
theorem far_ex (S : List Nat) (a b : Nat) : ∃ d, IsFar S a b d := by
  by_cases h : Rch S a b
  · obtain ⟨k, hk⟩ := wk_rch.2 h
    obtain ⟨m, h1, h2⟩ := least_ex (fun k => Wk S k a b) hk
    exact ⟨m, .inr ⟨m, rfl, h1, h2⟩⟩
  · exact ⟨-1, .inl ⟨rfl, h⟩⟩
noncomputable def farZ (S : List Nat) (a b : Nat) : Int := Classical.choose (far_ex S a b)
theorem farZ_is (S : List Nat) (a b : Nat) : IsFar S a b (farZ S a b) := Classical.choose_spec (far_ex S a b)
section
variable {S : List Nat} {a b c : Nat}
theorem far_iff {k : Nat} : farZ S a b = (k : Int) ↔ Wk S k a b ∧ ∀ j, j < k → ¬ Wk S j a b := by
  rcases farZ_is S a b with ⟨h1, h2⟩ | ⟨m, h1, h2, h3⟩
  · constructor
    · intro h; omega
    · rintro ⟨h, _⟩; exact absurd (wk_rch.1 ⟨k, h⟩) h2
  · constructor
    · intro h
      have : m = k := by omega
      subst this; exact ⟨h2, h3⟩
    · rintro ⟨h4, h5⟩
      rcases Nat.lt_trichotomy m k with h | h | h
      · exact absurd h2 (h5 m h)
      · rw [h1, h]
      · exact absurd h4 (h3 k h)
theorem far_nn : 0 ≤ farZ S a b ↔ Rch S a b := by
  rcases farZ_is S a b with ⟨h1, h2⟩ | ⟨m, h1, h2, h3⟩
  · exact ⟨fun h => by omega, fun h => absurd h h2⟩
  · exact ⟨fun _ => wk_rch.1 ⟨m, h2⟩, fun _ => by omega⟩
theorem far_neg (h : farZ S a b < 0) : farZ S a b = -1 := by
  rcases farZ_is S a b with ⟨h1, h2⟩ | ⟨m, h1, h2, h3⟩
  · exact h1
  · omega
theorem far_ge : -1 ≤ farZ S a b := by
  rcases farZ_is S a b with ⟨h1, h2⟩ | ⟨m, h1, h2, h3⟩ <;> omega
theorem far_zero : farZ S a b = 0 ↔ a = b := by
  rw [show (0 : Int) = ((0 : Nat) : Int) from rfl, far_iff]
  exact ⟨fun h => h.1, fun h => ⟨h, fun j hj => by omega⟩⟩
theorem far_le {k : Nat} (h : Wk S k a b) : 0 ≤ farZ S a b ∧ farZ S a b ≤ k := by
  have h0 := far_nn.2 (wk_rch.1 ⟨k, h⟩)
  refine ⟨h0, ?_⟩
  obtain ⟨m, hm⟩ : ∃ m : Nat, farZ S a b = m := ⟨(farZ S a b).toNat, by omega⟩
  have h1 := far_iff.1 hm
  rcases Nat.lt_or_ge k m with h2 | h2
  · exact absurd h (h1.2 k h2)
  · omega
theorem far_wk (h : 0 ≤ farZ S a b) : Wk S (farZ S a b).toNat a b := (far_iff.1 (show farZ S a b = ((farZ S a b).toNat : Int) by omega)).1
theorem far_step (h : Ed S a c) (h0 : 0 ≤ farZ S c b) : 0 ≤ farZ S a b ∧ farZ S a b ≤ farZ S c b + 1 := by
  have := far_le ((wk_cons _).2 ⟨c, h, far_wk h0⟩)
  omega
theorem far_next {k : Nat} (h : farZ S a b = ((k + 1 : Nat) : Int)) : ∃ c, Ed S a c ∧ farZ S c b = (k : Int) := by
  obtain ⟨h1, h2⟩ := far_iff.1 h
  obtain ⟨c, h3, h4⟩ := (wk_cons k).1 h1
  refine ⟨c, h3, far_iff.2 ⟨h4, fun j hj hw => h2 (j + 1) (by omega) ((wk_cons j).2 ⟨c, h3, hw⟩)⟩⟩
theorem far_stepR (h : Ed S c b) (h0 : 0 ≤ farZ S a c) : 0 ≤ farZ S a b ∧ farZ S a b ≤ farZ S a c + 1 := by
  have := far_le (show Wk S ((farZ S a c).toNat + 1) a b from ⟨c, far_wk h0, h⟩)
  omega
theorem far_nextR {k : Nat} (h : farZ S a b = ((k + 1 : Nat) : Int)) : ∃ c, Ed S c b ∧ farZ S a c = (k : Int) := by
  obtain ⟨h1, h2⟩ := far_iff.1 h
  obtain ⟨c, h4, h3⟩ := h1
  exact ⟨c, h3, far_iff.2 ⟨h4, fun j hj hw => h2 (j + 1) (by omega) ⟨c, hw, h3⟩⟩⟩
/-- there is one at each smaller distance -/
theorem far_level (m : Nat) : ∀ (k : Nat) {a : Nat}, farZ S a b = ((m + k : Nat) : Int) → ∃ c, Rch S a c ∧ farZ S c b = (m : Int) := by
  intro k
  induction k with
  | zero => intro a h; exact ⟨a, .refl, h⟩
  | succ k ih =>
    intro a h
    obtain ⟨c, h1, h2⟩ := far_next (k := m + k) h
    obtain ⟨d, h3, h4⟩ := ih h2
    exact ⟨d, rch_trans (rch_one h1) h3, h4⟩
end
theorem countP_lt {α : Type} {p q : α → Bool} : ∀ {l : List α}, (∀ x ∈ l, p x = true → q x = true) → (∃ x ∈ l, q x = true ∧ p x = false) → l.countP p < l.countP q := by
  intro l
  induction l with
  | nil => rintro _ ⟨x, h, _⟩; cases h
  | cons y r ih =>
    intro h1 h2
    have hle : r.countP p ≤ r.countP q := List.countP_mono_left (fun x hx => h1 x (by simp [hx]))
    rw [List.countP_cons, List.countP_cons]
    obtain ⟨x, hx, h3, h4⟩ := h2
    rcases List.mem_cons.1 hx with rfl | hx
    · rw [h3, h4]; simp; omega
    · have := ih (fun x hx => h1 x (by simp [hx])) ⟨x, hx, h3, h4⟩
      have h5 := h1 y (by simp)
      cases hp : p y with
      | false => cases hq : q y <;> simp <;> omega
      | true => rw [h5 hp]; simp; omega
/-- the distances to a vertex after some layers -/
def DiI (S : List Nat) (t : Nat) (e : Nat) (layer : Nat) (D : List Int) : Prop := D.length = S.length ∧ (∀ v, v < S.length → D.getD v 0 = if 0 ≤ farZ S v t ∧ farZ S v t ≤ (e : Int) then farZ S v t else -1) ∧ ∀ v, layer.testBit v = true ↔ v < S.length ∧ farZ S v t = (e : Int)
theorem and_ne_zero {a b : Nat} : a &&& b ≠ 0 ↔ ∃ i, a.testBit i = true ∧ b.testBit i = true := by
  constructor
  · intro h
    apply Classical.byContradiction
    intro hn
    refine h (Nat.eq_of_testBit_eq fun i => ?_)
    rw [Nat.testBit_and, Nat.zero_testBit]
    cases ha : a.testBit i with
    | false => rfl
    | true =>
      cases hb : b.testBit i with
      | false => rfl
      | true => exact absurd ⟨i, ha, hb⟩ hn
  · rintro ⟨i, h1, h2⟩ h
    have : (a &&& b).testBit i = true := by rw [Nat.testBit_and, h1, h2]; rfl
    rw [h] at this; simp at this
theorem distRow_spec (S : List Nat) (layer : Nat) (d : Int) (D : List Int) : ∀ k, k ≤ D.length → (∀ v, (distRow S layer d D k).1.getD v 0 = if v < k ∧ D.getD v 0 < 0 ∧ (S.getD v 0 &&& layer) ≠ 0 then d else D.getD v 0) ∧
    (∀ v, (distRow S layer d D k).2.testBit v = true ↔ v < k ∧ D.getD v 0 < 0 ∧ (S.getD v 0 &&& layer) ≠ 0) := by
  intro k
  induction k with
  | zero => intro _; exact ⟨fun v => by simp [distRow], fun v => by simp [distRow]⟩
  | succ k ih =>
    intro hk
    obtain ⟨h1, h2⟩ := ih (by omega)
    have hlen := distRow_len S layer d D k
    rw [distRow_succ]
    have hDk : (distRow S layer d D k).1.getD k 0 = D.getD k 0 := by rw [h1, if_neg (by omega)]
    unfold distStep
    rw [hDk]
    by_cases hc : D.getD k 0 < 0 ∧ (S.getD k 0 &&& layer) ≠ 0
    · rw [if_pos hc]
      dsimp only
      constructor
      · intro v
        rw [List.getD_eq_getElem?_getD, List.getElem?_set]
        by_cases hv : k = v
        · subst hv
          rw [if_pos rfl, if_pos (by omega), if_pos ⟨by omega, hc⟩]; rfl
        · rw [if_neg hv, ← List.getD_eq_getElem?_getD, h1]
          by_cases hc2 : v < k ∧ D.getD v 0 < 0 ∧ (S.getD v 0 &&& layer) ≠ 0
          · rw [if_pos hc2, if_pos ⟨by omega, hc2.2⟩]
          · rw [if_neg hc2, if_neg (fun h => hc2 ⟨by omega, h.2⟩)]
      · intro v
        rw [Nat.testBit_or, Bool.or_eq_true, h2, bit_tb, decide_eq_true_eq]
        constructor
        · rintro (h | rfl)
          · exact ⟨by omega, h.2⟩
          · exact ⟨by omega, hc⟩
        · rintro ⟨h3, h4⟩
          by_cases hv : k = v
          · exact .inr hv
          · exact .inl ⟨by omega, h4⟩
    · rw [if_neg hc]
      constructor
      · intro v
        rw [h1]
        by_cases hv : v = k
        · subst hv
          rw [if_neg (by omega), if_neg (fun h => hc h.2)]
        · by_cases hc2 : v < k ∧ D.getD v 0 < 0 ∧ (S.getD v 0 &&& layer) ≠ 0
          · rw [if_pos hc2, if_pos ⟨by omega, hc2.2⟩]
          · rw [if_neg hc2, if_neg (fun h => hc2 ⟨by omega, h.2⟩)]
      · intro v
        rw [h2]
        constructor
        · rintro ⟨h3, h4⟩; exact ⟨by omega, h4⟩
        · rintro ⟨h3, h4⟩
          by_cases hv : v = k
          · subst hv; exact absurd h4 hc
          · exact ⟨by omega, h4⟩
theorem distGo_spec {S : List Nat} (hI : InG S) {t : Nat} : ∀ (f e layer : Nat) (D : List Int), DiI S t e layer D → (layer = 0 ∨ (List.range S.length).countP (fun v => decide (D.getD v 0 < 0)) + 1 ≤ f) →
    ∃ R, distGo S f layer ((e + 1 : Nat) : Int) D = some R ∧ R.length = S.length ∧ ∀ v, v < S.length → R.getD v 0 = farZ S v t := by
  have hend : ∀ (e : Nat) (D : List Int), DiI S t e 0 D → D.length = S.length ∧ ∀ v, v < S.length → D.getD v 0 = farZ S v t := by
    rintro e D ⟨h1, h2, h3⟩
    refine ⟨h1, fun v hv => ?_⟩
    rw [h2 v hv]
    by_cases h0 : 0 ≤ farZ S v t
    · by_cases he : farZ S v t ≤ (e : Int)
      · rw [if_pos ⟨h0, he⟩]
      · exfalso
        obtain ⟨c, hc1, hc2⟩ := far_level e ((farZ S v t).toNat - e) (a := v) (b := t) (S := S) (by omega)
        have := (h3 c).2 ⟨rch_lt hI hv hc1, hc2⟩
        simp at this
    · rw [if_neg (fun h => h0 h.1), far_neg (by omega)]
  intro f
  induction f with
  | zero =>
    intro e layer D h hf
    rcases hf with rfl | hf
    · unfold distGo
      rw [if_pos rfl]
      exact ⟨D, rfl, hend e D h⟩
    · omega
  | succ f ih =>
    intro e layer D h hf
    unfold distGo
    by_cases h0 : layer = 0
    · subst h0
      rw [if_pos rfl]
      exact ⟨D, rfl, hend e D h⟩
    · rw [if_neg h0]
      have hf : (List.range S.length).countP (fun v => decide (D.getD v 0 < 0)) + 1 ≤ f + 1 := by
        rcases hf with h | h
        · exact absurd h h0
        · exact h
      obtain ⟨h1, h2, h3⟩ := h
      obtain ⟨r1, r2⟩ := distRow_spec S layer ((e + 1 : Nat) : Int) D S.length (by omega)
      have hchg : ∀ v, v < S.length → ((D.getD v 0 < 0 ∧ (S.getD v 0 &&& layer) ≠ 0) ↔ farZ S v t = ((e + 1 : Nat) : Int)) := by
        intro v hv
        rw [h2 v hv, and_ne_zero]
        constructor
        · rintro ⟨h4, u, h5, h6⟩
          have hu := (h3 u).1 h6
          have h7 := far_step (S := S) (a := v) (c := u) (b := t) h5 (by omega)
          split at h4 <;> omega
        · intro h4
          obtain ⟨u, h5, h6⟩ := far_next h4
          refine ⟨by rw [if_neg (by omega)]; omega, u, h5, (h3 u).2 ⟨(ed_lt hI h5).2, h6⟩⟩
      have hnew : DiI S t (e + 1) (distRow S layer ((e + 1 : Nat) : Int) D S.length).2 (distRow S layer ((e + 1 : Nat) : Int) D S.length).1 := by
        refine ⟨by rw [distRow_len]; exact h1, fun v hv => ?_, fun v => ?_⟩
        · rw [r1]
          by_cases hc : farZ S v t = ((e + 1 : Nat) : Int)
          · rw [if_pos ⟨hv, (hchg v hv).2 hc⟩, if_pos (by omega), hc]
          · rw [if_neg (fun h => hc ((hchg v hv).1 h.2)), h2 v hv]
            by_cases hq : 0 ≤ farZ S v t ∧ farZ S v t ≤ (e : Int)
            · rw [if_pos hq, if_pos (by omega)]
            · rw [if_neg hq, if_neg (by omega)]
        · rw [r2]
          exact ⟨fun h => ⟨h.1, (hchg v h.1).1 h.2⟩, fun h => ⟨h.1, (hchg v h.1).2 h.2⟩⟩
      have := ih (e + 1) _ _ hnew ?_
      · exact this
      · by_cases hz : (distRow S layer ((e + 1 : Nat) : Int) D S.length).2 = 0
        · exact .inl hz
        · right
          have hex : ∃ v, (distRow S layer ((e + 1 : Nat) : Int) D S.length).2.testBit v = true := by
            apply Classical.byContradiction
            intro hn
            refine hz (Nat.eq_of_testBit_eq fun i => ?_)
            rw [Nat.zero_testBit, ← Bool.not_eq_true]
            exact fun h => hn ⟨i, h⟩
          obtain ⟨v, hv⟩ := hex
          have hv' := (r2 v).1 hv
          have := countP_lt (p := fun v => decide ((distRow S layer ((e + 1 : Nat) : Int) D S.length).1.getD v 0 < 0)) (q := fun v => decide (D.getD v 0 < 0)) (l := List.range S.length) (fun x _ hx => by
            rw [decide_eq_true_eq] at hx ⊢
            rw [r1] at hx
            split at hx <;> omega) ⟨v, List.mem_range.2 hv'.1, decide_eq_true hv'.2.1, by rw [r1, if_pos hv', decide_eq_false_iff_not]; omega⟩
          omega
theorem distF_spec {S : List Nat} (hI : InG S) {t : Nat} (ht : t < S.length) : ∃ R, distF S (S.length + 1) t = some R ∧ R.length = S.length ∧ ∀ v, v < S.length → R.getD v 0 = farZ S v t := by
  unfold distF
  refine distGo_spec hI (S.length + 1) 0 _ _ ⟨by simp, fun v hv => ?_, fun v => ?_⟩ ?_
  · rw [List.getD_eq_getElem?_getD, List.getElem?_set]
    by_cases hv' : t = v
    · subst hv'
      have : farZ S t t = 0 := far_zero.2 rfl
      rw [this]; simp [hv]
    · rw [if_neg hv', List.getElem?_replicate, if_pos hv]
      have : farZ S v t ≠ 0 := fun h => hv' (far_zero.1 h).symm
      rw [if_neg (by omega)]; rfl
  · rw [bit_tb, decide_eq_true_eq]
    have : farZ S v t = ((0 : Nat) : Int) ↔ v = t := far_zero
    rw [this]
    exact ⟨fun h => ⟨by omega, h.symm⟩, fun h => h.2.symm⟩
  · right
    have := List.countP_le_length (p := fun v => decide (((List.replicate S.length (-1)).set t 0 : List Int).getD v 0 < 0)) (l := List.range S.length)
    rw [List.length_range] at this
    omega
/-- a shortest path has fewer arcs than there are vertices -/
theorem far_small {S : List Nat} (hI : InG S) {t : Nat} : ∀ (m v : Nat), v < S.length → farZ S v t = (m : Int) → ∃ L : List Nat, L.Nodup ∧ (∀ x ∈ L, x < S.length ∧ farZ S x t ≤ (m : Int)) ∧ L.length = m + 1 := by
  intro m
  induction m with
  | zero => intro v hv h; exact ⟨[v], by simp, fun x hx => by rw [List.mem_singleton] at hx; subst hx; exact ⟨hv, by omega⟩, rfl⟩
  | succ m ih =>
    intro v hv h
    obtain ⟨c, h1, h2⟩ := far_next h
    obtain ⟨L, h3, h4, h5⟩ := ih c (ed_lt hI h1).2 h2
    refine ⟨v :: L, List.nodup_cons.2 ⟨fun hm => ?_, h3⟩, fun x hx => ?_, by rw [List.length_cons, h5]⟩
    · have := (h4 v hm).2; omega
    · rcases List.mem_cons.1 hx with rfl | hx
      · exact ⟨hv, by omega⟩
      · have := h4 x hx; exact ⟨this.1, by omega⟩
theorem far_lt {S : List Nat} (hI : InG S) {v t : Nat} (hv : v < S.length) : farZ S v t < (S.length : Int) := by
  rcases Int.lt_or_le (farZ S v t) 0 with h | h
  · omega
  · obtain ⟨L, h1, h2, h3⟩ := far_small hI (t := t) (farZ S v t).toNat v hv (by omega)
    have := nodup_len h1 (fun x hx => (h2 x hx).1)
    omega
end Go.Proofs.YtpaakgngoocjeaaDoor

/- The first cycle in plain Lean. -/
namespace Go.Proofs.YtpaakgngoocjeaaDoor
open Go.RowKit

/-- the least positive distance among some vertices: the first with it is found -/
theorem best_stay {D : List Int} {m : Int} : ∀ (L : List Nat) (b : Int), 0 ≤ b → D.getD b.toNat 0 = m → (∀ w ∈ L, 0 < D.getD w 0 → m ≤ D.getD w 0) → L.foldl (bestStep D) b = b := by
  intro L
  induction L with
  | nil => intro b _ _ _; rfl
  | cons x r ih =>
    intro b h0 h1 h2
    rw [List.foldl_cons]
    have hx := h2 x (by simp)
    have e : bestStep D b x = b := by
      unfold bestStep
      rw [if_neg]
      rintro ⟨h3, h4⟩
      have := hx h3
      omega
    rw [e]
    exact ih b h0 h1 (fun w hw => h2 w (by simp [hw]))
theorem best_find {D : List Int} {m : Int} (hm : 0 < m) : ∀ (L : List Nat) (b : Int) (w : Nat), (b < 0 ∨ m < D.getD b.toNat 0) → (∀ w ∈ L, 0 < D.getD w 0 → m ≤ D.getD w 0) → L.find? (fun w => decide (D.getD w 0 = m)) = some w → L.foldl (bestStep D) b = (w : Int) := by
  intro L
  induction L with
  | nil => intro b w _ _ h; cases h
  | cons x r ih =>
    intro b w hb h2 hf
    rw [List.foldl_cons]
    have hx := h2 x (by simp)
    rw [List.find?_cons] at hf
    by_cases hxm : D.getD x 0 = m
    · rw [decide_eq_true hxm] at hf
      cases hf
      have e : bestStep D b x = (x : Int) := by
        unfold bestStep
        rw [if_pos ⟨by omega, by omega⟩]
      rw [e]
      exact best_stay r x (by omega) (by simpa using hxm) (fun w hw => h2 w (by simp [hw]))
    · rw [decide_eq_false hxm] at hf
      refine ih _ w ?_ (fun w hw => h2 w (by simp [hw])) hf
      unfold bestStep
      split
      · rename_i hc
        right
        have := hx hc.1
        rw [Int.toNat_natCast]
        omega
      · exact hb
theorem best_least {D : List Int} : ∀ (L : List Nat), (∃ w ∈ L, 0 < D.getD w 0) → ∃ m, 0 < m ∧ (∃ w ∈ L, D.getD w 0 = m) ∧ ∀ w ∈ L, 0 < D.getD w 0 → m ≤ D.getD w 0 := by
  intro L
  induction L with
  | nil => rintro ⟨w, h, _⟩; cases h
  | cons x r ih =>
    rintro ⟨w, hw, h0⟩
    by_cases hr : ∃ w ∈ r, 0 < D.getD w 0
    · obtain ⟨m, h1, ⟨u, hu, h2⟩, h3⟩ := ih hr
      by_cases hx : 0 < D.getD x 0 ∧ D.getD x 0 < m
      · refine ⟨D.getD x 0, hx.1, ⟨x, by simp, rfl⟩, fun y hy h4 => ?_⟩
        rcases List.mem_cons.1 hy with rfl | hy
        · exact Int.le_refl _
        · have := h3 y hy h4; omega
      · refine ⟨m, h1, ⟨u, by simp [hu], h2⟩, fun y hy h4 => ?_⟩
        rcases List.mem_cons.1 hy with rfl | hy
        · omega
        · exact h3 y hy h4
    · rcases List.mem_cons.1 hw with rfl | hw
      · refine ⟨D.getD w 0, h0, ⟨w, by simp, rfl⟩, fun y hy h4 => ?_⟩
        rcases List.mem_cons.1 hy with rfl | hy
        · exact Int.le_refl _
        · exact absurd ⟨y, hy, h4⟩ hr
      · exact absurd ⟨w, hw, h0⟩ hr
/-- the way back from a vertex -/
def chainC (S : List Nat) (D : List Int) : Nat → Nat → List Nat
  | 0, _ => []
  | d + 1, v => v :: chainC S D d (nextC S D v).toNat
section
variable {S : List Nat} {D : List Int} {t : Nat} (hI : InG S) (hF : ∀ x ∈ S, Fit x) (hD : ∀ v, v < S.length → D.getD v 0 = farZ S v t)
include hI hF hD
theorem next_some {v k : Nat} (hv : v < S.length) (h : farZ S v t = ((k + 1 : Nat) : Int)) (hk : k < 900) : ∃ w : Nat, nextC S D v = (w : Int) ∧ (mem (S.getD v 0)).find? (fun w => decide (D.getD w 0 = (k : Int))) = some w ∧ Ed S v w ∧ farZ S w t = (k : Int) := by
  have e : wrap64 (D.getD v 0 - 1) = (k : Int) := by rw [hD v hv, h]; unfold wrap64; omega
  unfold nextC
  rw [e]
  cases hf : (mem (S.getD v 0)).find? (fun w => decide (D.getD w 0 = (k : Int))) with
  | none =>
    exfalso
    obtain ⟨c, h1, h2⟩ := far_next h
    rw [List.find?_eq_none] at hf
    refine hf c ((ed_row hF).2 h1) ?_
    rw [decide_eq_true_eq, hD c (ed_lt hI h1).2, h2]
  | some w =>
    have h1 := (ed_row hF).1 (List.mem_of_find?_eq_some hf)
    have h2 := List.find?_some hf
    rw [decide_eq_true_eq, hD w (ed_lt hI h1).2] at h2
    exact ⟨w, rfl, rfl, h1, h2⟩
theorem cyc_chain (ht : t < S.length) : ∀ (k v f : Nat) (c : List Int), v < S.length → farZ S v t = (k : Int) → k ≤ 900 → k ≤ f → cycGo S D t f (v : Int) c = some (c ++ zs (chainC S D k v)) := by
  intro k
  induction k with
  | zero =>
    intro v f c hv h _ _
    have : v = t := far_zero.1 h
    subst this
    have e : cycGo S D v f (v : Int) c = some c := by
      cases f <;> (unfold cycGo; rw [if_neg (fun h => h.2 rfl)])
    rw [e]; simp [chainC, zs]
  | succ k ih =>
    intro v f c hv h hk hf
    obtain ⟨f, rfl⟩ : ∃ f', f = f' + 1 := ⟨f - 1, by omega⟩
    have hvt : (v : Int) ≠ (t : Int) := by
      intro e
      have : v = t := by omega
      subst this
      have : farZ S v v = 0 := far_zero.2 rfl
      omega
    obtain ⟨w, h1, _, h3, h4⟩ := next_some hI hF hD hv h (by omega)
    unfold cycGo
    rw [if_pos ⟨by omega, hvt⟩, Int.toNat_natCast, h1]
    have := ih w f (c ++ [(v : Int)]) (ed_lt hI h3).2 h4 (by omega) (by omega)
    dsimp only
    rw [this]
    have e : chainC S D (k + 1) v = v :: chainC S D k w := by
      show v :: chainC S D k (nextC S D v).toNat = _
      rw [h1, Int.toNat_natCast]
    rw [e]
    simp [zs]
/-- a later step: the first of the nearest -/
theorem best_next {v k : Nat} (hv : v < S.length) (h : farZ S v t = ((k + 2 : Nat) : Int)) (hk : k < 800) : ¬ Ed S v t ∧ ∃ w : Nat, nextC S D v = (w : Int) ∧ (mem (S.getD v 0)).foldl (bestStep D) (-1) = (w : Int) ∧ Ed S v w ∧ farZ S w t = ((k + 1 : Nat) : Int) := by
  obtain ⟨w, h1, h2, h3, h4⟩ := next_some hI hF hD (k := k + 1) hv h (by omega)
  refine ⟨fun h5 => ?_, w, h1, ?_, h3, h4⟩
  · have h6 := far_step (S := S) (a := v) (c := t) (b := t) h5 (by rw [far_zero.2 rfl]; omega)
    rw [far_zero.2 rfl] at h6
    omega
  · refine best_find (m := ((k + 1 : Nat) : Int)) (by omega) _ _ w (.inl (by omega)) (fun u hu h0 => ?_) h2
    have hu' := (ed_row hF).1 hu
    rw [hD u (ed_lt hI hu').2] at h0 ⊢
    have := far_step (S := S) (a := v) (c := u) (b := t) hu' (by omega)
    omega
omit hI hF hD in
theorem next_last {v : Nat} (h : farZ S v t = ((0 + 1 : Nat) : Int)) : Ed S v t := by
  obtain ⟨c, h1, h2⟩ := far_next h
  have : c = t := far_zero.1 h2
  subst this; exact h1
/-- the first step -/
theorem best_first (h512 : S.length ≤ 512) (hN : NoLoop S) (hne : ∃ u, u ≠ t ∧ Sc S t u) : ∃ (b k : Nat), (mem (S.getD t 0)).foldl (bestStep D) (-1) = (b : Int) ∧ Ed S t b ∧ farZ S b t = ((k + 1 : Nat) : Int) ∧ k ≤ 700 := by
  obtain ⟨u, hu, hsc⟩ := hne
  have hu0 : 0 ≤ farZ S t u := far_nn.2 hsc.1
  have hu1 : farZ S t u ≠ 0 := fun h => hu (far_zero.1 h).symm
  obtain ⟨c, h1, h2⟩ := far_next (S := S) (a := t) (b := u) (k := (farZ S t u).toNat - 1) (by omega)
  have hc := (ed_lt hI h1).2
  have hct : Rch S c t := rch_trans (far_nn.1 (show 0 ≤ farZ S c u by omega)) hsc.2
  have hne : c ≠ t := fun e => hN t (by rw [e] at h1; exact h1)
  have hcp : 0 < farZ S c t := by
    have := far_nn.2 hct
    have h3 : farZ S c t ≠ 0 := fun h => hne (far_zero.1 h)
    omega
  obtain ⟨m, hm, ⟨w, hw, hwm⟩, hle⟩ := best_least (D := D) (mem (S.getD t 0)) ⟨c, (ed_row hF).2 h1, by rw [hD c hc]; exact hcp⟩
  cases hf : (mem (S.getD t 0)).find? (fun w => decide (D.getD w 0 = m)) with
  | none => rw [List.find?_eq_none] at hf; exact absurd (decide_eq_true hwm) (hf w hw)
  | some b =>
    have hb1 := (ed_row hF).1 (List.mem_of_find?_eq_some hf)
    have hb2 := List.find?_some hf
    rw [decide_eq_true_eq, hD b (ed_lt hI hb1).2] at hb2
    have := far_lt hI (t := t) (ed_lt hI hb1).2
    refine ⟨b, (farZ S b t).toNat - 1, best_find hm _ _ b (.inl (by omega)) hle hf, hb1, by omega, by omega⟩
/-- the cycle is along arcs -/
theorem chain_arcs : ∀ (k v : Nat), v < S.length → farZ S v t = (k : Int) → k ≤ 900 → (chainC S D k v).length = k ∧ (∀ i x y, (chainC S D k v ++ [t])[i]? = some x → (chainC S D k v ++ [t])[i + 1]? = some y → Ed S x y) ∧ (chainC S D k v ++ [t])[0]? = some v := by
  intro k
  induction k with
  | zero =>
    intro v hv h _
    have : v = t := far_zero.1 h
    subst this
    exact ⟨rfl, fun i x y _ h2 => by simp [chainC] at h2, rfl⟩
  | succ k ih =>
    intro v hv h hk
    obtain ⟨w, h1, _, h3, h4⟩ := next_some hI hF hD hv h (by omega)
    obtain ⟨i1, i2, i3⟩ := ih w (ed_lt hI h3).2 h4 (by omega)
    have e : chainC S D (k + 1) v = v :: chainC S D k w := by
      show v :: chainC S D k (nextC S D v).toNat = _
      rw [h1, Int.toNat_natCast]
    rw [e]
    refine ⟨by rw [List.length_cons, i1], fun i x y hx hy => ?_, rfl⟩
    cases i with
    | zero =>
      simp only [List.cons_append, List.getElem?_cons_zero, List.getElem?_cons_succ, Nat.zero_add] at hx hy
      cases hx
      rw [i3] at hy; cases hy; exact h3
    | succ i =>
      simp only [List.cons_append, List.getElem?_cons_succ] at hx hy
      exact i2 i x y hx hy
end
/-- between two steps of the cycle of the reference -/
def CySt (S : List Nat) (D : List Int) (t : Nat) (C : List Nat) (at' : Nat) (out : List Nat) : Prop :=
  (at' = t ∧ out = [t] ∧ ∃ b k : Nat, (mem (S.getD t 0)).foldl (bestStep D) (-1) = (b : Int) ∧ Ed S t b ∧ farZ S b t = ((k + 1 : Nat) : Int) ∧ C = t :: chainC S D (k + 1) b) ∨
  ∃ k : Nat, at' < S.length ∧ farZ S at' t = ((k + 1 : Nat) : Int) ∧ k ≤ 700 ∧ out ++ chainC S D k (nextC S D at').toNat = C
section
variable {S : List Nat} {D : List Int} {t : Nat} (hI : InG S) (hF : ∀ x ∈ S, Fit x) (h512 : S.length ≤ 512) (hD : ∀ v, v < S.length → D.getD v 0 = farZ S v t)
include hI hF h512 hD
theorem cyst_step {C out : List Nat} {a : Nat} (h : CySt S D t C a out) : (a < S.length ∧ ¬ (a ≠ t ∧ Ed S a t) → ∃ b : Nat, (mem (S.getD a 0)).foldl (bestStep D) (-1) = (b : Int) ∧ CySt S D t C b (out ++ [b]) ∧ b < S.length) ∧ (a ≠ t ∧ Ed S a t → out = C) := by
  rcases h with ⟨rfl, rfl, b, k, h1, h2, h3, h4⟩ | ⟨k, h1, h2, h3, h4⟩
  · refine ⟨fun _ => ⟨b, h1, .inr ⟨k, (ed_lt hI h2).2, h3, ?_, ?_⟩, (ed_lt hI h2).2⟩, fun h => absurd rfl h.1⟩
    · have := far_lt hI (t := a) (ed_lt hI h2).2; omega
    · rw [h4]; rfl
  · constructor
    · rintro ⟨_, hn⟩
      have hat : a ≠ t := fun e => by
        subst e
        have : farZ S a a = 0 := far_zero.2 rfl
        omega
      cases k with
      | zero => exact absurd ⟨hat, next_last h2⟩ hn
      | succ k =>
        obtain ⟨_, w, h6, h7, h8, h9⟩ := best_next hI hF hD h1 (k := k) (by rw [h2]) (by omega)
        refine ⟨w, h7, .inr ⟨k, (ed_lt hI h8).2, h9, by omega, ?_⟩, (ed_lt hI h8).2⟩
        rw [← h4, h6, Int.toNat_natCast]
        show _ = out ++ (w :: chainC S D k (nextC S D w).toNat)
        simp
    · rintro ⟨_, he⟩
      cases k with
      | zero => rw [← h4]; simp [chainC]
      | succ k => exact absurd he (best_next hI hF hD h1 (k := k) (by rw [h2]) (by omega)).1
theorem cyst_len {C out : List Nat} {a : Nat} (h : CySt S D t C a out) : out.length ≤ C.length ∧ C.length ≤ out.length + 701 := by
  rcases h with ⟨rfl, rfl, b, k, h1, h2, h3, h4⟩ | ⟨k, h1, h2, h3, h4⟩
  · have h5 := far_lt hI (t := a) (ed_lt hI h2).2
    have := (chain_arcs hI hF hD (k + 1) b (ed_lt hI h2).2 h3 (by omega)).1
    have e : C.length = k + 1 + 1 := by rw [h4, List.length_cons, this]
    rw [List.length_singleton]; omega
  · obtain ⟨w, h6, _, h8, h9⟩ := next_some hI hF hD h1 h2 (by omega)
    have := (chain_arcs hI hF hD k w (ed_lt hI h8).2 h9 (by omega)).1
    rw [← h4, h6, Int.toNat_natCast, List.length_append, this]; omega
/-- the cycle from a vertex -/
theorem cyc_ex (hN : NoLoop S) (ht : t < S.length) (hne : ∃ u, u ≠ t ∧ Sc S t u) : ∃ C : List Nat, CySt S D t C t [t] ∧ cycGo S D t 1000 ((mem (S.getD t 0)).foldl (bestStep D) (-1)) [(t : Int)] = some (zs C) ∧ 2 ≤ C.length ∧ C.length ≤ 1000 ∧ C[0]? = some t ∧
    ∀ i x y, (C ++ [t])[i]? = some x → (C ++ [t])[i + 1]? = some y → Ed S x y := by
  obtain ⟨b, k, h1, h2, h3, h4⟩ := best_first hI hF hD h512 hN hne
  have h5 := far_lt hI (t := t) (ed_lt hI h2).2
  obtain ⟨a1, a2, a3⟩ := chain_arcs hI hF hD (k + 1) b (ed_lt hI h2).2 h3 (by omega)
  refine ⟨t :: chainC S D (k + 1) b, .inl ⟨rfl, rfl, b, k, h1, h2, h3, rfl⟩, ?_, by rw [List.length_cons, a1]; omega, by rw [List.length_cons, a1]; omega, rfl, fun i x y hx hy => ?_⟩
  · rw [h1, cyc_chain hI hF hD ht (k + 1) b 1000 _ (ed_lt hI h2).2 h3 (by omega) (by omega)]
    rfl
  · cases i with
    | zero =>
      simp only [List.cons_append, List.getElem?_cons_zero, List.getElem?_cons_succ, Nat.zero_add] at hx hy
      cases hx
      rw [a3] at hy; cases hy; exact h2
    | succ i =>
      simp only [List.cons_append, List.getElem?_cons_succ] at hx hy
      exact a2 i x y hx hy
end
end Go.Proofs.YtpaakgngoocjeaaDoor

/- Longest paths in plain Lean: the program's and the reference's. -/
namespace Go.Proofs.YtpaakgngoocjeaaDoor
open Go.RowKit

/-- the longest paths: what they are -/
def HLp (S : List Nat) (h : Nat → Int) : Prop := ∀ w, w < S.length → 0 ≤ h w ∧ (∀ v, Ed S v w → h v + 1 ≤ h w) ∧ (h w = 0 ∨ ∃ v, Ed S v w ∧ h w = h v + 1)
theorem lg_fold (v : Nat) : ∀ (L : List Nat) (X : List Int), L.Nodup → v ∉ L → (∀ w ∈ L, w < X.length) → 0 ≤ X.getD v 0 → X.getD v 0 < 1000 → ∀ w, (L.foldl (lgArc v) X).getD w 0 = if w ∈ L then max (X.getD w 0) (X.getD v 0 + 1) else X.getD w 0 := by
  intro L
  induction L with
  | nil => intro X _ _ _ _ _ w; simp
  | cons y r ih =>
    intro X hn hvL hlt h0 h1 w
    obtain ⟨hy, hr⟩ := List.nodup_cons.1 hn
    have hyv : y ≠ v := fun e => hvL (by rw [e]; simp)
    have hyl := hlt y (by simp)
    have e1 : wrap64 (X.getD v 0 + 1) = X.getD v 0 + 1 := by unfold wrap64; omega
    have hg : ∀ i, (lgArc v X y).getD i 0 = if i = y then max (X.getD y 0) (X.getD v 0 + 1) else X.getD i 0 := by
      intro i
      unfold lgArc
      rw [e1, List.getD_eq_getElem?_getD, List.getElem?_set]
      by_cases hi : y = i
      · subst hi; rw [if_pos rfl, if_pos hyl, if_pos rfl]; rfl
      · rw [if_neg hi, if_neg (fun e => hi e.symm), ← List.getD_eq_getElem?_getD]
    have hv' : (lgArc v X y).getD v 0 = X.getD v 0 := by rw [hg, if_neg (fun e => hyv e.symm)]
    rw [List.foldl_cons, ih (lgArc v X y) hr (fun h => hvL (by simp [h])) (fun u hu => by unfold lgArc; rw [List.length_set]; exact hlt u (by simp [hu])) (by rw [hv']; exact h0) (by rw [hv']; exact h1) w, hv', hg]
    by_cases hwr : w ∈ r
    · have : w ≠ y := fun e => hy (by rw [← e]; exact hwr)
      simp [hwr, this]
    · by_cases hwy : w = y
      · subst hwy; simp [hwr]
      · simp [hwr, hwy]
section
variable {S o : List Nat} (hI : InG S) (h512 : S.length ≤ 512) (hF : ∀ x ∈ S, Fit x) (hN : NoLoop S) (hG : Greedy S.length (Ed S) o)
include hI h512 hF hN hG
theorem lgK_spec : ∀ k, k ≤ o.length → ∀ w, w < S.length → 0 ≤ (lgK S o k).getD w 0 ∧ (lgK S o k).getD w 0 ≤ (k : Int) ∧ (∀ v ∈ o.take k, Ed S v w → (lgK S o k).getD v 0 + 1 ≤ (lgK S o k).getD w 0) ∧ ((lgK S o k).getD w 0 = 0 ∨ ∃ v ∈ o.take k, Ed S v w ∧ (lgK S o k).getD w 0 = (lgK S o k).getD v 0 + 1) := by
  intro k
  induction k with
  | zero =>
    intro _ w hw
    have e : (lgK S o 0).getD w 0 = 0 := by unfold lgK; rw [List.take_zero, List.foldl_nil, List.getD_eq_getElem?_getD, List.getElem?_replicate]; split <;> rfl
    rw [e]; simp
  | succ k ih =>
    intro hk w hw
    have ih := ih (by omega)
    obtain ⟨v, hv⟩ : ∃ v, o[k]? = some v := ⟨_, List.getElem?_eq_getElem (by omega)⟩
    have hvl : v < S.length := (greedy_lt hG).1 v (List.mem_of_getElem? hv)
    have h512' := greedy_len hG
    have hnd : (mem (S.getD v 0)).Nodup := (mem_sorted _).imp (fun h => by omega)
    have hvn : v ∉ mem (S.getD v 0) := fun h => hN v ((ed_row hF).1 h)
    have hg := lg_fold v (mem (S.getD v 0)) (lgK S o k) hnd hvn (fun u hu => by rw [lgK_len]; exact (ed_lt hI ((ed_row hF).1 hu)).2) (ih v hvl).1 (by have := (ih v hvl).2.1; omega)
    rw [lgK_succ S o k v hv]
    have hmem : ∀ u, u ∈ mem (S.getD v 0) ↔ Ed S v u := fun u => ed_row hF
    have htk : o.take (k + 1) = o.take k ++ [v] := by rw [List.take_add_one, hv]; rfl
    have hold : ∀ u ∈ o.take (k + 1), ((mem (S.getD v 0)).foldl (lgArc v) (lgK S o k)).getD u 0 = (lgK S o k).getD u 0 := by
      intro u hu
      rw [hg, if_neg]
      intro hm
      obtain ⟨i, hi⟩ := List.getElem?_of_mem hu
      rw [List.getElem?_take] at hi
      split at hi
      · obtain ⟨j, hj, hjv⟩ := greedy_before hG i u hi v hvl ((hmem u).1 hm)
        have := nodup_at (greedy_lt hG).2 hjv hv
        omega
      · cases hi
    have hvv := hold v (by rw [htk]; simp)
    obtain ⟨i1, i2, i3, i4⟩ := ih w hw
    have iv := ih v hvl
    rw [hg w]
    by_cases hm : Ed S v w
    · rw [if_pos ((hmem w).2 hm)]
      refine ⟨by omega, by omega, fun u hu he => ?_, ?_⟩
      · rw [hold u hu]
        rw [htk] at hu
        rcases List.mem_append.1 hu with h | h
        · have := i3 u h he; omega
        · rw [List.mem_singleton] at h; subst h; omega
      · by_cases hmax : (lgK S o k).getD w 0 ≤ (lgK S o k).getD v 0 + 1
        · exact .inr ⟨v, by rw [htk]; simp, hm, by rw [hvv]; omega⟩
        · rw [show max ((lgK S o k).getD w 0) ((lgK S o k).getD v 0 + 1) = (lgK S o k).getD w 0 by omega]
          rcases i4 with h | ⟨u, hu, h1, h2⟩
          · exact .inl h
          · have hu' : u ∈ o.take (k + 1) := by rw [htk]; exact List.mem_append_left _ hu
            exact .inr ⟨u, hu', h1, by rw [hold u hu']; exact h2⟩
    · rw [if_neg (fun h => hm ((hmem w).1 h))]
      refine ⟨i1, by omega, fun u hu he => ?_, ?_⟩
      · rw [hold u hu]
        rw [htk] at hu
        rcases List.mem_append.1 hu with h | h
        · exact i3 u h he
        · rw [List.mem_singleton] at h; subst h; exact absurd he hm
      · rcases i4 with h | ⟨u, hu, h1, h2⟩
        · exact .inl h
        · have hu' : u ∈ o.take (k + 1) := by rw [htk]; exact List.mem_append_left _ hu
          exact .inr ⟨u, hu', h1, by rw [hold u hu']; exact h2⟩
theorem lg_hlp (hl : o.length = S.length) : HLp S (fun w => (lgK S o o.length).getD w 0) := by
  intro w hw
  obtain ⟨h1, _, h3, h4⟩ := lgK_spec hI h512 hF hN hG o.length (Nat.le_refl _) w hw
  rw [List.take_length] at h3 h4
  refine ⟨h1, fun v he => h3 v (full_mem (greedy_lt hG).2 (greedy_lt hG).1 (by omega) v (ed_lt hI he).1) he, ?_⟩
  rcases h4 with h | ⟨v, _, h5, h6⟩
  · exact .inl h
  · exact .inr ⟨v, h5, h6⟩
end
/-- the longest paths of the reference: one arc, a turn, some turns -/
def relA (X : List Int) (p : Int × Int) : List Int := if X.getD p.2.toNat 0 < X.getD p.1.toNat 0 + 1 then X.set p.2.toNat (X.getD p.1.toNat 0 + 1) else X
def turnA (A : List (Int × Int)) (X : List Int) : List Int := A.foldl relA X
def lgR (n : Nat) (A : List (Int × Int)) : Nat → List Int
  | 0 => List.replicate n 0
  | t + 1 => turnA A (lgR n A t)
theorem relA_len (X : List Int) (p : Int × Int) : (relA X p).length = X.length := by unfold relA; split <;> simp
theorem turnA_len : ∀ (A : List (Int × Int)) (X : List Int), (turnA A X).length = X.length := by
  intro A
  induction A with
  | nil => intro X; rfl
  | cons p r ih => intro X; show (turnA r (relA X p)).length = _; rw [ih, relA_len]
theorem lgR_len (n : Nat) (A : List (Int × Int)) : ∀ t, (lgR n A t).length = n := by
  intro t
  induction t with
  | zero => simp [lgR]
  | succ t ih => show (turnA A (lgR n A t)).length = n; rw [turnA_len, ih]
theorem relA_get {X : List Int} {p : Int × Int} (w : Nat) (h : p.2.toNat < X.length) : (relA X p).getD w 0 = if w = p.2.toNat then max (X.getD w 0) (X.getD p.1.toNat 0 + 1) else X.getD w 0 := by
  unfold relA
  split
  · rename_i hc
    rw [List.getD_eq_getElem?_getD, List.getElem?_set]
    by_cases hw : p.2.toNat = w
    · subst hw; rw [if_pos rfl, if_pos h, if_pos rfl]
      rw [Option.getD_some]; omega
    · rw [if_neg hw, if_neg (fun e => hw e.symm), ← List.getD_eq_getElem?_getD]
  · rename_i hc
    by_cases hw : w = p.2.toNat
    · subst hw; rw [if_pos rfl]; omega
    · rw [if_neg hw]
/-- the arcs of a list between vertices -/
def okA (S : List Nat) (p : Int × Int) : Prop := 0 ≤ p.1 ∧ 0 ≤ p.2 ∧ Ed S p.1.toNat p.2.toNat
theorem turn_spec {S : List Nat} {h : Nat → Int} (hI : InG S) (hh : HLp S h) : ∀ (A : List (Int × Int)) (X : List Int), (∀ p ∈ A, okA S p) → X.length = S.length → (∀ w, w < S.length → 0 ≤ X.getD w 0 ∧ X.getD w 0 ≤ h w) →
    (∀ w, w < S.length → X.getD w 0 ≤ (turnA A X).getD w 0 ∧ (turnA A X).getD w 0 ≤ h w) ∧ ∀ v w : Nat, ((v : Int), (w : Int)) ∈ A → w < S.length → X.getD v 0 + 1 ≤ (turnA A X).getD w 0 := by
  intro A
  induction A with
  | nil => intro X _ _ hX; exact ⟨fun w hw => ⟨Int.le_refl _, (hX w hw).2⟩, fun v w h => by cases h⟩
  | cons p r ih =>
    intro X hA hl hX
    obtain ⟨h0, h1, he⟩ := hA p (by simp)
    have hlt := ed_lt hI he
    have hg := fun w => relA_get (X := X) (p := p) w (by omega)
    have hX' : ∀ w, w < S.length → 0 ≤ (relA X p).getD w 0 ∧ (relA X p).getD w 0 ≤ h w := by
      intro w hw
      rw [hg]
      split
      · rename_i e
        subst e
        have a1 := hX _ hw
        have a2 := hX _ hlt.1
        have a3 := (hh _ hw).2.1 _ he
        omega
      · exact hX w hw
    obtain ⟨i1, i2⟩ := ih (relA X p) (fun q hq => hA q (by simp [hq])) (by rw [relA_len]; exact hl) hX'
    have hup : ∀ w, X.getD w 0 ≤ (relA X p).getD w 0 := by intro w; rw [hg]; split <;> omega
    refine ⟨fun w hw => ⟨Int.le_trans (hup w) (i1 w hw).1, (i1 w hw).2⟩, fun v w hm hw => ?_⟩
    rcases List.mem_cons.1 hm with e | hm
    · subst e
      have := (i1 w hw).1
      have h5 := hg w
      simp only [Int.toNat_natCast, if_true] at h5
      show _ ≤ (turnA r (relA X ((v : Int), (w : Int)))).getD w 0
      omega
    · have := i2 v w hm hw
      have := hup v
      show _ ≤ (turnA r (relA X p)).getD w 0
      omega
theorem lgR_spec {S o : List Nat} {h : Nat → Int} {A : List (Int × Int)} (hI : InG S) (hh : HLp S h) (hA : ∀ p ∈ A, okA S p) (hE : ∀ v w, Ed S v w → ((v : Int), (w : Int)) ∈ A) (hG : Greedy S.length (Ed S) o) : ∀ t, (∀ w, w < S.length → 0 ≤ (lgR S.length A t).getD w 0 ∧ (lgR S.length A t).getD w 0 ≤ h w) ∧ ∀ i, i < t → ∀ w, o[i]? = some w → (lgR S.length A t).getD w 0 = h w := by
  intro t
  induction t with
  | zero =>
    refine ⟨fun w hw => ?_, fun i hi => by omega⟩
    have e : (lgR S.length A 0).getD w 0 = 0 := by unfold lgR; rw [List.getD_eq_getElem?_getD, List.getElem?_replicate, if_pos hw]; rfl
    rw [e]; exact ⟨Int.le_refl _, (hh w hw).1⟩
  | succ t ih =>
    obtain ⟨h1, h2⟩ := ih
    obtain ⟨t1, t2⟩ := turn_spec hI hh A (lgR S.length A t) hA (lgR_len _ _ _) h1
    refine ⟨fun w hw => ⟨Int.le_trans (h1 w hw).1 (t1 w hw).1, (t1 w hw).2⟩, fun i hi w hw => ?_⟩
    have hwl := (greedy_lt hG).1 w (List.mem_of_getElem? hw)
    have b1 := t1 w hwl
    show (turnA A (lgR S.length A t)).getD w 0 = h w
    rcases Nat.lt_or_ge i t with hlt | hge
    · have := h2 i hlt w hw; omega
    · rcases (hh w hwl).2.2 with h0 | ⟨v, hv, he⟩
      · have := (h1 w hwl).1; omega
      · obtain ⟨j, hj, hjv⟩ := greedy_before hG i w hw v (ed_lt hI hv).1 hv
        have h3 := h2 j (by omega) v hjv
        have h4 := t2 v w (hE v w hv) hwl
        omega
theorem lgR_eq {S o : List Nat} {A : List (Int × Int)} (hI : InG S) (h512 : S.length ≤ 512) (hF : ∀ x ∈ S, Fit x) (hN : NoLoop S) (hA : ∀ p ∈ A, okA S p) (hE : ∀ v w, Ed S v w → ((v : Int), (w : Int)) ∈ A) (hG : Greedy S.length (Ed S) o) (hl : o.length = S.length) : lgR S.length A S.length = lgK S o o.length := by
  have hh := lg_hlp hI h512 hF hN hG hl
  obtain ⟨_, h2⟩ := lgR_spec hI hh hA hE hG S.length
  apply List.ext_getElem?
  intro w
  rcases Nat.lt_or_ge w S.length with hw | hw
  · obtain ⟨i, hi⟩ := List.getElem?_of_mem (full_mem (greedy_lt hG).2 (greedy_lt hG).1 (by omega) w hw)
    have := h2 i (by have := (List.getElem?_eq_some_iff.1 hi).1; omega) w hi
    rw [List.getD_eq_getElem?_getD, List.getD_eq_getElem?_getD] at this
    rw [List.getElem?_eq_getElem (by rw [lgR_len]; exact hw), List.getElem?_eq_getElem (by rw [lgK_len]; exact hw)] at this ⊢
    simpa using this
  · rw [List.getElem?_eq_none (by rw [lgR_len]; exact hw), List.getElem?_eq_none (by rw [lgK_len]; exact hw)]
end Go.Proofs.YtpaakgngoocjeaaDoor

/- The transitive reduction in plain Lean. -/
namespace Go.Proofs.YtpaakgngoocjeaaDoor
open Go.RowKit

section
variable {n : Nat} {A : List (Int × Int)}
theorem ed_graph {v w : Nat} : Ed (graphOf n A) v w ↔ v < n ∧ w < n ∧ hasA A (v : Int) (w : Int) = true := by
  unfold Ed
  rcases Nat.lt_or_ge v n with hv | hv
  · rw [graphOf_getD hv, rowOf_tb]
    exact ⟨fun h => ⟨hv, h⟩, fun h => h.2⟩
  · rw [List.getD_eq_getElem?_getD, List.getElem?_eq_none (by rw [graphOf_len]; exact hv)]
    simp; omega
theorem hasA_mem {a b : Int} : hasA A a b = true ↔ (a, b) ∈ A := by
  unfold hasA
  rw [List.any_eq_true]
  constructor
  · rintro ⟨⟨x, y⟩, hp, hd⟩
    rw [decide_eq_true_eq] at hd
    obtain ⟨rfl, rfl⟩ := hd
    exact hp
  · intro h; exact ⟨(a, b), h, by simp⟩
theorem noloop_graph (h : VA n A) : NoLoop (graphOf n A) := by
  intro a ha
  have := (hasA_va h (ed_graph.1 ha).2.2).2.2.2.2
  exact this rfl
theorem va_mem (h : VA n A) {p : Int × Int} (hp : p ∈ A) : ∃ v w : Nat, p = ((v : Int), (w : Int)) ∧ Ed (graphOf n A) v w := by
  obtain ⟨a, b⟩ := p
  obtain ⟨h1, h2, h3, h4, _⟩ := hasA_va h (hasA_mem.2 hp)
  refine ⟨a.toNat, b.toNat, by rw [Int.toNat_of_nonneg h1, Int.toNat_of_nonneg h3], ed_graph.2 ⟨by omega, by omega, ?_⟩⟩
  rw [Int.toNat_of_nonneg h1, Int.toNat_of_nonneg h3]; exact hasA_mem.2 hp
theorem okA_graph (h : VA n A) : ∀ p ∈ A, okA (graphOf n A) p := by
  intro p hp
  obtain ⟨v, w, rfl, he⟩ := va_mem h hp
  exact ⟨by simp, by simp, by simpa using he⟩
theorem ed_arc {v w : Nat} (h : Ed (graphOf n A) v w) : ((v : Int), (w : Int)) ∈ A := hasA_mem.1 (ed_graph.1 h).2.2
end
theorem nodup_add {n : Nat} {A : List (Int × Int)} {a b : Int} (h : A.Nodup) : (addA n A a b).Nodup := by
  unfold addA
  split
  · exact h
  · split
    · exact h
    · rename_i hh
      rw [List.nodup_append]
      refine ⟨h, by simp, fun x hx y hy => ?_⟩
      rw [List.mem_singleton] at hy
      subst hy
      intro e; subst e
      exact hh (hasA_mem.2 hx)
theorem nodup_build (n : Nat) (l : List (Int × Int)) : ∀ k, (buildK n l k).Nodup := by
  intro k
  induction k with
  | zero => simp [buildK]
  | succ k ih =>
    cases h : l[k]? with
    | none =>
      have hl := List.getElem?_eq_none_iff.1 h
      have : buildK n l (k + 1) = buildK n l k := by unfold buildK; rw [List.take_of_length_le (by omega), List.take_of_length_le (by omega)]
      rw [this]; exact ih
    | some p => rw [buildK_succ h]; exact nodup_add ih
theorem nodup_sub_len {α : Type} [DecidableEq α] : ∀ {L1 L2 : List α}, L1.Nodup → (∀ x ∈ L1, x ∈ L2) → L1.length ≤ L2.length := by
  intro L1
  induction L1 with
  | nil => intro L2 _ _; exact Nat.zero_le _
  | cons x r ih =>
    intro L2 hn h
    obtain ⟨h1, h2⟩ := List.nodup_cons.1 hn
    have hx := h x (by simp)
    have := ih (L2 := L2.erase x) h2 (fun y hy => (List.mem_erase_of_ne (fun e => h1 (by rw [← e]; exact hy))).2 (h y (by simp [hy])))
    rw [List.length_erase_of_mem hx] at this
    have := List.length_pos_of_mem hx
    rw [List.length_cons]; omega
theorem farS_tb (S : List Nat) (b : Nat) : ∀ L : List Nat, (farS S L).testBit b = true ↔ ∃ u, u ∈ L ∧ (b < 512 ∧ Rch S u b) ∧ u ≠ b := by
  have key : ∀ (L : List Nat) (acc : Nat), (L.foldl (fun a w => a ||| mi (reachM S w) (2 ^ w)) acc).testBit b = true ↔ acc.testBit b = true ∨ ∃ u, u ∈ L ∧ (b < 512 ∧ Rch S u b) ∧ u ≠ b := by
    intro L
    induction L with
    | nil => intro acc; simp
    | cons x r ih =>
      intro acc
      rw [List.foldl_cons, ih, Nat.testBit_or, Bool.or_eq_true, mi_tb, Bool.and_eq_true, Bool.not_eq_true', bit_tb, decide_eq_false_iff_not, reachM_tb]
      constructor
      · rintro ((h | ⟨h1, h2⟩) | ⟨u, hu, h⟩)
        · exact .inl h
        · exact .inr ⟨x, by simp, h1, h2⟩
        · exact .inr ⟨u, by simp [hu], h⟩
      · rintro (h | ⟨u, hu, h1, h2⟩)
        · exact .inl (.inl h)
        · rcases List.mem_cons.1 hu with rfl | hu
          · exact .inl (.inr ⟨h1, h2⟩)
          · exact .inr ⟨u, hu, h1, h2⟩
  intro L
  unfold farS
  rw [key]; simp
/-- an arc that is not left out -/
def Need (S : List Nat) (v w : Nat) : Prop := Ed S v w ∧ ¬ ∃ u, Ed S v u ∧ u ≠ w ∧ Rch S u w
theorem redRow_tb {S : List Nat} (hI : InG S) (h512 : S.length ≤ 512) (hF : ∀ x ∈ S, Fit x) {v w : Nat} : (redRow S v).testBit w = true ↔ Need S v w := by
  unfold redRow Need
  rw [mi_tb, Bool.and_eq_true, Bool.not_eq_true', ← Bool.not_eq_true, farS_tb]
  constructor
  · rintro ⟨h1, h2⟩
    refine ⟨h1, ?_⟩
    rintro ⟨u, h3, h4, h5⟩
    have := (ed_lt hI h1).2
    exact h2 ⟨u, (ed_row hF).2 h3, ⟨by omega, h5⟩, h4⟩
  · rintro ⟨h1, h2⟩
    refine ⟨h1, ?_⟩
    rintro ⟨u, h3, ⟨_, h5⟩, h4⟩
    exact h2 ⟨u, (ed_row hF).1 h3, h4, h5⟩
theorem redRow_fit {S : List Nat} (hF : ∀ x ∈ S, Fit x) (v : Nat) : Fit (redRow S v) := mi_lt _ (getD_fit hF v)
theorem redK_rows (S : List Nat) : ∀ k, k ≤ S.length → (redK S k).1 = (List.range k).map (redRow S) ++ List.replicate (S.length - k) 0 := by
  intro k
  induction k with
  | zero => intro _; simp [redK]
  | succ k ih =>
    intro hk
    rw [redK_succ, ih (by omega), List.range_succ, List.map_append]
    dsimp only
    rw [List.set_append_right _ _ (by simp)]
    have e : S.length - k = (S.length - (k + 1)) + 1 := by omega
    rw [e, List.replicate_succ]
    simp
theorem redK_cnt (S : List Nat) : ∀ k, k ≤ 512 → (redK S k).2 = (((List.range k).flatMap fun v => mem (redRow S v)).length : Int) := by
  intro k
  induction k with
  | zero => intro _; simp [redK]
  | succ k ih =>
    intro hk
    rw [redK_succ, ih (by omega), List.range_succ, List.flatMap_append, List.length_append, List.flatMap_singleton]
    dsimp only
    have h1 := flat_len (fun v => mem (redRow S v)) 512 (List.range k) (fun x _ => mem_len _)
    rw [List.length_range] at h1
    have h2 := mem_len (redRow S k)
    have h3 : k * 512 ≤ 512 * 512 := Nat.mul_le_mul_right _ (by omega)
    unfold wrap64; omega
/-- the reduction of the reference -/
noncomputable def needR (n : Nat) (A : List (Int × Int)) (p : Int × Int) : Bool := (nextL A p.1 n).all fun u => decide (u = p.2) || !inF (memI (reachM (graphOf n A) u.toNat)) p.2
noncomputable def redR (n : Nat) (A : List (Int × Int)) : List (Int × Int) := A.filter (needR n A)
theorem nextL_mem {A : List (Int × Int)} {n v : Nat} {u : Int} : u ∈ nextL A (v : Int) n ↔ ∃ w : Nat, u = (w : Int) ∧ w < n ∧ hasA A (v : Int) (w : Int) = true := by
  unfold nextL
  rw [List.mem_map]
  constructor
  · rintro ⟨w, hw, rfl⟩
    rw [List.mem_filter, List.mem_range] at hw
    exact ⟨w, rfl, hw⟩
  · rintro ⟨w, rfl, hw⟩
    exact ⟨w, by rw [List.mem_filter, List.mem_range]; exact hw, rfl⟩
theorem memI_mem {T w : Nat} (hT : Fit T) : inF (memI T) (w : Int) = true ↔ T.testBit w = true := by
  rw [inF_iff]
  unfold memI
  rw [List.mem_map, ← mem_iff hT]
  constructor
  · rintro ⟨x, hx, e⟩; have : x = w := by omega
    subst this; exact hx
  · intro h; exact ⟨w, h, rfl⟩
section
variable {n : Nat} {A : List (Int × Int)} (hn : n ≤ 512) (hA : VA n A)
include hn
theorem needR_iff {v w : Nat} (hv : v < n) (hw : w < n) : needR n A ((v : Int), (w : Int)) = true ↔ ¬ ∃ u, Ed (graphOf n A) v u ∧ u ≠ w ∧ Rch (graphOf n A) u w := by
  unfold needR
  rw [List.all_eq_true]
  dsimp only
  constructor
  · rintro h ⟨u, h1, h2, h3⟩
    have he := ed_graph.1 h1
    have h4 := h (u : Int) (nextL_mem.2 ⟨u, rfl, he.2⟩)
    rw [Bool.or_eq_true, decide_eq_true_eq, Bool.not_eq_true', ← Bool.not_eq_true, Int.toNat_natCast, memI_mem (reachM_fit _ _), reachM_tb] at h4
    rcases h4 with h4 | h4
    · exact h2 (by omega)
    · exact h4 ⟨by omega, h3⟩
  · intro h u hu
    obtain ⟨u', rfl, h1, h2⟩ := nextL_mem.1 hu
    rw [Bool.or_eq_true, decide_eq_true_eq, Bool.not_eq_true', ← Bool.not_eq_true, Int.toNat_natCast, memI_mem (reachM_fit _ _), reachM_tb]
    by_cases e : u' = w
    · left; omega
    · right
      rintro ⟨_, h3⟩
      exact h ⟨u', ed_graph.2 ⟨hv, h1, h2⟩, e, h3⟩
include hA
theorem hasA_red {v w : Nat} : hasA (redR n A) (v : Int) (w : Int) = true ↔ Need (graphOf n A) v w := by
  rw [hasA_mem]
  unfold redR Need
  rw [List.mem_filter]
  constructor
  · rintro ⟨h1, h2⟩
    have h3 := hasA_va hA (hasA_mem.2 h1)
    have hv : v < n := by omega
    have hw : w < n := by omega
    exact ⟨ed_graph.2 ⟨hv, hw, hasA_mem.2 h1⟩, (needR_iff hn hv hw).1 h2⟩
  · rintro ⟨h1, h2⟩
    have h3 := ed_graph.1 h1
    exact ⟨hasA_mem.1 h3.2.2, (needR_iff hn h3.1 h3.2.1).2 h2⟩
theorem red_graph : (redK (graphOf n A) n).1 = graphOf n (redR n A) := by
  have hF := graphOf_fit hn A
  have hI := graphOf_in n A
  have h := redK_rows (graphOf n A) n (by rw [graphOf_len]; omega)
  rw [graphOf_len, Nat.sub_self, List.replicate_zero, List.append_nil] at h
  rw [h]
  unfold graphOf
  refine List.map_congr_left fun v hv => ?_
  have hv' := List.mem_range.1 hv
  apply Nat.eq_of_testBit_eq
  intro b
  rw [Bool.eq_iff_iff]
  have e1 := redRow_tb (S := graphOf n A) hI (by rw [graphOf_len]; exact hn) hF (v := v) (w := b)
  unfold graphOf at e1
  rw [e1, rowOf_tb, hasA_red hn hA]
  unfold graphOf
  constructor
  · intro h; refine ⟨?_, h⟩
    have := (ed_lt hI h.1).2
    rwa [graphOf_len] at this
  · exact fun h => h.2
theorem red_len (hnd : A.Nodup) : (redK (graphOf n A) n).2 = ((redR n A).length : Int) := by
  have hF := graphOf_fit hn A
  have hI := graphOf_in n A
  rw [redK_cnt _ _ hn]
  congr 1
  have e : ((List.range n).flatMap fun v => mem (redRow (graphOf n A) v)).length = ((List.range n).flatMap fun v : Nat => (mem (redRow (graphOf n A) v)).map fun w : Nat => ((v : Int), (w : Int))).length := by
    rw [List.length_flatMap, List.length_flatMap]
    simp only [List.length_map]
  rw [e]
  have hmem : ∀ p, p ∈ ((List.range n).flatMap fun v : Nat => (mem (redRow (graphOf n A) v)).map fun w : Nat => ((v : Int), (w : Int))) ↔ p ∈ redR n A := by
    rintro ⟨a, b⟩
    rw [List.mem_flatMap]
    constructor
    · rintro ⟨v, hv, hp⟩
      obtain ⟨w, hw, e⟩ := List.mem_map.1 hp
      cases e
      rw [mem_iff (redRow_fit hF v), redRow_tb hI (by rw [graphOf_len]; exact hn) hF] at hw
      exact hasA_mem.1 ((hasA_red hn hA).2 hw)
    · intro hp
      obtain ⟨v, w, e, he⟩ := va_mem hA (List.mem_filter.1 hp).1
      cases e
      refine ⟨v, List.mem_range.2 (ed_graph.1 he).1, List.mem_map.2 ⟨w, ?_, rfl⟩⟩
      rw [mem_iff (redRow_fit hF v), redRow_tb hI (by rw [graphOf_len]; exact hn) hF]
      exact (hasA_red hn hA).1 (hasA_mem.2 hp)
  have hnd1 : ((List.range n).flatMap fun v : Nat => (mem (redRow (graphOf n A) v)).map fun w : Nat => ((v : Int), (w : Int))).Nodup := by
    unfold List.Nodup
    rw [List.pairwise_flatMap]
    refine ⟨fun v _ => ?_, ?_⟩
    · rw [List.pairwise_map]
      exact (mem_sorted _).imp (fun h e => by simp at e; omega)
    · refine List.pairwise_lt_range.imp (fun {a b} h x hx y hy e => ?_)
      obtain ⟨_, _, rfl⟩ := List.mem_map.1 hx
      obtain ⟨_, _, rfl⟩ := List.mem_map.1 hy
      simp at e; omega
  exact Nat.le_antisymm (nodup_sub_len hnd1 (fun p hp => (hmem p).1 hp)) (nodup_sub_len (hnd.filter _) (fun p hp => (hmem p).2 hp))
end
end Go.Proofs.YtpaakgngoocjeaaDoor

namespace Go.Proofs.YtpaakgngoocjeaaDoor
open Go.RowKit

theorem inF_zs (L : List Nat) (x : Nat) : inF (zs L) (x : Int) = decide (x ∈ L) := by
  rw [Bool.eq_iff_iff, inF_iff, decide_eq_true_eq]
  unfold zs
  rw [List.mem_map]
  constructor
  · rintro ⟨y, hy, e⟩
    have : y = x := by omega
    subst this; exact hy
  · intro h; exact ⟨x, h, rfl⟩
theorem zs_len (L : List Nat) : (zs L).length = L.length := by unfold zs; simp
theorem zs_snoc (L : List Nat) (x : Nat) : zs (L ++ [x]) = zs L ++ [(x : Int)] := by unfold zs; simp
/-- what is found after some vertices -/
def FI (S : List Nat) (v k : Nat) (L : List Nat) : Prop := L.Nodup ∧ (∀ x ∈ L, x < S.length ∧ Rch S v x) ∧ v ∈ L ∧ k ≤ L.length ∧ ∀ j x : Nat, j < k → L[j]? = some x → ∀ u, Ed S x u → u ∈ L
/-- within a vertex: the next ones up to q -/
def FJ (S : List Nat) (v : Nat) (L0 nx : List Nat) (q : Nat) (L : List Nat) : Prop := L0 <+: L ∧ L.Nodup ∧ (∀ x ∈ L, x < S.length ∧ Rch S v x) ∧ ∀ j u : Nat, j < q → nx[j]? = some u → u ∈ L
theorem FI.len {S : List Nat} {v k : Nat} {L : List Nat} (h : FI S v k L) : L.length ≤ S.length := nodup_len h.1 (fun x hx => (h.2.1 x hx).1)
theorem FJ.len {S : List Nat} {v q : Nat} {L0 nx L : List Nat} (h : FJ S v L0 nx q L) : L.length ≤ S.length := nodup_len h.2.1 (fun x hx => (h.2.2.1 x hx).1)
theorem fj_start {S : List Nat} {v k : Nat} {L nx : List Nat} (h : FI S v k L) : FJ S v L nx 0 L := ⟨List.prefix_refl _, h.1, h.2.1, fun j u hj => by omega⟩
theorem fj_old {S : List Nat} {v q y : Nat} {L0 nx L : List Nat} (h : FJ S v L0 nx q L) (hy : nx[q]? = some y) (hm : y ∈ L) : FJ S v L0 nx (q + 1) L :=
  ⟨h.1, h.2.1, h.2.2.1, fun j u hj hu => by
    rcases Nat.lt_or_ge j q with h1 | h1
    · exact h.2.2.2 j u h1 hu
    · have : j = q := by omega
      subst this; rw [hy] at hu; cases hu; exact hm⟩
theorem fj_new {S : List Nat} (hI : InG S) {v q x y : Nat} {L0 nx L : List Nat} (h : FJ S v L0 nx q L) (hy : nx[q]? = some y) (hm : y ∉ L) (hx : Rch S v x) (he : Ed S x y) : FJ S v L0 nx (q + 1) (L ++ [y]) := by
  refine ⟨h.1.trans (List.prefix_append _ _), ?_, fun z hz => ?_, fun j u hj hu => ?_⟩
  · rw [List.nodup_append]
    refine ⟨h.2.1, by simp, fun a ha b hb => ?_⟩
    rw [List.mem_singleton] at hb; subst hb
    intro e; subst e; exact hm ha
  · rcases List.mem_append.1 hz with h1 | h1
    · exact h.2.2.1 z h1
    · rw [List.mem_singleton] at h1; subst h1; exact ⟨(ed_lt hI he).2, .step hx he⟩
  · rcases Nat.lt_or_ge j q with h1 | h1
    · exact List.mem_append_left _ (h.2.2.2 j u h1 hu)
    · have : j = q := by omega
      subst this; rw [hy] at hu; cases hu; simp
theorem fj_end {S : List Nat} {v k q x : Nat} {L0 nx L : List Nat} (h0 : FI S v k L0) (hx : L0[k]? = some x) (hnx : ∀ u, Ed S x u → u ∈ nx) (hq : nx.length ≤ q) (h : FJ S v L0 nx q L) : FI S v (k + 1) L := by
  have hk := (List.getElem?_eq_some_iff.1 hx).1
  have hle := h.1.length_le
  refine ⟨h.2.1, h.2.2.1, h.1.subset h0.2.2.1, by omega, fun j z hj hz u hu => ?_⟩
  have hj0 : L0[j]? = some z := by
    obtain ⟨r, rfl⟩ := h.1
    rw [List.getElem?_append_left (by omega)] at hz
    exact hz
  rcases Nat.lt_or_ge j k with h1 | h1
  · exact h.1.subset (h0.2.2.2.2 j z h1 hj0 u hu)
  · have : j = k := by omega
    subst this
    rw [hx] at hj0; cases hj0
    obtain ⟨i, hi⟩ := List.getElem?_of_mem (hnx u hu)
    exact h.2.2.2 i u (by have := (List.getElem?_eq_some_iff.1 hi).1; omega) hi
theorem fi_all {S : List Nat} {v k : Nat} {L : List Nat} (h : FI S v k L) (hk : L.length ≤ k) (u : Nat) : u ∈ L ↔ Rch S v u := by
  constructor
  · exact fun hu => (h.2.1 u hu).2
  · intro hr
    induction hr with
    | refl => exact h.2.2.1
    | @step a b _ he ih =>
      obtain ⟨i, hi⟩ := List.getElem?_of_mem ih
      exact h.2.2.2.2 i a (by have := (List.getElem?_eq_some_iff.1 hi).1; omega) hi b he
theorem filter_range_succ (p : Nat → Bool) (k : Nat) : (List.range (k + 1)).filter p = (List.range k).filter p ++ if p k then [k] else [] := by
  rw [List.range_succ, List.filter_append]
  congr 1
  by_cases h : p k <;> simp [h]

set_option maxRecDepth 100000 in
set_option maxHeartbeats 4000000 in
theorem rreach_any (n : Nat) (Al : Option Addr) (m c : Nat) (A : List (Int × Int)) (v : Nat) (w : World) (hn : n ≤ 512) (hm : m ≤ 100000) (hl : RowS 2 arcV w w.heap.size Al m A) (hv : v < n) :
    Calls Tryd.prog 27 #[.int .i64 n, .slice Al m c, .int .i64 v] w (NewInts (zs (mem (reachM (graphOf n A) v))) w) := by
  obtain ⟨i0, hi, hz0, hz1, hz2⟩ := info_parts int_info
  have HNX : Hid (∀ (x : Int) W, Below w.heap.size w W → Calls Tryd.prog 23 #[.int .i64 n, .slice Al m c, .int .i64 x] W (NewInts (nextL A x n) W)) := Lib.hid (fun x W hb => rnext_any n Al m c x W A (by omega) hm ((hl.below hb).up hb.size))
  have HI := Lib.hid (graphOf_in n A)
  have HLN : Hid ((graphOf n A).length = n) := Lib.hid (graphOf_len n A)
  have HF := Lib.hid (graphOf_fit hn A)
  have HMI := Lib.hid (fun x => memI_rowOf hn A x)
  have HGD : Hid (∀ x, x < n → (graphOf n A).getD x 0 = rowOf n A x) := Lib.hid (fun x hx => graphOf_getD hx)
  generalize graphOf n A = S at *
  have HST : Hid (FI S v 0 [v]) := Lib.hid ⟨by simp, fun x hx => by rw [List.mem_singleton] at hx; subst hx; exact ⟨by rw [HLN.out]; exact hv, .refl⟩, by simp, by simp, fun j x hj => by omega⟩
  have HP0 : Hid (Hp w w (w.alloc (.cells #[.int .i64 (v : Int)] 3)) [.row (.slice (some ⟨w.heap.size, 0, none⟩) 1 1) 3 1 1 [.int .i64 (v : Int)]] []) := Lib.hid (((Hp.start w).alloc [.int .i64 (v : Int)] 3).toRow 0 1 1 rfl rfl (by decide))
  clear hl hv
  go_enter Tryd.func27, Tryd.ntmps27
  go_upto_region 2 with fail
  obtain ⟨V0, hV0⟩ : ∃ V0, V0 = w.alloc (.cells #[.int .i64 (v : Int)] 3) := ⟨_, rfl⟩
  rw [← hV0] at HP0 ⊢
  clear hV0
  go_wp2_with fail
  go_loopw [7, 8] (fun vf i wr => ∃ (k : Nat) (L : List Nat), i = .int .i64 k ∧ FI S v k L ∧ Hp w w wr [.row vf 3 1 L.length ((zs L).map intV)] []) (fun _ i _ => n - (intOf i).toNat)
  case atStart => exact ⟨0, [v], rfl, HST.out, HP0.out⟩
  case round =>
    clear HP0 HST
    obtain ⟨k, L, rfl, hFI, hP⟩ := hrel
    have HFI := Lib.hid hFI
    have HP := Lib.hid hP
    obtain ⟨A1, c1, rfl⟩ := hP.form 0 rfl
    have hLn := hFI.len
    rw [HLN.out] at hLn
    have hkL := hFI.2.2.2.1
    by_cases hlt : k < L.length
    · have j0 : (k : Int) < (L.length : Int) := by omega
      obtain ⟨x, hx⟩ : ∃ x, L[k]? = some x := ⟨_, List.getElem?_eq_getElem hlt⟩
      have HX := Lib.hid hx
      have HXR := Lib.hid (hFI.2.1 x (List.mem_of_getElem? hx))
      have hxn : x < n := by have := HXR.out.1; rw [HLN.out] at this; exact this
      obtain ⟨g1, d1, e1, y0, y1, y2⟩ := hP.at 0 k rfl (show ((zs L).map intV)[k]? = some (.int .i64 (x : Int)) by unfold zs; rw [List.getElem?_map, List.getElem?_map, hx]; rfl)
      injection e1 with e1 _ e1c
      subst e1 e1c
      have HN1 := HNX.out (x : Int) wr hP.below
      rw [← HMI.out x] at HN1
      replace HN1 := Lib.hid HN1
      have HRW : Hid (∀ u, u ∈ mem (rowOf n A x) ↔ Ed S x u) := Lib.hid (fun u => by rw [← HGD.out x hxn]; exact ed_row HF.out)
      have HNE : Hid (memI (rowOf n A x) = zs (mem (rowOf n A x))) := Lib.hid rfl
      rw [HNE.out] at HN1
      have hnl := mem_len (rowOf n A x)
      generalize mem (rowOf n A x) = nx at *
      have HFJ0 := Lib.hid (fj_start (nx := nx) hFI)
      clear hFI hP hx HNE
      go_wp2_with fail
      refine HN1.out.mono ?_
      rintro e w1 ⟨v1, rfl, hown1, hb1⟩
      have hP1 := HP.out.pushRow hb1 hown1
      rw [zs_len] at hP1
      have HP1 := Lib.hid hP1
      obtain ⟨A2, c2, rfl⟩ := hP1.form 1 rfl
      clear hb1 hown1 hP1 HN1 HP y0 y1 y2
      go_wp2_with fail
      go_loopw [7, 10] (fun vf i wr => ∃ (q : Nat) (L' : List Nat), q ≤ nx.length ∧ i = .int .i64 q ∧ FJ S v L nx q L' ∧ Hp w w wr [.row vf 3 1 L'.length ((zs L').map intV), .row (.slice A2 nx.length c2) 3 1 nx.length ((zs nx).map intV)] []) (fun _ i _ => nx.length - (intOf i).toNat)
      case atStart => exact ⟨0, L, Nat.zero_le _, rfl, HFJ0.out, HP1.out⟩
      case round =>
        clear HP1 HFJ0
        obtain ⟨q, L', hq, rfl, hFJ, hP⟩ := hrel
        have HFJ := Lib.hid hFJ
        have HP := Lib.hid hP
        obtain ⟨A3, c3, rfl⟩ := hP.form 0 rfl
        have hLn' := hFJ.len
        rw [HLN.out] at hLn'
        by_cases hlt2 : q < nx.length
        · have j1 : (q : Int) < (nx.length : Int) := by omega
          obtain ⟨y, hy⟩ : ∃ y, nx[q]? = some y := ⟨_, List.getElem?_eq_getElem hlt2⟩
          obtain ⟨g2, d2, e2, y0, y1, y2⟩ := hP.at 1 q rfl (show ((zs nx).map intV)[q]? = some (.int .i64 (y : Int)) by unfold zs; rw [List.getElem?_map, List.getElem?_map, hy]; rfl)
          injection e2 with e2 _ e2c
          subst e2 e2c
          obtain ⟨A3', c3', e3, hr3⟩ := row1_of_own (hP.row 0 rfl)
          injection e3 with e3 _ e3c
          subst e3 e3c
          have HIN := rin_any A3 L'.length c3 (y : Int) wr _ (zs L') (by omega) (by simpa [zs_len] using hr3)
          rw [inF_zs] at HIN
          by_cases hm2 : y ∈ L'
          · rw [decide_eq_true hm2] at HIN
            have HIN := Lib.hid HIN
            have HFJ2 := Lib.hid (fj_old hFJ hy hm2)
            clear hP hFJ hy hr3 hm2
            go_wp2_with fail
            refine HIN.out.mono ?_
            rintro e w2 ⟨rfl, rfl⟩
            go_wp2_with fail
            go_roundw
            case rel => exact ⟨q + 1, L', hlt2, by go_num, HFJ2.out, HP.out⟩
            case measure => simp [intOf]; omega
          · rw [decide_eq_false hm2] at HIN
            have HIN := Lib.hid HIN
            have HFJ2 := Lib.hid (fj_new HI.out hFJ hy hm2 HXR.out.2 ((HRW.out y).1 (List.mem_of_getElem? hy)))
            clear hP hFJ hy hr3 hm2
            go_wp2_with fail
            refine HIN.out.mono ?_
            rintro e w2 ⟨rfl, rfl⟩
            go_wp2_with (at_builtin; refine wpList_append_own_at _ rfl _ _ 36 rfl w.heap.size 3 i0 (.int .i64 0) 1 8 Tryd.underlying36 hi hz0 hz1 hz2 rfl (by decide) _ _ _ rfl ((HP.out.row 0 rfl).alloc _) ⟨wr.heap.size, 0, none⟩ 1 1 [.int .i64 ((y : Int))] rfl rfl (cell_one_new _ _ _) (by simp [Value.oneCell']) (by unfold maxLen; omega) (by omega) (by have := HP.out.below.size; simp; omega) ?_; intro v4 w4 hown' hgrow _ hat; have HP4 := Lib.hid ((HP.out.alloc0 _).grow 0 rfl hgrow hown' hat); obtain ⟨A4, cp4, rfl⟩ := HP4.out.form 0 rfl; clear hown' hgrow hat)
            go_roundw
            case rel => exact ⟨q + 1, L' ++ [y], hlt2, by go_num, HFJ2.out, by rw [zs_snoc, List.map_append, List.length_append]; exact HP4.out⟩
            case measure => simp [intOf]; omega
        · obtain rfl : q = nx.length := by omega
          have HFI2 := Lib.hid (fj_end HFI.out HX.out (fun u hu => (HRW.out u).2 hu) (Nat.le_refl _) hFJ)
          clear hP hFJ
          go_wp2_with fail
          go_roundw
          case rel => exact ⟨k + 1, L', by go_num, HFI2.out, HP.out.sub (by simp)⟩
          case measure => simp [intOf]; omega
    · obtain rfl : k = L.length := by omega
      have HAL : Hid ((List.range n).filter (fun u => decide (u ∈ L)) = mem (reachM S v)) := Lib.hid (by
        refine sorted_ext (List.Pairwise.filter _ List.pairwise_lt_range) (mem_sorted _) fun u => ?_
        rw [List.mem_filter, List.mem_range, decide_eq_true_eq, fi_all HFI.out (Nat.le_refl _) u, mem_iff (reachM_fit S v), reachM_tb]
        constructor
        · rintro ⟨h1, h2⟩; exact ⟨by omega, h2⟩
        · rintro ⟨h1, h2⟩
          refine ⟨?_, h2⟩
          have := (HFI.out.2.1 u ((fi_all HFI.out (Nat.le_refl _) u).2 h2)).1
          rw [HLN.out] at this; exact this)
      have HP2 := Lib.hid (hP.nil 3 1)
      clear hP hFI hkL
      go_wp2_with fail
      go_loopw [11, 12] (fun vo i wr => ∃ q : Nat, q ≤ n ∧ i = .int .i64 q ∧ Hp w w wr [.row (.slice A1 L.length c1) 3 1 L.length ((zs L).map intV), .row vo 3 1 ((List.range q).filter fun u => decide (u ∈ L)).length ((zs ((List.range q).filter fun u => decide (u ∈ L))).map intV)] []) (fun _ i _ => n - (intOf i).toNat)
      case atStart => exact ⟨0, Nat.zero_le _, rfl, HP2.out⟩
      case round =>
        clear HP2 HP
        obtain ⟨q, hq, rfl, hP⟩ := hrel
        have HP := Lib.hid hP
        obtain ⟨A2, c2, rfl⟩ := hP.form 1 rfl
        by_cases hlt2 : q < n
        · have j1 : (q : Int) < (n : Int) := by omega
          obtain ⟨A3', c3', e3, hr3⟩ := row1_of_own (hP.row 0 rfl)
          injection e3 with e3 _ e3c
          subst e3 e3c
          have HIN := rin_any A1 L.length c1 (q : Int) wr _ (zs L) (by omega) (by simpa [zs_len] using hr3)
          rw [inF_zs] at HIN
          have HSU := Eqn.mk (filter_range_succ (fun u => decide (u ∈ L)) q)
          have hll : ((List.range q).filter fun u => decide (u ∈ L)).length ≤ q := by
            have := List.length_filter_le (fun u => decide (u ∈ L)) (List.range q)
            rwa [List.length_range] at this
          generalize (List.range q).filter (fun u => decide (u ∈ L)) = O at *
          by_cases hm2 : q ∈ L
          · rw [decide_eq_true hm2] at HIN HSU
            have HSU2 : Eqn ((List.range (q + 1)).filter (fun u => decide (u ∈ L))) (O ++ [q]) := HSU
            have HIN := Lib.hid HIN
            clear hP hr3 hm2 HSU
            go_wp2_with fail
            refine HIN.out.mono ?_
            rintro e w2 ⟨rfl, rfl⟩
            go_wp2_with (at_builtin; refine wpList_append_own_at _ rfl _ _ 36 rfl w.heap.size 3 i0 (.int .i64 0) 1 8 Tryd.underlying36 hi hz0 hz1 hz2 rfl (by decide) _ _ _ rfl ((HP.out.row 1 rfl).alloc _) ⟨wr.heap.size, 0, none⟩ 1 1 [.int .i64 ((q : Int))] rfl rfl (cell_one_new _ _ _) (by simp [Value.oneCell']) (by unfold maxLen; omega) (by omega) (by have := HP.out.below.size; simp; omega) ?_; intro v4 w4 hown' hgrow _ hat; have HP4 := Lib.hid ((HP.out.alloc0 _).grow 1 rfl hgrow hown' hat); obtain ⟨A4, cp4, rfl⟩ := HP4.out.form 1 rfl; clear hown' hgrow hat)
            go_roundw
            case rel => exact ⟨q + 1, hlt2, by go_num, by rw [HSU2.out, zs_snoc, List.map_append, List.length_append]; exact HP4.out⟩
            case measure => simp [intOf]; omega
          · rw [decide_eq_false hm2] at HIN HSU
            have HSU2 : Eqn ((List.range (q + 1)).filter (fun u => decide (u ∈ L))) O := by rw [Eqn, HSU.out]; simp
            have HIN := Lib.hid HIN
            clear hP hr3 hm2 HSU
            go_wp2_with fail
            refine HIN.out.mono ?_
            rintro e w2 ⟨rfl, rfl⟩
            go_wp2_with fail
            go_roundw
            case rel => exact ⟨q + 1, hlt2, by go_num, by rw [HSU2.out]; exact HP.out⟩
            case measure => simp [intOf]; omega
        · obtain rfl : q = n := by omega
          rw [HAL.out] at HP ⊢
          clear hP
          go_wp2_with fail
          go_ret
          exact ⟨_, rfl, by have := HP.out.row 1 rfl; rw [zs_len]; exact this, HP.out.below⟩
end Go.Proofs.YtpaakgngoocjeaaDoor
