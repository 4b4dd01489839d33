/- Plain laws for assignments of claims to blocks: the table that goes from the last block to the first, and the list of all assignments. No program in sight. -/
import Derived.WalkKit
namespace Go.Proofs.Yteckijkmcafpaaa

/-- a number of a list, or -1 -/
def nth (x : List Int) (i : Nat) : Int := x.getD i (-1)
theorem nth_set (x : List Int) (i j : Nat) (v : Int) (h : i < x.length) : nth (x.set i v) j = if j = i then v else nth x j := by
  unfold nth
  rw [List.getD_eq_getElem?_getD, List.getD_eq_getElem?_getD, List.getElem?_set]
  by_cases e : i = j
  · subst e; simp [h]
  · rw [if_neg e, if_neg (fun h => e h.symm)]
theorem nth_rep (n i : Nat) : nth (List.replicate n (-1)) i = -1 := by
  unfold nth
  rw [List.getD_eq_getElem?_getD, List.getElem?_replicate]
  split <;> rfl
theorem nth_ext {x y : List Int} (h : x.length = y.length) (h' : ∀ i, i < x.length → nth x i = nth y i) : x = y := by
  apply List.ext_getElem h
  intro i h1 h2
  have := h' i h1
  unfold nth at this
  rw [List.getD_eq_getElem?_getD, List.getD_eq_getElem?_getD, List.getElem?_eq_getElem h1, List.getElem?_eq_getElem h2] at this
  exact this

/-- a set without a member -/
def clr (s i : Nat) : Nat := s ^^^ (if s.testBit i then 2 ^ i else 0)
theorem clr_bit (s i j : Nat) : (clr s i).testBit j = (decide (j ≠ i) && s.testBit j) := by
  unfold clr
  by_cases h : s.testBit i = true
  · rw [if_pos h, Nat.testBit_xor, Nat.testBit_two_pow]
    by_cases e : j = i
    · subst e; simp [h]
    · simp [e, Ne.symm e]
  · rw [if_neg h, Nat.xor_zero]
    by_cases e : j = i
    · subst e; simpa using h
    · simp [e]
theorem clr_lt {s i n : Nat} (h : s < 2 ^ n) : clr s i < 2 ^ n := by
  unfold clr
  by_cases hb : s.testBit i = true
  · rw [if_pos hb]
    refine Nat.xor_lt_two_pow h (Nat.pow_lt_pow_right (by omega) ?_)
    rcases Nat.lt_or_ge i n with hi | hi
    · exact hi
    · have h2 := Nat.testBit_lt_two_pow (Nat.lt_of_lt_of_le h (Nat.pow_le_pow_right (by omega) hi))
      rw [hb] at h2
      cases h2
  · rw [if_neg hb, Nat.xor_zero]
    exact h

section
variable (n B : Nat) (cn : Nat → Nat) (fx : Nat → Int) (val : Nat → Nat → Int)

/-- what claim i may begin at a place -/
def may (s r i : Nat) : Prop := s.testBit i = true ∧ r + cn i ≤ B ∧ ¬ (0 ≤ fx i ∧ fx i ≠ r)
instance (s r i : Nat) : Decidable (may B cn fx s r i) := by unfold may; infer_instance

/-- one claim more at a place: the value and the number -/
def step (T : Nat → Nat → Int × Int) (r s : Nat) (p : Int × Int) (i : Nat) : Int × Int :=
  if may B cn fx s r i ∧ (T (r + cn i) (clr s i)).2 ≠ 0 then
    (if p.2 = 0 ∨ p.1 < (T (r + cn i) (clr s i)).1 + val i r then (T (r + cn i) (clr s i)).1 + val i r else p.1, p.2 + (T (r + cn i) (clr s i)).2)
  else p
/-- the table when d places are done, from the last on -/
def dpT : Nat → Nat → Nat → Int × Int
  | 0, r, s => if r = B ∧ s = 0 then (0, 1) else (0, 0)
  | d + 1, r, s => if r + (d + 1) = B then (List.range n).foldl (step B cn fx val (dpT d) r s) (dpT d (r + 1) s) else dpT d r s

/-- the assignments -/
def en : Nat → Nat → Nat → List (List Int)
  | 0, r, s => if r = B ∧ s = 0 then [List.replicate n (-1)] else []
  | d + 1, r, s => if r + (d + 1) = B then en d (r + 1) s ++ (List.range n).flatMap (fun i => if may B cn fx s r i then (en d (r + cn i) (clr s i)).map (fun x => x.set i (r : Int)) else []) else en d r s

/-- the value of an assignment -/
def worth (x : List Int) : Int := ((List.range n).map fun i => if nth x i < 0 then 0 else val i (nth x i).toNat).sum

/-- the value and the number belong to a list of assignments -/
def Sol (wo : List Int → Int) (p : Int × Int) (E : List (List Int)) : Prop :=
  p.2 = E.length ∧ (E = [] → p.1 = 0) ∧ (E ≠ [] → (∃ x ∈ E, wo x = p.1) ∧ ∀ x ∈ E, wo x ≤ p.1)

/-- an assignment of the claims of a set, from a place on -/
def Good (r s : Nat) (x : List Int) : Prop :=
  x.length = n ∧ (∀ i, i < n → s.testBit i = false → nth x i = -1) ∧ (∀ i, i < n → s.testBit i = true → (r : Int) ≤ nth x i ∧ nth x i + cn i ≤ B ∧ ¬ (0 ≤ fx i ∧ fx i ≠ nth x i)) ∧
    ∀ i j, i < n → j < n → i ≠ j → s.testBit i = true → s.testBit j = true → nth x i + cn i ≤ nth x j ∨ nth x j + cn j ≤ nth x i
end

section
variable {n B : Nat} {cn : Nat → Nat} {fx : Nat → Int} {val : Nat → Nat → Int}

theorem Good.set {r s i : Nat} {y : List Int} (hn : i < n) (hm : may B cn fx s r i) (h1 : 1 ≤ cn i) (h : Good n B cn fx (r + cn i) (clr s i) y) : Good n B cn fx r s (y.set i (r : Int)) := by
  obtain ⟨g1, g2, g3, g4⟩ := h
  obtain ⟨m1, m2, m3⟩ := hm
  have hy : i < y.length := by omega
  refine ⟨by rw [List.length_set, g1], fun j hj hb => ?_, fun j hj hb => ?_, fun a b ha hb hab sa sb => ?_⟩
  · rw [nth_set _ _ _ _ hy]
    by_cases e : j = i
    · subst e; rw [m1] at hb; cases hb
    · rw [if_neg e]; exact g2 j hj (by rw [clr_bit]; simp [hb])
  · rw [nth_set _ _ _ _ hy]
    by_cases e : j = i
    · subst e
      rw [if_pos rfl]
      exact ⟨by omega, by omega, m3⟩
    · rw [if_neg e]
      have := g3 j hj (by rw [clr_bit]; simp [hb, e])
      exact ⟨by omega, this.2⟩
  · rw [nth_set _ _ _ _ hy, nth_set _ _ _ _ hy]
    by_cases e : a = i
    · subst e
      rw [if_pos rfl, if_neg (Ne.symm hab)]
      have := (g3 b hb (by rw [clr_bit]; simp [sb, Ne.symm hab])).1
      left; omega
    · rw [if_neg e]
      by_cases e' : b = i
      · subst e'
        rw [if_pos rfl]
        have := (g3 a ha (by rw [clr_bit]; simp [sa, e])).1
        right; omega
      · rw [if_neg e']
        exact g4 a b ha hb hab (by rw [clr_bit]; simp [sa, e]) (by rw [clr_bit]; simp [sb, e'])

theorem Good.clear {r s i : Nat} {x : List Int} (hn : i < n) (hs : s.testBit i = true) (hx : nth x i = r) (h1 : ∀ j, j < n → 1 ≤ cn j) (h : Good n B cn fx r s x) : Good n B cn fx (r + cn i) (clr s i) (x.set i (-1)) ∧ may B cn fx s r i := by
  obtain ⟨g1, g2, g3, g4⟩ := h
  have hy : i < x.length := by omega
  refine ⟨⟨by rw [List.length_set, g1], fun j hj hb => ?_, fun j hj hb => ?_, fun a b ha hb hab sa sb => ?_⟩, hs, ?_, ?_⟩
  · rw [nth_set _ _ _ _ hy]
    by_cases e : j = i
    · rw [if_pos e]
    · rw [if_neg e]
      rw [clr_bit] at hb
      exact g2 j hj (by simpa [e] using hb)
  · rw [clr_bit, Bool.and_eq_true, decide_eq_true_eq] at hb
    rw [nth_set _ _ _ _ hy, if_neg hb.1]
    have a1 := g3 j hj hb.2
    have a2 := g4 j i hj hn hb.1 hb.2 hs
    have a3 := h1 j hj
    refine ⟨?_, a1.2⟩
    rcases a2 with a2 | a2 <;> omega
  · rw [clr_bit, Bool.and_eq_true, decide_eq_true_eq] at sa sb
    rw [nth_set _ _ _ _ hy, nth_set _ _ _ _ hy, if_neg sa.1, if_neg sb.1]
    exact g4 a b ha hb hab sa.2 sb.2
  · have := (g3 i hn hs).2.1
    omega
  · have := (g3 i hn hs).2.2
    rw [hx] at this
    exact this

theorem set_back {x : List Int} {i : Nat} {v : Int} (h : i < x.length) (hx : nth x i = v) (u : Int) : (x.set i u).set i v = x := by
  apply nth_ext (by simp)
  intro j _
  rw [nth_set _ _ _ _ (by simpa using h), nth_set _ _ _ _ h]
  by_cases e : j = i
  · subst e; rw [if_pos rfl, hx]
  · rw [if_neg e, if_neg e]

theorem bit_big {n s j : Nat} (hs : s < 2 ^ n) (hj : n ≤ j) : s.testBit j = false := Nat.testBit_lt_two_pow (Nat.lt_of_lt_of_le hs (Nat.pow_le_pow_right (by omega) hj))

theorem mem_en (h1 : ∀ j, j < n → 1 ≤ cn j) : ∀ (d r s : Nat), r ≤ B → B ≤ r + d → s < 2 ^ n → ∀ x, x ∈ en n B cn fx d r s ↔ Good n B cn fx r s x := by
  intro d
  induction d with
  | zero =>
    intro r s hr hd hs x
    obtain rfl : r = B := by omega
    rw [en]
    by_cases h0 : s = 0
    · subst h0
      rw [if_pos ⟨rfl, rfl⟩, List.mem_singleton]
      constructor
      · rintro rfl
        exact ⟨by simp, fun i _ _ => nth_rep n i, fun i _ h => by simp at h, fun i j _ _ _ h => by simp at h⟩
      · rintro ⟨g1, g2, _⟩
        apply nth_ext (by simpa using g1)
        intro i hi
        rw [nth_rep, g2 i (by omega) (by simp)]
    · rw [if_neg (fun h => h0 h.2)]
      constructor
      · intro h; cases h
      · rintro ⟨_, _, g3, _⟩
        exfalso
        apply h0
        apply Nat.eq_of_testBit_eq
        intro i
        rw [Nat.zero_testBit]
        by_cases hi : i < n
        · cases hb : s.testBit i with
          | false => rfl
          | true =>
            have := g3 i hi hb
            have := h1 i hi
            omega
        · exact bit_big hs (by omega)
  | succ d ih =>
    intro r s hr hd hs x
    rw [en]
    by_cases hB : r + (d + 1) = B
    · rw [if_pos hB, List.mem_append, ih (r + 1) s (by omega) (by omega) hs, List.mem_flatMap]
      constructor
      · rintro (h | ⟨i, hi, hx⟩)
        · obtain ⟨g1, g2, g3, g4⟩ := h
          exact ⟨g1, g2, fun i hi hb => by have := g3 i hi hb; exact ⟨by omega, this.2⟩, g4⟩
        · have hin := List.mem_range.1 hi
          split at hx
          · rename_i hm
            obtain ⟨y, hy, rfl⟩ := List.mem_map.1 hx
            have := h1 i hin
            rw [ih (r + cn i) (clr s i) (by have := hm.2.1; omega) (by omega) (clr_lt hs)] at hy
            exact Good.set hin hm (h1 i hin) hy
          · cases hx
      · intro h
        by_cases hex : ∃ i, i < n ∧ s.testBit i = true ∧ nth x i = r
        · obtain ⟨i, hi, hb, hxi⟩ := hex
          obtain ⟨hg, hm⟩ := Good.clear hi hb hxi h1 h
          right
          refine ⟨i, List.mem_range.2 hi, ?_⟩
          rw [if_pos hm]
          refine List.mem_map.2 ⟨x.set i (-1), ?_, set_back (by rw [h.1]; exact hi) hxi _⟩
          have := h1 i hi
          rw [ih (r + cn i) (clr s i) (by have := hm.2.1; omega) (by omega) (clr_lt hs)]
          exact hg
        · left
          obtain ⟨g1, g2, g3, g4⟩ := h
          refine ⟨g1, g2, fun i hi hb => ?_, g4⟩
          have := g3 i hi hb
          refine ⟨?_, this.2⟩
          have hne : nth x i ≠ r := fun e => hex ⟨i, hi, hb, e⟩
          omega
    · rw [if_neg hB]
      exact ih r s hr (by omega) hs x

theorem nodup_map {α β : Type} {f : α → β} : ∀ {l : List α}, l.Nodup → (∀ a ∈ l, ∀ b ∈ l, f a = f b → a = b) → (l.map f).Nodup := by
  intro l
  induction l with
  | nil => intro _ _; exact List.nodup_nil
  | cons x r ih =>
    intro h hf
    rw [List.map_cons, List.nodup_cons]
    rw [List.nodup_cons] at h
    refine ⟨fun hm => ?_, ih h.2 (fun a ha b hb => hf a (by simp [ha]) b (by simp [hb]))⟩
    obtain ⟨y, hy, e⟩ := List.mem_map.1 hm
    have := hf y (by simp [hy]) x (by simp) e
    subst this
    exact h.1 hy
theorem nodup_flatMap {α β : Type} {f : α → List β} : ∀ {l : List α}, l.Nodup → (∀ a ∈ l, (f a).Nodup) → (∀ a ∈ l, ∀ b ∈ l, a ≠ b → ∀ x ∈ f a, x ∉ f b) → (l.flatMap f).Nodup := by
  intro l
  induction l with
  | nil => intro _ _ _; exact List.nodup_nil
  | cons x r ih =>
    intro h h1 h2
    rw [List.flatMap_cons, List.nodup_append]
    rw [List.nodup_cons] at h
    refine ⟨h1 x (by simp), ih h.2 (fun a ha => h1 a (by simp [ha])) (fun a ha b hb => h2 a (by simp [ha]) b (by simp [hb])), ?_⟩
    intro a ha b hb e
    subst e
    obtain ⟨y, hy, hxy⟩ := List.mem_flatMap.1 hb
    exact h2 x (by simp) y (by simp [hy]) (fun e => h.1 (e ▸ hy)) a ha hxy

theorem nodup_en (h1 : ∀ j, j < n → 1 ≤ cn j) : ∀ (d r s : Nat), r ≤ B → B ≤ r + d → s < 2 ^ n → (en n B cn fx d r s).Nodup := by
  intro d
  induction d with
  | zero =>
    intro r s _ _ _
    rw [en]
    split
    · simp
    · exact List.nodup_nil
  | succ d ih =>
    intro r s hr hd hs
    rw [en]
    by_cases hB : r + (d + 1) = B
    · rw [if_pos hB, List.nodup_append]
      refine ⟨ih (r + 1) s (by omega) (by omega) hs, nodup_flatMap List.nodup_range ?_ ?_, ?_⟩
      · intro i hi
        have hin := List.mem_range.1 hi
        have := h1 i hin
        split
        · rename_i hm
          have hle : r + cn i ≤ B := hm.2.1
          refine nodup_map (ih _ _ hle (by omega) (clr_lt hs)) ?_
          intro a ha b hb e
          rw [mem_en h1 d _ _ hle (by omega) (clr_lt hs)] at ha hb
          have ea := ha.2.1 i hin (by rw [clr_bit]; simp)
          have eb := hb.2.1 i hin (by rw [clr_bit]; simp)
          have e1 := set_back (by rw [ha.1]; exact hin) ea (r : Int)
          have e2 := set_back (by rw [hb.1]; exact hin) eb (r : Int)
          rw [← e1, ← e2, e]
        · exact List.nodup_nil
      · intro i hi j hj hij x hx hx'
        have hin := List.mem_range.1 hi
        have hjn := List.mem_range.1 hj
        split at hx
        · rename_i hm
          split at hx'
          · rename_i hm'
            obtain ⟨y, hy, rfl⟩ := List.mem_map.1 hx
            obtain ⟨z, hz, e⟩ := List.mem_map.1 hx'
            have a1 := h1 i hin
            have a2 := h1 j hjn
            rw [mem_en h1 d _ _ hm.2.1 (by omega) (clr_lt hs)] at hy
            rw [mem_en h1 d _ _ hm'.2.1 (by omega) (clr_lt hs)] at hz
            have e1 := congrArg (fun l => nth l j) e
            rw [nth_set _ _ _ _ (by rw [hz.1]; exact hjn), if_pos rfl, nth_set _ _ _ _ (by rw [hy.1]; exact hin), if_neg (Ne.symm hij)] at e1
            have := (hy.2.2.1 j hjn (by rw [clr_bit]; simp [Ne.symm hij, hm'.1])).1
            omega
          · cases hx'
        · cases hx
      · intro x hx y hy e
        subst e
        obtain ⟨i, hi, hxi⟩ := List.mem_flatMap.1 hy
        have hin := List.mem_range.1 hi
        split at hxi
        · rename_i hm
          obtain ⟨z, hz, rfl⟩ := List.mem_map.1 hxi
          have a1 := h1 i hin
          rw [mem_en h1 d _ _ (by omega) (by omega) hs] at hx
          rw [mem_en h1 d _ _ hm.2.1 (by omega) (clr_lt hs)] at hz
          have := (hx.2.2.1 i hin hm.1).1
          rw [nth_set _ _ _ _ (by rw [hz.1]; exact hin), if_pos rfl] at this
          omega
        · cases hxi
    · rw [if_neg hB]
      exact ih r s hr (by omega) hs

theorem sum_if_set {l : List Nat} (hl : l.Nodup) {i : Nat} (hi : i ∈ l) {f g : Nat → Int} {a : Int} (h : ∀ j ∈ l, j ≠ i → f j = g j) (h' : f i = g i + a) : (l.map f).sum = (l.map g).sum + a := by
  induction l with
  | nil => cases hi
  | cons x r ih =>
    rw [List.nodup_cons] at hl
    rw [List.map_cons, List.map_cons, List.sum_cons, List.sum_cons]
    rcases List.mem_cons.1 hi with rfl | hi
    · have : r.map f = r.map g := List.map_congr_left fun j hj => h j (by simp [hj]) (fun e => hl.1 (e ▸ hj))
      rw [this, h']
      omega
    · rw [ih hl.2 hi (fun j hj => h j (by simp [hj])), h x (by simp) (fun e => hl.1 (e ▸ hi))]
      omega
theorem worth_set {y : List Int} {i r : Nat} (hn : i < n) (hy : y.length = n) (h : nth y i = -1) : worth n val (y.set i (r : Int)) = worth n val y + val i r := by
  unfold worth
  refine sum_if_set List.nodup_range (List.mem_range.2 hn) (fun j _ hj => ?_) ?_
  · rw [nth_set _ _ _ _ (by omega), if_neg hj]
  · rw [nth_set _ _ _ _ (by omega), if_pos rfl, h, if_neg (by omega), if_pos (by omega), Int.toNat_natCast]
    omega

theorem Sol.step {wo : List Int → Int} {p q : Int × Int} {E F : List (List Int)} {f : List Int → List Int} {a : Int} (h : Sol wo p E) (h' : Sol wo q F) (hq : q.2 ≠ 0) (hf : ∀ x ∈ F, wo (f x) = wo x + a) :
    Sol wo (if p.2 = 0 ∨ p.1 < q.1 + a then q.1 + a else p.1, p.2 + q.2) (E ++ F.map f) := by
  obtain ⟨c1, c2, c3⟩ := h
  obtain ⟨d1, d2, d3⟩ := h'
  have hF : F ≠ [] := by rintro rfl; exact hq (by simpa using d1)
  obtain ⟨⟨x, hx, ex⟩, hle⟩ := d3 hF
  refine ⟨by simp [c1, d1], fun h => by simp [hF] at h, fun _ => ⟨?_, ?_⟩⟩
  · dsimp only
    split
    · exact ⟨f x, by simp only [List.mem_append, List.mem_map]; exact .inr ⟨x, hx, rfl⟩, by rw [hf x hx, ex]⟩
    · rename_i hn
      have hE : E ≠ [] := by rintro rfl; exact hn (.inl (by simpa using c1))
      obtain ⟨⟨y, hy, ey⟩, _⟩ := c3 hE
      exact ⟨y, by simp [hy], ey⟩
  · intro y hy
    dsimp only
    rcases List.mem_append.1 hy with hy | hy
    · have hE : E ≠ [] := by rintro rfl; cases hy
      have h1 := (c3 hE).2 y hy
      have h2 : p.2 ≠ 0 := by rw [c1]; intro h; apply hE; exact List.eq_nil_of_length_eq_zero (by omega)
      split
      · rename_i hh; rcases hh with hh | hh
        · exact absurd hh h2
        · omega
      · exact h1
    · obtain ⟨z, hz, rfl⟩ := List.mem_map.1 hy
      have h1 := hle z hz
      rw [hf z hz]
      split <;> omega

theorem sol_dp (h1 : ∀ j, j < n → 1 ≤ cn j) : ∀ (d r s : Nat), r ≤ B → B ≤ r + d → s < 2 ^ n → Sol (worth n val) (dpT n B cn fx val d r s) (en n B cn fx d r s) := by
  intro d
  induction d with
  | zero =>
    intro r s hr hd _
    rw [dpT, en]
    by_cases h : r = B ∧ s = 0
    · rw [if_pos h, if_pos h]
      have : worth n val (List.replicate n (-1)) = 0 := by
        unfold worth
        have : ((List.range n).map fun i => if nth (List.replicate n (-1)) i < 0 then 0 else val i (nth (List.replicate n (-1)) i).toNat) = (List.range n).map fun _ => (0 : Int) := List.map_congr_left fun i _ => by rw [nth_rep, if_pos (by omega)]
        rw [this]
        generalize List.range n = l
        induction l with
        | nil => rfl
        | cons a l ih => simpa using ih
      exact ⟨rfl, fun h => by simp at h, fun _ => ⟨⟨_, by simp, this⟩, fun x hx => by rw [List.mem_singleton.1 hx, this]; exact Int.le_refl _⟩⟩
    · rw [if_neg h, if_neg h]
      exact ⟨rfl, fun _ => rfl, fun h => absurd rfl h⟩
  | succ d ih =>
    intro r s hr hd hs
    rw [dpT, en]
    by_cases hB : r + (d + 1) = B
    · rw [if_pos hB, if_pos hB]
      have key : ∀ (l : List Nat), (∀ i ∈ l, i < n) → ∀ (p : Int × Int) (E : List (List Int)), Sol (worth n val) p E → Sol (worth n val) (l.foldl (step B cn fx val (dpT n B cn fx val d) r s) p) (E ++ l.flatMap (fun i => if may B cn fx s r i then (en n B cn fx d (r + cn i) (clr s i)).map (fun x => x.set i (r : Int)) else [])) := by
        intro l
        induction l with
        | nil => intro _ p E h; simpa using h
        | cons i l ihl =>
          intro hl p E h
          rw [List.foldl_cons, List.flatMap_cons, ← List.append_assoc]
          refine ihl (fun j hj => hl j (by simp [hj])) _ _ ?_
          have hin := hl i (by simp)
          have a1 := h1 i hin
          unfold step
          by_cases hm : may B cn fx s r i
          · have hle : r + cn i ≤ B := hm.2.1
            have hs' := ih (r + cn i) (clr s i) hle (by omega) (clr_lt hs)
            rw [if_pos hm]
            by_cases hz : (dpT n B cn fx val d (r + cn i) (clr s i)).2 = 0
            · rw [if_neg (fun h => h.2 hz)]
              have : en n B cn fx d (r + cn i) (clr s i) = [] := List.eq_nil_of_length_eq_zero (by have := hs'.1; omega)
              rw [this]
              simpa using h
            · rw [if_pos ⟨hm, hz⟩]
              refine Sol.step h hs' hz (fun x hx => ?_)
              rw [mem_en h1 d _ _ hle (by omega) (clr_lt hs)] at hx
              exact worth_set hin hx.1 (hx.2.1 i hin (by rw [clr_bit]; simp))
          · rw [if_neg hm, if_neg (fun h => hm h.1)]
            simpa using h
      exact key (List.range n) (fun i hi => List.mem_range.1 hi) _ _ (ih (r + 1) s (by omega) (by omega) hs)
    · rw [if_neg hB, if_neg hB]
      exact ih r s hr (by omega) hs
end
end Go.Proofs.Yteckijkmcafpaaa
