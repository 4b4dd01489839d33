/- Plain laws for assignments, second part: trying all of them, one claim after the other. No program in sight. -/
import Derived.Test.YteckijkmcafpaaaPl39
namespace Go.Proofs.Yteckijkmcafpaaa

def freeU (u : List Bool) (s c : Nat) : Bool := (List.range c).all fun k => !(u.getD (s + k) false)
def markU (u : List Bool) (s c : Nat) : List Bool := (List.range c).foldl (fun u k => u.set (s + k) true) u
theorem markU_succ (u : List Bool) (s c : Nat) : markU u s (c + 1) = (markU u s c).set (s + c) true := by
  unfold markU
  rw [List.range_succ, List.foldl_append]; rfl
theorem markU_len (u : List Bool) (s c : Nat) : (markU u s c).length = u.length := by
  induction c with
  | zero => rfl
  | succ c ih => rw [markU_succ, List.length_set, ih]
theorem markU_at (u : List Bool) (s c b : Nat) (h : s + c ≤ u.length) : (markU u s c).getD b false = (u.getD b false || (decide (s ≤ b) && decide (b < s + c))) := by
  induction c with
  | zero =>
    have : (decide (s ≤ b) && decide (b < s + 0)) = false := by
      by_cases h1 : s ≤ b
      · simp [h1]
      · simp [h1]
    rw [this, Bool.or_false]; rfl
  | succ c ih =>
    rw [markU_succ, List.getD_eq_getElem?_getD, List.getElem?_set, markU_len]
    by_cases e : s + c = b
    · rw [if_pos e, if_pos (by omega)]
      simp [show s ≤ b by omega, show b < s + (c + 1) by omega]
    · rw [if_neg e, ← List.getD_eq_getElem?_getD, ih (by omega)]
      have : decide (b < s + (c + 1)) = decide (b < s + c) := by
        by_cases h1 : b < s + c
        · simp [h1, show b < s + (c + 1) by omega]
        · simp [h1, show ¬ b < s + (c + 1) by omega]
      rw [this]
theorem freeU_iff (u : List Bool) (s c : Nat) : freeU u s c = true ↔ ∀ b, s ≤ b → b < s + c → u.getD b false = false := by
  unfold freeU
  rw [List.all_eq_true]
  constructor
  · intro h b h1 h2
    have := h (b - s) (List.mem_range.2 (by omega))
    rw [show s + (b - s) = b by omega] at this
    simpa using this
  · intro h k hk
    have := h (s + k) (by omega) (by have := List.mem_range.1 hk; omega)
    simpa using this

/-- all starts, in their order -/
def rs : List Nat → List Bool → List (List Int)
  | [], _ => [[]]
  | c :: r, u => (List.range (u.length + 1 - c)).flatMap fun s => if freeU u s c = true then (rs r (markU u s c)).map (fun x => (s : Int) :: x) else []

def GL (cs : List Nat) (u : List Bool) (x : List Int) : Prop :=
  x.length = cs.length ∧ (∀ (i c : Nat), cs[i]? = some c → 0 ≤ nth x i ∧ nth x i + c ≤ u.length ∧ ∀ b : Nat, nth x i ≤ b → (b : Int) < nth x i + c → u.getD b false = false) ∧
    ∀ (i j ci cj : Nat), i ≠ j → cs[i]? = some ci → cs[j]? = some cj → nth x i + ci ≤ nth x j ∨ nth x j + cj ≤ nth x i

theorem nth_cons_zero (a : Int) (x : List Int) : nth (a :: x) 0 = a := rfl
theorem nth_cons_succ (a : Int) (x : List Int) (i : Nat) : nth (a :: x) (i + 1) = nth x i := rfl

theorem mem_rs : ∀ (cs : List Nat), (∀ c ∈ cs, 1 ≤ c) → ∀ (u : List Bool) (x : List Int), x ∈ rs cs u ↔ GL cs u x := by
  intro cs
  induction cs with
  | nil =>
    intro _ u x
    rw [rs, List.mem_singleton]
    constructor
    · rintro rfl
      exact ⟨rfl, fun i c h => by simp at h, fun i j ci cj _ h => by simp at h⟩
    · rintro ⟨h, _⟩
      exact List.eq_nil_of_length_eq_zero (by simpa using h)
  | cons c r ih =>
    intro hc u x
    have hc1 : 1 ≤ c := hc c (by simp)
    have hr : ∀ c ∈ r, 1 ≤ c := fun d hd => hc d (by simp [hd])
    rw [rs, List.mem_flatMap]
    constructor
    · rintro ⟨s, hs, hx⟩
      have hs' := List.mem_range.1 hs
      split at hx
      · rename_i hf
        obtain ⟨y, hy, rfl⟩ := List.mem_map.1 hx
        rw [ih hr] at hy
        obtain ⟨g1, g2, g3⟩ := hy
        rw [freeU_iff] at hf
        have hsc : s + c ≤ u.length := by omega
        have sep : ∀ (j cj : Nat), r[j]? = some cj → (s : Int) + c ≤ nth y j ∨ nth y j + cj ≤ s := by
          intro j cj hj
          have h := g2 j cj hj
          rw [markU_len] at h
          have hcj := hr cj (List.mem_of_getElem? hj)
          by_cases h1 : (s : Int) + c ≤ nth y j
          · exact .inl h1
          · by_cases h2 : nth y j + cj ≤ s
            · exact .inr h2
            · exfalso
              have hb := h.2.2 (if (s : Int) ≤ nth y j then (nth y j).toNat else s) (by split <;> omega) (by split <;> omega)
              rw [markU_at _ _ _ _ hsc] at hb
              simp only [Bool.or_eq_false_iff, Bool.and_eq_false_iff, decide_eq_false_iff_not] at hb
              split at hb <;> omega
        refine ⟨by simp [g1], fun i ci hi => ?_, fun i j ci cj hij hi hj => ?_⟩
        · cases i with
          | zero =>
            simp at hi
            subst hi
            rw [nth_cons_zero]
            exact ⟨by omega, by omega, fun b h1 h2 => hf b (by omega) (by omega)⟩
          | succ i =>
            rw [nth_cons_succ]
            have h := g2 i ci (by simpa using hi)
            rw [markU_len] at h
            refine ⟨h.1, h.2.1, fun b h1 h2 => ?_⟩
            have h3 := h.2.2 b h1 h2
            rw [markU_at _ _ _ _ hsc, Bool.or_eq_false_iff] at h3
            exact h3.1
        · cases i with
          | zero =>
            simp at hi
            subst hi
            cases j with
            | zero => exact absurd rfl hij
            | succ j =>
              rw [nth_cons_zero, nth_cons_succ]
              exact sep j cj (by simpa using hj)
          | succ i =>
            cases j with
            | zero =>
              simp at hj
              subst hj
              rw [nth_cons_zero, nth_cons_succ]
              exact (sep i ci (by simpa using hi)).symm
            | succ j =>
              rw [nth_cons_succ, nth_cons_succ]
              exact g3 i j ci cj (by omega) (by simpa using hi) (by simpa using hj)
      · cases hx
    · rintro ⟨g1, g2, g3⟩
      cases x with
      | nil => simp at g1
      | cons a y =>
        have h0 := g2 0 c rfl
        rw [nth_cons_zero] at h0
        obtain ⟨s, rfl⟩ := Int.eq_ofNat_of_zero_le h0.1
        have hsc : s + c ≤ u.length := by omega
        refine ⟨s, List.mem_range.2 (by omega), ?_⟩
        rw [if_pos ((freeU_iff _ _ _).2 fun b h1 h2 => h0.2.2 b (by omega) (by omega))]
        refine List.mem_map.2 ⟨y, (ih hr _ _).2 ⟨by simpa using g1, fun i ci hi => ?_, fun i j ci cj hij hi hj => ?_⟩, rfl⟩
        · have h := g2 (i + 1) ci (by simpa using hi)
          rw [nth_cons_succ] at h
          rw [markU_len]
          refine ⟨h.1, h.2.1, fun b h1 h2 => ?_⟩
          rw [markU_at _ _ _ _ hsc, h.2.2 b h1 h2, Bool.false_or]
          have h3 := g3 0 (i + 1) c ci (by omega) rfl (by simpa using hi)
          rw [nth_cons_zero, nth_cons_succ] at h3
          rw [Bool.and_eq_false_iff, decide_eq_false_iff_not, decide_eq_false_iff_not]
          rcases h3 with h3 | h3
          · right; omega
          · left; omega
        · have h := g3 (i + 1) (j + 1) ci cj (by omega) (by simpa using hi) (by simpa using hj)
          rw [nth_cons_succ, nth_cons_succ] at h
          exact h

/-- earlier in the order of the list -/
def LexLt (x y : List Int) : Prop := ∃ i, x.take i = y.take i ∧ i < x.length ∧ i < y.length ∧ nth x i < nth y i
theorem lex_cons {a : Int} {x y : List Int} (h : LexLt x y) : LexLt (a :: x) (a :: y) := by
  obtain ⟨i, h1, h2, h3, h4⟩ := h
  exact ⟨i + 1, by simp [h1], by simpa using h2, by simpa using h3, h4⟩
theorem pairwise_flatMap' {α β : Type} {R : β → β → Prop} {S : α → α → Prop} {f : α → List β} : ∀ {l : List α}, l.Pairwise S → (∀ a ∈ l, (f a).Pairwise R) → (∀ a b, S a b → ∀ x ∈ f a, ∀ y ∈ f b, R x y) → (l.flatMap f).Pairwise R := by
  intro l
  induction l with
  | nil => intro _ _ _; exact List.Pairwise.nil
  | cons x r ih =>
    intro h h1 h2
    rw [List.flatMap_cons, List.pairwise_append]
    rw [List.pairwise_cons] at h
    refine ⟨h1 x (by simp), ih h.2 (fun a ha => h1 a (by simp [ha])) h2, ?_⟩
    intro a ha b hb
    obtain ⟨y, hy, hxy⟩ := List.mem_flatMap.1 hb
    exact h2 x y (h.1 y hy) a ha b hxy
theorem lex_rs : ∀ (cs : List Nat) (u : List Bool), (rs cs u).Pairwise LexLt := by
  intro cs
  induction cs with
  | nil => intro u; rw [rs]; exact List.pairwise_singleton _ _
  | cons c r ih =>
    intro u
    rw [rs]
    refine pairwise_flatMap' (S := (· < ·)) List.pairwise_lt_range ?_ ?_
    · intro s _
      split
      · rw [List.pairwise_map]
        exact (ih _).imp fun h => lex_cons h
      · exact List.Pairwise.nil
    · intro s t hst x hx y hy
      split at hx
      · split at hy
        · obtain ⟨x', _, rfl⟩ := List.mem_map.1 hx
          obtain ⟨y', _, rfl⟩ := List.mem_map.1 hy
          exact ⟨0, rfl, by simp, by simp, by rw [nth_cons_zero, nth_cons_zero]; omega⟩
        · cases hy
      · cases hx
theorem lex_irr {x : List Int} : ¬ LexLt x x := by
  rintro ⟨i, _, _, _, h⟩
  exact Int.lt_irrefl _ h
theorem nodup_rs (cs : List Nat) (u : List Bool) : (rs cs u).Nodup := (lex_rs cs u).imp fun {a b} h e => by subst e; exact lex_irr h

/-- the search: whether there is one, the greatest value, the first starts with it -/
def srF : List (Nat × (Nat → Int)) → List Bool → Bool × Int × List Int
  | [], _ => (true, 0, [])
  | p :: r, u => (List.range (u.length + 1 - p.1)).foldl (fun acc s => if freeU u s p.1 = true then
      (if (srF r (markU u s p.1)).1 = true ∧ (acc.1 = false ∨ acc.2.1 < (srF r (markU u s p.1)).2.1 + p.2 s) then (true, (srF r (markU u s p.1)).2.1 + p.2 s, (s : Int) :: (srF r (markU u s p.1)).2.2) else acc) else acc) (false, 0, [])
def worthL : List (Nat × (Nat → Int)) → List Int → Int
  | p :: r, x :: xs => worthL r xs + p.2 x.toNat
  | _, _ => 0
def SolF (wo : List Int → Int) (q : Bool × Int × List Int) (E : List (List Int)) : Prop :=
  (E = [] ∧ q = (false, 0, [])) ∨ (q.1 = true ∧ ∃ pre post, E = pre ++ q.2.2 :: post ∧ wo q.2.2 = q.2.1 ∧ (∀ x ∈ pre, wo x < q.2.1) ∧ ∀ x ∈ post, wo x ≤ q.2.1)
theorem SolF.step {wo wo' : List Int → Int} {p q : Bool × Int × List Int} {E F : List (List Int)} {s : Int} {a : Int} (h : SolF wo p E) (h' : SolF wo' q F) (hf : ∀ x, wo (s :: x) = wo' x + a) :
    SolF wo (if q.1 = true ∧ (p.1 = false ∨ p.2.1 < q.2.1 + a) then (true, q.2.1 + a, s :: q.2.2) else p) (E ++ F.map (fun x => s :: x)) := by
  rcases h' with ⟨rfl, rfl⟩ | ⟨hq, pre, post, rfl, e1, e2, e3⟩
  · rw [if_neg (fun h => by simp at h)]
    simpa using h
  · rcases h with ⟨rfl, rfl⟩ | ⟨hp, pre', post', rfl, f1, f2, f3⟩
    · rw [if_pos ⟨hq, .inl rfl⟩]
      refine .inr ⟨rfl, pre.map (fun x => s :: x), post.map (fun x => s :: x), by simp, by rw [hf, e1], ?_, ?_⟩
      · intro x hx; obtain ⟨y, hy, rfl⟩ := List.mem_map.1 hx; have := e2 y hy; rw [hf]; dsimp only; omega
      · intro x hx; obtain ⟨y, hy, rfl⟩ := List.mem_map.1 hx; have := e3 y hy; rw [hf]; dsimp only; omega
    · by_cases hlt : p.2.1 < q.2.1 + a
      · rw [if_pos ⟨hq, .inr hlt⟩]
        refine .inr ⟨rfl, pre' ++ p.2.2 :: post' ++ pre.map (fun x => s :: x), post.map (fun x => s :: x), by simp, by rw [hf, e1], ?_, ?_⟩
        · intro x hx
          dsimp only
          rcases List.mem_append.1 hx with hx | hx
          · rcases List.mem_append.1 hx with hx | hx
            · have := f2 x hx; omega
            · rcases List.mem_cons.1 hx with rfl | hx
              · omega
              · have := f3 x hx; omega
          · obtain ⟨y, hy, rfl⟩ := List.mem_map.1 hx; have := e2 y hy; rw [hf]; omega
        · intro x hx; obtain ⟨y, hy, rfl⟩ := List.mem_map.1 hx; have := e3 y hy; rw [hf]; dsimp only; omega
      · rw [if_neg (fun h => by rcases h.2 with h | h; (· rw [hp] at h; cases h); exact hlt h)]
        refine .inr ⟨hp, pre', post' ++ (pre ++ q.2.2 :: post).map (fun x => s :: x), by simp, f1, f2, ?_⟩
        intro x hx
        rcases List.mem_append.1 hx with hx | hx
        · exact f3 x hx
        · obtain ⟨y, hy, rfl⟩ := List.mem_map.1 hx
          rw [hf]
          rcases List.mem_append.1 hy with hy | hy
          · have := e2 y hy; omega
          · rcases List.mem_cons.1 hy with rfl | hy
            · omega
            · have := e3 y hy; omega
theorem sol_sr : ∀ (ps : List (Nat × (Nat → Int))) (u : List Bool), SolF (worthL ps) (srF ps u) (rs (ps.map Prod.fst) u) := by
  intro ps
  induction ps with
  | nil => intro u; exact .inr ⟨rfl, [], [], rfl, rfl, (fun x h => by cases h), (fun x h => by cases h)⟩
  | cons p r ih =>
    intro u
    rw [srF, List.map_cons, rs]
    have key : ∀ (l : List Nat) (acc : Bool × Int × List Int) (E : List (List Int)), SolF (worthL (p :: r)) acc E → SolF (worthL (p :: r)) (l.foldl (fun acc s => if freeU u s p.1 = true then
      (if (srF r (markU u s p.1)).1 = true ∧ (acc.1 = false ∨ acc.2.1 < (srF r (markU u s p.1)).2.1 + p.2 s) then (true, (srF r (markU u s p.1)).2.1 + p.2 s, (s : Int) :: (srF r (markU u s p.1)).2.2) else acc) else acc) acc) (E ++ l.flatMap fun s => if freeU u s p.1 = true then (rs (r.map Prod.fst) (markU u s p.1)).map (fun x => (s : Int) :: x) else []) := by
      intro l
      induction l with
      | nil => intro acc E h; simpa using h
      | cons s l ihl =>
        intro acc E h
        rw [List.foldl_cons, List.flatMap_cons, ← List.append_assoc]
        refine ihl _ _ ?_
        by_cases hf : freeU u s p.1 = true
        · rw [if_pos hf, if_pos hf]
          exact SolF.step h (ih (markU u s p.1)) (fun x => by rw [worthL, Int.toNat_natCast])
        · rw [if_neg hf, if_neg hf]
          simpa using h
    simpa using key (List.range (u.length + 1 - p.1)) (false, 0, []) [] (.inl ⟨rfl, rfl⟩)

/-- the number -/
def nmF : List Nat → List Bool → Int
  | [], _ => 1
  | c :: r, u => (List.range (u.length + 1 - c)).foldl (fun n s => if freeU u s c = true then n + nmF r (markU u s c) else n) 0
theorem nm_rs : ∀ (cs : List Nat) (u : List Bool), nmF cs u = (rs cs u).length := by
  intro cs
  induction cs with
  | nil => intro u; rfl
  | cons c r ih =>
    intro u
    rw [nmF, rs]
    have key : ∀ (l : List Nat) (n : Int), l.foldl (fun n s => if freeU u s c = true then n + nmF r (markU u s c) else n) n = n + (l.flatMap fun s => if freeU u s c = true then (rs r (markU u s c)).map (fun x => (s : Int) :: x) else []).length := by
      intro l
      induction l with
      | nil => intro n; simp
      | cons s l ihl =>
        intro n
        rw [List.foldl_cons, ihl, List.flatMap_cons, List.length_append]
        by_cases hf : freeU u s c = true
        · rw [if_pos hf, if_pos hf, ih, List.length_map]; omega
        · rw [if_neg hf, if_neg hf, List.length_nil]; omega
    rw [key, Int.zero_add]

theorem len_sub {α : Type} [DecidableEq α] : ∀ {l m : List α}, l.Nodup → (∀ x ∈ l, x ∈ m) → l.length ≤ m.length := by
  intro l
  induction l with
  | nil => intro m _ _; simp
  | cons x r ih =>
    intro m h hs
    rw [List.nodup_cons] at h
    have h1 : x ∈ m := hs x (by simp)
    have h2 := ih (m := m.erase x) h.2 (fun y hy => (List.mem_erase_of_ne (fun e => by subst e; exact h.1 hy)).2 (hs y (by simp [hy])))
    rw [List.length_erase_of_mem h1] at h2
    have : 0 < m.length := List.length_pos_of_mem h1
    rw [List.length_cons]
    omega

/-- both lists of assignments have the same members -/
theorem mem_both {cs : List Nat} {B : Nat} {cn : Nat → Nat} (hc : ∀ c ∈ cs, 1 ≤ c) (hcn : ∀ (i c : Nat), cs[i]? = some c → cn i = c) (fx : Nat → Int) (x : List Int) :
    x ∈ en cs.length B cn fx B 0 (2 ^ cs.length - 1) ↔ x ∈ rs cs (List.replicate B false) ∧ ∀ i, i < cs.length → ¬ (0 ≤ fx i ∧ fx i ≠ nth x i) := by
  have h1 : ∀ j, j < cs.length → 1 ≤ cn j := fun j hj => by
    have := hcn j cs[j] (List.getElem?_eq_getElem hj)
    rw [this]
    exact hc _ (List.getElem_mem hj)
  have hp : 0 < 2 ^ cs.length := Nat.two_pow_pos _
  rw [mem_en h1 B 0 _ (by omega) (by omega) (by omega), mem_rs cs hc]
  have hbit : ∀ i, i < cs.length → (2 ^ cs.length - 1).testBit i = true := fun i hi => by rw [Nat.testBit_two_pow_sub_one]; simpa using hi
  constructor
  · rintro ⟨g1, g2, g3, g4⟩
    refine ⟨⟨g1, fun i c hi => ?_, fun i j ci cj hij hi hj => ?_⟩, fun i hi => (g3 i hi (hbit i hi)).2.2⟩
    · have hlt : i < cs.length := (List.getElem?_eq_some_iff.1 hi).1
      have := g3 i hlt (hbit i hlt)
      rw [hcn i c hi] at this
      refine ⟨by omega, by rw [List.length_replicate]; exact this.2.1, fun b _ _ => ?_⟩
      rw [List.getD_eq_getElem?_getD, List.getElem?_replicate]
      split <;> rfl
    · have a1 : i < cs.length := (List.getElem?_eq_some_iff.1 hi).1
      have a2 : j < cs.length := (List.getElem?_eq_some_iff.1 hj).1
      have := g4 i j a1 a2 hij (hbit i a1) (hbit j a2)
      rw [hcn i ci hi, hcn j cj hj] at this
      exact this
  · rintro ⟨⟨g1, g2, g3⟩, g4⟩
    refine ⟨g1, (fun i hi hb => by rw [hbit i hi] at hb; cases hb), fun i hi _ => ?_, fun i j hi hj hij _ _ => ?_⟩
    · have e := List.getElem?_eq_getElem hi
      have := g2 i _ e
      rw [hcn i _ e]
      rw [List.length_replicate] at this
      exact ⟨by omega, this.2.1, g4 i hi⟩
    · have e := List.getElem?_eq_getElem hi
      have e' := List.getElem?_eq_getElem hj
      rw [hcn i _ e, hcn j _ e']
      exact g3 i j _ _ hij e e'

theorem worthL_sum : ∀ (ps : List (Nat × (Nat → Int))) (x : List Int), x.length = ps.length → worthL ps x = ((List.range ps.length).map fun i => ((ps.map Prod.snd).getD i (fun _ => 0)) (nth x i).toNat).sum := by
  intro ps
  induction ps with
  | nil => intro x _; cases x <;> rfl
  | cons p r ih =>
    intro x hx
    cases x with
    | nil => simp at hx
    | cons a y =>
      rw [worthL, ih y (by simpa using hx), List.length_cons, List.range_succ_eq_map, List.map_cons, List.sum_cons, List.map_map]
      have : (List.map ((fun i => (((p :: r).map Prod.snd).getD i (fun _ => 0)) (nth (a :: y) i).toNat) ∘ Nat.succ) (List.range r.length)) = (List.range r.length).map fun i => ((r.map Prod.snd).getD i (fun _ => 0)) (nth y i).toNat := List.map_congr_left fun i _ => rfl
      rw [this]
      show _ = p.2 a.toNat + _
      omega

/-- the table's answer for all claims is the search's answer -/
theorem dp_sr {ps : List (Nat × (Nat → Int))} {B : Nat} {cn : Nat → Nat} {val : Nat → Nat → Int} (hc : ∀ p ∈ ps, 1 ≤ p.1) (hcn : ∀ i p, ps[i]? = some p → cn i = p.1) (hv : ∀ i p, ps[i]? = some p → ∀ s, s + p.1 ≤ B → val i s = p.2 s) (fx : Nat → Int)
    (hx : ∀ i, i < ps.length → fx i < 0) :
    dpT ps.length B cn fx val B 0 (2 ^ ps.length - 1) = ((srF ps (List.replicate B false)).2.1, nmF (ps.map Prod.fst) (List.replicate B false)) ∧ ((srF ps (List.replicate B false)).1 = true ↔ 0 < nmF (ps.map Prod.fst) (List.replicate B false)) := by
  have hc' : ∀ c ∈ ps.map Prod.fst, 1 ≤ c := fun c h => by obtain ⟨p, hp, rfl⟩ := List.mem_map.1 h; exact hc p hp
  have hcn' : ∀ i c, (ps.map Prod.fst)[i]? = some c → cn i = c := fun i c h => by
    rw [List.getElem?_map] at h
    cases hp : ps[i]? with
    | none => rw [hp] at h; cases h
    | some p => rw [hp] at h; injection h with h; rw [← h]; exact hcn i p hp
  have hmem := mem_both (B := B) hc' hcn' fx
  rw [List.length_map] at hmem
  have hm : ∀ x, x ∈ en ps.length B cn fx B 0 (2 ^ ps.length - 1) ↔ x ∈ rs (ps.map Prod.fst) (List.replicate B false) := fun x => by
    rw [hmem x]
    exact ⟨fun h => h.1, fun h => ⟨h, fun i hi hh => by have := hx i hi; omega⟩⟩
  have h1 : ∀ j, j < ps.length → 1 ≤ cn j := fun j hj => by
    rw [hcn j ps[j] (List.getElem?_eq_getElem hj)]
    exact hc _ (List.getElem_mem hj)
  have hp : 0 < 2 ^ ps.length := Nat.two_pow_pos _
  have S := sol_dp (n := ps.length) (B := B) (cn := cn) (fx := fx) (val := val) h1 B 0 (2 ^ ps.length - 1) (by omega) (by omega) (by omega)
  have ND := nodup_en (n := ps.length) (B := B) (cn := cn) (fx := fx) h1 B 0 (2 ^ ps.length - 1) (by omega) (by omega) (by omega)
  have NR := nodup_rs (ps.map Prod.fst) (List.replicate B false)
  have hlen : (en ps.length B cn fx B 0 (2 ^ ps.length - 1)).length = (rs (ps.map Prod.fst) (List.replicate B false)).length :=
    Nat.le_antisymm (len_sub ND (fun x h => (hm x).1 h)) (len_sub NR (fun x h => (hm x).2 h))
  have hw : ∀ x ∈ rs (ps.map Prod.fst) (List.replicate B false), worthL ps x = worth ps.length val x := by
    intro x hx'
    rw [mem_rs _ hc'] at hx'
    obtain ⟨g1, g2, _⟩ := hx'
    rw [List.length_map] at g1
    rw [worthL_sum ps x g1]
    unfold worth
    refine congrArg List.sum (List.map_congr_left fun i hi => ?_)
    have hi' := List.mem_range.1 hi
    have e := List.getElem?_eq_getElem hi'
    have g := g2 i ps[i].1 (by rw [List.getElem?_map, e]; rfl)
    rw [List.length_replicate] at g
    rw [if_neg (by omega), hv i _ e _ (by omega), List.getD_eq_getElem?_getD, List.getElem?_map, e]
    rfl
  have F := sol_sr ps (List.replicate B false)
  rw [nm_rs]
  refine ⟨?_, ?_⟩
  · apply Prod.ext
    · dsimp only
      rcases F with ⟨hE, hq⟩ | ⟨hq, pre, post, hE, e1, e2, e3⟩
      · rw [hq]
        rw [hE] at hlen
        exact S.2.1 (List.eq_nil_of_length_eq_zero (by simpa using hlen))
      · have hne : en ps.length B cn fx B 0 (2 ^ ps.length - 1) ≠ [] := by
          intro h; rw [h, hE] at hlen; simp at hlen
        obtain ⟨⟨x, hx1, hx2⟩, hall⟩ := S.2.2 hne
        have hf : (srF ps (List.replicate B false)).2.2 ∈ rs (ps.map Prod.fst) (List.replicate B false) := by rw [hE]; simp
        have b1 := hall _ ((hm _).2 hf)
        rw [← hw _ hf, e1] at b1
        have hx3 := (hm x).1 hx1
        rw [← hw x hx3] at hx2
        rw [hE] at hx3
        have b2 : worthL ps x ≤ (srF ps (List.replicate B false)).2.1 := by
          rcases List.mem_append.1 hx3 with h | h
          · exact Int.le_of_lt (e2 x h)
          · rcases List.mem_cons.1 h with rfl | h
            · exact Int.le_of_eq e1
            · exact e3 x h
        omega
    · exact S.1.trans (by rw [hlen])
  · rcases F with ⟨hE, hq⟩ | ⟨hq, pre, post, hE, _⟩
    · rw [hE, hq]; simp
    · rw [hE, hq]; simp; omega
end Go.Proofs.Yteckijkmcafpaaa
