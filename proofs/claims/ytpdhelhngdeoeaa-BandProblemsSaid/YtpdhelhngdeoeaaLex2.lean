/- A region that draws its order, with one pair of effects that nothing orders: two walks, one for each order of the pair. Nothing of the program is named here. -/
import Derived.Test.YtpdhelhngdeoeaaLex
namespace Go.Proofs.Ytpdhelhngdeoeaa
open Go.RowKit
namespace Lx
section
variable {P : Program} {ops : Array Oper} {C : World → Prop} {hs : List Nat}

/-- i may stand ahead of j in a walk; (x, y): the pair that is not exchanged -/
def rel (ops : Array Oper) (hs : List Nat) (M : List Nat) (x y i j : Nat) : Bool :=
  ((M.getD j 0).testBit i || pair ops hs i j || (i == x && j == y)) && (match ops[i]? with | some o => o.after.all fun e => !Region.binds .any e || e.on != j | none => true)

def pw {α : Type} (r : α → α → Bool) : List α → Bool
  | [] => true
  | x :: l => l.all (r x) && pw r l
theorem pw_iff {α : Type} {r : α → α → Bool} : ∀ {l : List α}, pw r l = true → l.Pairwise (fun a b => r a b = true) := by
  intro l
  induction l with
  | nil => intro _; exact List.Pairwise.nil
  | cons x l ih =>
    intro h
    rw [pw, Bool.and_eq_true] at h
    exact List.Pairwise.cons (fun y hy => List.all_eq_true.1 h.1 y hy) (ih h.2)

theorem rel_pair {x y i j : Nat} (h : rel ops hs (masks ops.toList []) x y i j = true) {listed : Array Bool} (hD : Down ops listed) {oj : Oper} (hoj : ops[j]? = some oj) (hjr : ∀ e ∈ oj.after, Region.binds .any e = true → listed.getD e.on false = true) (hi : listed.getD i true = false) (hil : i < listed.size) (hne : ¬ (i = x ∧ j = y)) : pair ops hs i j = true := by
  simp only [rel, Bool.and_eq_true, Bool.or_eq_true, beq_iff_eq] at h
  rcases h.1 with (h1 | h1) | h1
  · exfalso
    have hl := masks_sound hD (j + 1) j oj (by omega) hoj hjr i h1
    simp only [Array.getD_eq_getD_getElem?, Array.getElem?_eq_getElem hil, Option.getD_some] at hl hi
    rw [hl] at hi
    cases hi
  · exact h1
  · exact absurd h1 hne

theorem head_ready {x y i : Nat} {L : List Nat} {listed : Array Bool} (hsz : listed.size = ops.size) (hm : ∀ k, k ∈ i :: L ↔ k < ops.size ∧ listed.getD k true = false) (hself : ∀ (k : Nat) (o : Oper), ops[k]? = some o → ∀ e ∈ o.after, Region.binds .any e = true → e.on ≠ k ∧ e.on < ops.size)
    (hp : (i :: L).Pairwise (fun a b => rel ops hs (masks ops.toList []) x y a b = true)) : i ∈ Region.ready .any ops listed := by
  obtain ⟨hi1, hi2⟩ := (hm i).1 (by simp)
  have ho : ops[i]? = some ops[i] := Array.getElem?_eq_getElem hi1
  refine mem_ready.2 ⟨hi2, _, ho, fun e he hb => ?_⟩
  have hse := hself i _ ho e he hb
  have hb2 : e.on < listed.size := by omega
  cases hl : listed.getD e.on false with
  | true => rfl
  | false =>
    exfalso
    have hl' : listed.getD e.on true = false := by
      simp only [Array.getD_eq_getD_getElem?, Array.getElem?_eq_getElem hb2, Option.getD_some] at hl ⊢; exact hl
    have hmem : e.on ∈ i :: L := (hm e.on).2 ⟨hse.2, hl'⟩
    rcases List.mem_cons.1 hmem with h | h
    · exact hse.1 h
    · have h1 := (List.pairwise_cons.1 hp).1 e.on h
      simp only [rel, ho, Bool.and_eq_true] at h1
      have h2 := Array.all_eq_true'.1 h1.2 e he
      simp [hb] at h2

theorem set_iff {listed : Array Bool} {j : Nat} (i : Nat) : (listed.setIfInBounds j true).getD i true = false ↔ (listed.getD i true = false ∧ i ≠ j) := by
  by_cases hij : i = j
  · subst hij
    simp [Array.getD_eq_getD_getElem?, Array.getElem?_setIfInBounds]
    split <;> simp_all
  · simp [Array.getD_eq_getD_getElem?, Array.getElem?_setIfInBounds_ne (Ne.symm hij), hij]

theorem mem_rest {listed : Array Bool} {pre post : List Nat} {j : Nat} (hnd : (pre ++ j :: post).Nodup) (hm : ∀ k, k ∈ pre ++ j :: post ↔ k < ops.size ∧ listed.getD k true = false) : ∀ k, k ∈ pre ++ post ↔ k < ops.size ∧ (listed.setIfInBounds j true).getD k true = false := by
  intro i
  rw [set_iff]
  have hnj : j ∉ pre ++ post := by
    rw [List.nodup_append] at hnd
    obtain ⟨_, h2, h3⟩ := hnd
    rw [List.nodup_cons] at h2
    intro h
    rcases List.mem_append.1 h with h | h
    · exact h3 j h j (by simp) rfl
    · exact h2.1 h
  constructor
  · intro hi
    have hi' : i ∈ pre ++ j :: post := by
      rcases List.mem_append.1 hi with h | h
      · simp [h]
      · simp [h]
    obtain ⟨q1, q2⟩ := (hm i).1 hi'
    exact ⟨q1, q2, fun e => hnj (e ▸ hi)⟩
  · rintro ⟨q1, q2, q3⟩
    have := (hm i).2 ⟨q1, q2⟩
    rcases List.mem_append.1 this with h | h
    · simp [h]
    · rcases List.mem_cons.1 h with h | h
      · exact absurd h q3
      · simp [h]

theorem down_set {listed : Array Bool} (hD : Down ops listed) {j : Nat} {oj : Oper} (hoj : ops[j]? = some oj) (hjr : ∀ e ∈ oj.after, Region.binds .any e = true → listed.getD e.on false = true) : Down ops (listed.setIfInBounds j true) := by
  intro j' o' ho' hl' e he hb
  by_cases hjj : j' = j
  · subst hjj
    rw [hoj] at ho'
    injection ho' with ho'
    subst ho'
    exact getD_set_true (hjr e he hb)
  · rw [getD_set_ne false (Ne.symm hjj)] at hl'
    exact getD_set_true (hD j' o' ho' hl' e he hb)

theorem drop_mid {α : Type} {R : α → α → Prop} {pre post : List α} {j : α} (h : (pre ++ j :: post).Pairwise R) : (pre ++ post).Pairwise R :=
  h.sublist (List.Sublist.append (List.Sublist.refl _) (List.sublist_cons_self _ _))

theorem op_of_step {Q : Exit → Act → World → Prop} {j : Nat} {oj : Oper} {a : Act} {w : World} {K : Act → World → Prop} (hoj : ops[j]? = some oj) (hC : C w) (h2 : step P ops C hs j oj K a w) : wpOp P ops Q j K a w := by
  unfold step at h2
  unfold wpOp
  simp only [hoj]
  split
  · rename_i hw
    rw [if_pos hw] at h2
    left
    rcases h2 with ⟨_, v, h3, h4⟩ | ⟨_, v, h3, h4⟩ | ⟨_, h3⟩
    · unfold Oper.wp; rw [h3 w hC]; exact h4
    · unfold Oper.wp; rw [h3]; exact h4
    · exact Oper.wp_mono (fun _ _ hh => hh.2) (wp_noQ h3)
  · rename_i hw
    rw [if_neg hw] at h2
    exact h2

theorem any_one {Q : Exit → Act → World → Prop} {x y : Nat} (hsel : ∀ (j : Nat) (o : Oper) cs b, ops[j]? = some o → o.op ≠ .select cs b) (hself : ∀ (k : Nat) (o : Oper), ops[k]? = some o → ∀ e ∈ o.after, Region.binds .any e = true → e.on ≠ k ∧ e.on < ops.size) :
    ∀ (fuel : Nat) (L : List Nat) (listed : Array Bool) (a : Act) (w : World), C w → L.length = fuel → L.Nodup → ¬ (x ∈ L ∧ y ∈ L) →
    (∀ i, i ∈ L ↔ i < ops.size ∧ listed.getD i true = false) → L.Pairwise (fun a b => rel ops hs (masks ops.toList []) x y a b = true) → Down ops listed → listed.size = ops.size → lexN P ops C hs (fun a w => Q .normal a w) L a w → wpAny P .any ops Q fuel listed a w := by
  intro fuel
  induction fuel with
  | zero =>
    intro L listed a w hC hL _ _ hm hs' hD hsz h
    have hnil : L = [] := List.eq_nil_of_length_eq_zero hL
    subst hnil
    refine ⟨?_, h⟩
    cases hr : Region.ready .any ops listed with
    | nil => rfl
    | cons z zs =>
      have hx : z ∈ Region.ready .any ops listed := by rw [hr]; simp
      obtain ⟨h1, o, ho, _⟩ := mem_ready.1 hx
      have : z ∈ ([] : List Nat) := (hm z).2 ⟨(Array.getElem?_eq_some_iff.1 ho).1, h1⟩
      cases this
  | succ fuel ih =>
    intro L listed a w hC hL hnd hxy hm hs' hD hsz h
    refine ⟨fun hr => ?_, fun j hj => ?_⟩
    · exfalso
      cases L with
      | nil => simp at hL
      | cons i L =>
        have hri := head_ready hsz hm hself hs'
        rw [hr] at hri
        cases hri
    · obtain ⟨hj1, oj, hoj, hjr⟩ := mem_ready.1 hj
      have hjlt : j < ops.size := (Array.getElem?_eq_some_iff.1 hoj).1
      have hmem : j ∈ L := (hm j).2 ⟨hjlt, hj1⟩
      obtain ⟨pre, post, rfl⟩ := List.append_of_mem hmem
      have hpair : ∀ i ∈ pre, pair ops hs i j = true := by
        intro i hi
        have hr := (List.pairwise_append.1 hs').2.2 i hi j (by simp)
        obtain ⟨hi1, hi2⟩ := (hm i).1 (by simp [hi])
        exact rel_pair hr hD hoj hjr hi2 (by omega) (fun hh => hxy ⟨by rw [← hh.1]; simp [hi], by rw [← hh.2]; simp⟩)
      have h1 := pull hoj hsel post pre a w hpair hC h
      refine op_of_step hoj hC (step_mono hC h1 fun a' w' hC' _ hK => ih (pre ++ post) _ a' w' hC' (by simp at hL ⊢; omega) (drop_mid hnd) ?_ (mem_rest hnd hm) (drop_mid hs') (down_set hD hoj hjr) (by simp [hsz]) hK)
      intro hh
      apply hxy
      refine ⟨?_, ?_⟩
      · rcases List.mem_append.1 hh.1 with h | h <;> simp [h]
      · rcases List.mem_append.1 hh.2 with h | h <;> simp [h]

theorem step_both {j : Nat} {oj : Oper} {a : Act} {w : World} {K K' : Act → World → Prop} (hC : C w) (hk : kind hs j oj ≠ 2) (h : step P ops C hs j oj K a w) (h' : step P ops C hs j oj K' a w) : step P ops C hs j oj (fun a w => K a w ∧ K' a w) a w := by
  unfold step at *
  split
  · rename_i hw
    rw [if_pos hw] at h h'
    rcases h with ⟨h0, v, h1, h2⟩ | ⟨h0, v, h1, h2⟩ | ⟨h0, _⟩
    · rcases h' with ⟨_, v', h1', h2'⟩ | ⟨h0', _⟩ | ⟨h0', _⟩
      · have := (h1 w hC).symm.trans (h1' w hC)
        injection this with this _
        injection this with this
        subst this
        exact .inl ⟨h0, v, h1, h2, h2'⟩
      · omega
      · omega
    · rcases h' with ⟨h0', _⟩ | ⟨_, v', h1', h2'⟩ | ⟨h0', _⟩
      · omega
      · have := h1.symm.trans h1'
        injection this with this _
        injection this with this
        subst this
        exact .inr (.inl ⟨h0, v, h1, h2, h2'⟩)
      · omega
    · exact absurd h0 hk
  · rename_i hw
    rw [if_neg hw] at h h'
    exact ⟨h, h'⟩

theorem any_two {Q : Exit → Act → World → Prop} {x y : Nat} (hxy : x ≠ y) (hsel : ∀ (j : Nat) (o : Oper) cs b, ops[j]? = some o → o.op ≠ .select cs b) (hself : ∀ (k : Nat) (o : Oper), ops[k]? = some o → ∀ e ∈ o.after, Region.binds .any e = true → e.on ≠ k ∧ e.on < ops.size)
    (heff : ∀ (k : Nat) (o : Oper), ops[k]? = some o → kind hs k o = 2 → k = x ∨ k = y ∨ ((masks ops.toList []).getD k 0).testBit x = true) :
    ∀ (fuel : Nat) (L L' : List Nat) (listed : Array Bool) (a : Act) (w : World), C w → L.length = fuel → L.Nodup → L'.length = fuel → L'.Nodup → x ∈ L → y ∈ L →
    (∀ i, i ∈ L ↔ i < ops.size ∧ listed.getD i true = false) → (∀ i, i ∈ L' ↔ i < ops.size ∧ listed.getD i true = false) → L.Pairwise (fun a b => rel ops hs (masks ops.toList []) x y a b = true) → L'.Pairwise (fun a b => rel ops hs (masks ops.toList []) y x a b = true) →
    Down ops listed → listed.size = ops.size → lexN P ops C hs (fun a w => Q .normal a w) L a w → lexN P ops C hs (fun a w => Q .normal a w) L' a w → wpAny P .any ops Q fuel listed a w := by
  intro fuel
  induction fuel with
  | zero =>
    intro L L' listed a w _ hL _ _ _ hx _ _ _ _ _ _ _ _ _
    have hnil : L = [] := List.eq_nil_of_length_eq_zero hL
    subst hnil
    cases hx
  | succ fuel ih =>
    intro L L' listed a w hC hL hnd hL' hnd' hx hy hm hm' hp hp' hD hsz h h'
    refine ⟨fun hr => ?_, fun j hj => ?_⟩
    · exfalso
      cases L with
      | nil => simp at hL
      | cons i L =>
        have hri := head_ready hsz hm hself hp
        rw [hr] at hri
        cases hri
    · obtain ⟨hj1, oj, hoj, hjr⟩ := mem_ready.1 hj
      have hjlt : j < ops.size := (Array.getElem?_eq_some_iff.1 hoj).1
      have hmem : j ∈ L := (hm j).2 ⟨hjlt, hj1⟩
      have hmem' : j ∈ L' := (hm' j).2 ⟨hjlt, hj1⟩
      by_cases jx : j = y
      · -- y first: the second walk
        obtain ⟨pre, post, rfl⟩ := List.append_of_mem hmem'
        have hpair : ∀ i ∈ pre, pair ops hs i j = true := by
          intro i hi
          have hr := (List.pairwise_append.1 hp').2.2 i hi j (by simp)
          obtain ⟨hi1, hi2⟩ := (hm' i).1 (by simp [hi])
          exact rel_pair hr hD hoj hjr hi2 (by omega) (fun hh => hxy (by rw [← hh.2, jx]))
        have h1 := pull hoj hsel post pre a w hpair hC h'
        refine op_of_step hoj hC (step_mono hC h1 fun a' w' hC' _ hK => any_one (x := y) (y := x) hsel hself fuel (pre ++ post) _ a' w' hC' (by simp at hL' ⊢; omega) (drop_mid hnd') ?_ (mem_rest hnd' hm') (drop_mid hp') (down_set hD hoj hjr) (by simp [hsz]) hK)
        intro hh
        have := ((mem_rest hnd' hm' y).1 hh.1).2
        rw [set_iff] at this
        exact this.2 jx.symm
      · by_cases jy : j = x
        · obtain ⟨pre, post, rfl⟩ := List.append_of_mem hmem
          have hpair : ∀ i ∈ pre, pair ops hs i j = true := by
            intro i hi
            have hr := (List.pairwise_append.1 hp).2.2 i hi j (by simp)
            obtain ⟨hi1, hi2⟩ := (hm i).1 (by simp [hi])
            exact rel_pair hr hD hoj hjr hi2 (by omega) (fun hh => jx hh.2)
          have h1 := pull hoj hsel post pre a w hpair hC h
          refine op_of_step hoj hC (step_mono hC h1 fun a' w' hC' _ hK => any_one (x := x) (y := y) hsel hself fuel (pre ++ post) _ a' w' hC' (by simp at hL ⊢; omega) (drop_mid hnd) ?_ (mem_rest hnd hm) (drop_mid hp) (down_set hD hoj hjr) (by simp [hsz]) hK)
          intro hh
          have := ((mem_rest hnd hm x).1 hh.1).2
          rw [set_iff] at this
          exact this.2 jy.symm
        · obtain ⟨pre, post, rfl⟩ := List.append_of_mem hmem
          obtain ⟨pre', post', rfl⟩ := List.append_of_mem hmem'
          have hpair : ∀ i ∈ pre, pair ops hs i j = true := by
            intro i hi
            have hr := (List.pairwise_append.1 hp).2.2 i hi j (by simp)
            obtain ⟨hi1, hi2⟩ := (hm i).1 (by simp [hi])
            exact rel_pair hr hD hoj hjr hi2 (by omega) (fun hh => jx hh.2)
          have hpair' : ∀ i ∈ pre', pair ops hs i j = true := by
            intro i hi
            have hr := (List.pairwise_append.1 hp').2.2 i hi j (by simp)
            obtain ⟨hi1, hi2⟩ := (hm' i).1 (by simp [hi])
            exact rel_pair hr hD hoj hjr hi2 (by omega) (fun hh => jy hh.2)
          have h1 := pull hoj hsel post pre a w hpair hC h
          have h2 := pull hoj hsel post' pre' a w hpair' hC h'
          have hk : kind hs j oj ≠ 2 := by
            intro hk
            rcases heff j oj hoj hk with e | e | e
            · exact jy e
            · exact jx e
            · have hl := masks_sound hD (j + 1) j oj (by omega) hoj hjr x e
              obtain ⟨hi1, hi2⟩ := (hm x).1 hx
              have hb2 : x < listed.size := by omega
              simp only [Array.getD_eq_getD_getElem?, Array.getElem?_eq_getElem hb2, Option.getD_some] at hl hi2
              rw [hl] at hi2
              cases hi2
          refine op_of_step hoj hC (step_mono hC (step_both hC hk h1 h2) fun a' w' hC' _ hK => ih (pre ++ post) (pre' ++ post') _ a' w' hC' (by simp at hL ⊢; omega) (drop_mid hnd) (by simp at hL' ⊢; omega) (drop_mid hnd') ?_ ?_ (mem_rest hnd hm) (mem_rest hnd' hm') (drop_mid hp) (drop_mid hp') (down_set hD hoj hjr) (by simp [hsz]) hK.1 hK.2)
          · refine (mem_rest hnd hm x).2 ?_
            rw [set_iff]
            obtain ⟨q1, q2⟩ := (hm x).1 hx
            exact ⟨q1, q2, Ne.symm jy⟩
          · refine (mem_rest hnd hm y).2 ?_
            rw [set_iff]
            obtain ⟨q1, q2⟩ := (hm y).1 hy
            exact ⟨q1, q2, Ne.symm jx⟩

/-- the check, by the kernel -/
def ok2 (hs : List Nat) (ops : Array Oper) (x y : Nat) (ord : List Nat) : Bool :=
  let M := masks ops.toList []
  (x != y) && decide (x < ops.size) && decide (y < ops.size) &&
  ((List.range ops.size).all fun j => match ops[j]? with
    | some oj => noSel oj && (oj.after.all fun e => !Region.binds .any e || decide (e.on < j)) && (kind hs j oj != 2 || j == x || j == y || (M.getD j 0).testBit x)
    | none => true) &&
  pw (rel ops hs M x y) (List.range ops.size) && pw (rel ops hs M y x) ord && decide (ord.length = ops.size) && ord.all (fun i => decide (i < ops.size)) && pw (fun a b => a != b) ord

/-- the walk over a list of numbered operations -/
def lexI (P : Program) (ops : Array Oper) (C : World → Prop) (hs : List Nat) (Q : Act → World → Prop) : List (Nat × Oper) → Act → World → Prop
  | [], a, w => Q a w
  | p :: r, a, w => step P ops C hs p.1 p.2 (lexI P ops C hs Q r) a w
theorem lexN_of_lexI {Q : Act → World → Prop} : ∀ (l : List (Nat × Oper)), (∀ p ∈ l, ops[p.1]? = some p.2) → lexI P ops C hs Q l = lexN P ops C hs Q (l.map _root_.Prod.fst) := by
  intro l
  induction l with
  | nil => intro _; funext a w; simp [lexI, lexN]
  | cons p r ih =>
    intro h
    have h0 := h p (by simp)
    funext a w
    simp only [lexI, List.map_cons, lexN, h0, ih (fun q hq => h q (by simp [hq]))]
end

/-- THE REGION, in two walks: op x ahead of op y in the order of the text, and y ahead of x in the order 'ord'. -/
theorem region2 {P : Program} {C : World → Prop} {hs : List Nat} {id : Nat} {l : List Oper} {Q : Exit → Act → World → Prop} {a : Act} {w : World} (x y : Nat) (ord : List Nat) (m : List (Nat × Oper)) (hm : P.follows .mixedOrders = true) (hok : ok2 hs l.toArray x y ord = true) (hord : m = ord.filterMap fun i => (l[i]?).map fun o => (i, o)) (hC : C w.drew)
    (h : lex P l.toArray C hs (fun a w => Q .normal a w) 0 l a w.drew) (h' : lexI P l.toArray C hs (fun a w => Q .normal a w) m a w.drew) : (Code.region id l.toArray true).wp P Q a w := by
  refine wp_region_any hm ?_
  simp only [ok2, Bool.and_eq_true, decide_eq_true_eq, bne_iff_ne] at hok
  obtain ⟨⟨⟨⟨⟨⟨⟨⟨o1, o2⟩, o3⟩, o4⟩, o5⟩, o6⟩, o7⟩, o8⟩, o9⟩ := hok
  have o4' : ∀ (j : Nat) (oj : Oper), l.toArray[j]? = some oj → noSel oj = true ∧ (∀ e ∈ oj.after, Region.binds .any e = true → e.on < j) ∧ (kind hs j oj = 2 → j = x ∨ j = y ∨ ((masks l.toArray.toList []).getD j 0).testBit x = true) := by
    intro j oj hj
    have hlt : j < l.toArray.size := (Array.getElem?_eq_some_iff.1 hj).1
    have h1 := List.all_eq_true.1 o4 j (List.mem_range.2 hlt)
    simp only [hj, Bool.and_eq_true] at h1
    obtain ⟨⟨h2, h3⟩, h4⟩ := h1
    refine ⟨h2, fun e he hb => ?_, fun hk => ?_⟩
    · have := Array.all_eq_true'.1 h3 e he
      simpa [hb] using this
    · simp only [hk, Bool.or_eq_true, beq_iff_eq] at h4
      rcases h4 with ((h4 | h4) | h4) | h4
      · simp at h4
      · exact .inl h4
      · exact .inr (.inl h4)
      · exact .inr (.inr h4)
  have o8' : ∀ i ∈ ord, i < l.length := fun i hi => by have := List.all_eq_true.1 o8 i hi; simpa using this
  have hnd : ord.Nodup := (pw_iff o9).imp fun hh => by simpa using hh
  have hmord : m.map _root_.Prod.fst = ord := by
    rw [hord]
    clear hord o6 o7 o8 o9 hnd h'
    induction ord with
    | nil => rfl
    | cons i ord ih =>
      have hi : l[i]? = some (l[i]'(o8' i (by simp))) := List.getElem?_eq_getElem _
      rw [List.filterMap_cons, hi]
      simp only [Option.map_some, List.map_cons]
      rw [ih (fun k hk => o8' k (by simp [hk]))]
  have hall : ∀ i, i < l.length → i ∈ ord := by
    intro i hi
    rcases Classical.em (i ∈ ord) with h | h
    · exact h
    · exfalso
      have key : ∀ (A B : List Nat), A.Nodup → (∀ z ∈ A, z ∈ B) → A.length ≤ B.length := by
        intro A
        induction A with
        | nil => intro B _ _; simp
        | cons z A ih =>
          intro B hA hAB
          rw [List.nodup_cons] at hA
          have hz : z ∈ B := hAB z (by simp)
          have := ih (B.erase z) hA.2 (fun u hu => (List.mem_erase_of_ne (fun e => by subst e; exact hA.1 hu)).2 (hAB u (by simp [hu])))
          rw [List.length_erase_of_mem hz] at this
          have := List.length_pos_of_mem hz
          rw [List.length_cons]
          omega
      have := key (i :: ord) (List.range l.length) (List.nodup_cons.2 ⟨h, hnd⟩) (fun z hz => by
        rcases List.mem_cons.1 hz with rfl | hz
        · exact List.mem_range.2 hi
        · exact List.mem_range.2 (o8' z hz))
      rw [List.length_cons, List.length_range] at this
      simp at o7
      omega
  refine any_two (C := C) (hs := hs) (x := x) (y := y) o1 (fun j o cs b hj he => ?_) (fun k o hk e he hb => ?_) (fun k o hk h2 => (o4' k o hk).2.2 h2) _ (List.range l.length) ord _ a _ hC (by simp) List.nodup_range (by simpa using o7) hnd (List.mem_range.2 (by simpa using o2)) (List.mem_range.2 (by simpa using o3)) ?_ ?_ (by simpa using pw_iff o5) (pw_iff o6) ?_ (by simp) ?_ ?_
  · have := (o4' j o hj).1
    simp [noSel, he] at this
  · have h1 := (o4' k o hk).2.1 e he hb
    have hlt : k < l.toArray.size := (Array.getElem?_eq_some_iff.1 hk).1
    exact ⟨by omega, by omega⟩
  · intro i
    simp [Array.getD_eq_getD_getElem?, Array.getElem?_replicate]
    intro hi
    simp [hi]
  · intro i
    constructor
    · intro hi
      have := o8' i hi
      simp [Array.getD_eq_getD_getElem?, this]
    · rintro ⟨hi, _⟩
      exact hall i (by simpa using hi)
  · intro j o ho hl
    simp [Array.getD_eq_getD_getElem?, Array.getElem?_replicate] at hl
    split at hl <;> simp at hl
  · have := lexN_of_lex (P := P) (ops := l.toArray) (C := C) (hs := hs) (Q := fun a w => Q .normal a w) l 0 (fun m => by simp)
    rw [this, ← List.range_eq_range'] at h
    exact h
  · rw [lexN_of_lexI m ?_, hmord] at h'
    · exact h'
    · intro p hp
      rw [hord] at hp
      obtain ⟨i, hi, he⟩ := List.mem_filterMap.1 hp
      cases hl : l[i]? with
      | none => rw [hl] at he; cases he
      | some o => rw [hl] at he; injection he with he; subst he; simpa using hl

section
variable {P : Program} {ops : Array Oper} {C : World → Prop} {hs : List Nat} {Q : Act → World → Prop} {k : Nat} {o : Oper} {r : List (Nat × Oper)} {a : Act} {w : World}
theorem lexI_nil (h : Q a w) : lexI P ops C hs Q [] a w := h
theorem lexI_pure {v : Value} (hk : kind hs k o = 0) (hw : Region.wanted o (yielded ops a.tmps) = true) (hr : ∀ w', C w' → (execOp a.eval o).run P w' = .ok (.value v) w')
    (h : ∀ K : Act → Prop, (∀ a', lexI P ops C hs Q r a' w → K a') → K (a.put o.dst v)) : lexI P ops C hs Q ((k, o) :: r) a w := by
  simp only [lexI, step, hw, if_true]
  exact .inl ⟨hk, v, hr, h _ fun _ h => h⟩
theorem lexI_read {v : Value} (hk : kind hs k o = 1) (hw : Region.wanted o (yielded ops a.tmps) = true) (hr : (execOp a.eval o).run P w = .ok (.value v) w)
    (h : ∀ K : Act → Prop, (∀ a', lexI P ops C hs Q r a' w → K a') → K (a.put o.dst v)) : lexI P ops C hs Q ((k, o) :: r) a w := by
  simp only [lexI, step, hw, if_true]
  exact .inr (.inl ⟨hk, v, hr, h _ fun _ h => h⟩)
theorem lexI_eff (hk : kind hs k o = 2) (hw : Region.wanted o (yielded ops a.tmps) = true)
    (h : ∀ K : Act → World → Prop, (∀ a' w', C w' → lexI P ops C hs Q r a' w' → K a' w') → o.wp P a w K NoQ) : lexI P ops C hs Q ((k, o) :: r) a w := by
  simp only [lexI, step, hw, if_true]
  exact .inr (.inr ⟨hk, h _ fun _ _ h1 h2 => ⟨h1, h2⟩⟩)
end
attribute [irreducible] lexI
end Lx
end Go.Proofs.Ytpdhelhngdeoeaa
