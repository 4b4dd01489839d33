/- A region that draws its order, with effects that nothing orders: one walk for each order of the effects. Nothing of the program is named here. -/
import Derived.Test.YtpdhelhngdeoeaaDoorLim01
/- A region that draws its order, with one pair of effects that nothing orders: two walks, one for each order of the pair. Nothing of the program is named here. -/
namespace Go.Proofs.YtpdhelhngdeoeaaDoor
open Go.RowKit
namespace Lx
section
variable {P : Program} {ops : Array Oper} {C : World → Prop} {hs : List Nat}

/-- i may stand ahead of j in a walk; (x, y): the pair that is not exchanged -/
def rel (ops : Array Oper) (hs : List Nat) (M : List Nat) (x y i j : Nat) : Bool :=
  ((M.getD j 0).testBit i || pair ops hs i j || (i == x && j == y)) && (match ops[i]? with | some o => o.after.all fun e => !Region.binds .any e || e.on != j | none => true)

def pw {α : Type} (r : α → α → Bool) : List α → Bool
  | [] => true
  | x :: l => l.all (r x) && pw r l
theorem pw_iff {α : Type} {r : α → α → Bool} : ∀ {l : List α}, pw r l = true → l.Pairwise (fun a b => r a b = true) := by
  intro l
  induction l with
  | nil => intro _; exact List.Pairwise.nil
  | cons x l ih =>
    intro h
    rw [pw, Bool.and_eq_true] at h
    exact List.Pairwise.cons (fun y hy => List.all_eq_true.1 h.1 y hy) (ih h.2)

theorem rel_pair {x y i j : Nat} (h : rel ops hs (masks ops.toList []) x y i j = true) {listed : Array Bool} (hD : Down ops listed) {oj : Oper} (hoj : ops[j]? = some oj) (hjr : ∀ e ∈ oj.after, Region.binds .any e = true → listed.getD e.on false = true) (hi : listed.getD i true = false) (hil : i < listed.size) (hne : ¬ (i = x ∧ j = y)) : pair ops hs i j = true := by
  simp only [rel, Bool.and_eq_true, Bool.or_eq_true, beq_iff_eq] at h
  rcases h.1 with (h1 | h1) | h1
  · exfalso
    have hl := masks_sound hD (j + 1) j oj (by omega) hoj hjr i h1
    simp only [Array.getD_eq_getD_getElem?, Array.getElem?_eq_getElem hil, Option.getD_some] at hl hi
    rw [hl] at hi
    cases hi
  · exact h1
  · exact absurd h1 hne

theorem head_ready {x y i : Nat} {L : List Nat} {listed : Array Bool} (hsz : listed.size = ops.size) (hm : ∀ k, k ∈ i :: L ↔ k < ops.size ∧ listed.getD k true = false) (hself : ∀ (k : Nat) (o : Oper), ops[k]? = some o → ∀ e ∈ o.after, Region.binds .any e = true → e.on ≠ k ∧ e.on < ops.size)
    (hp : (i :: L).Pairwise (fun a b => rel ops hs (masks ops.toList []) x y a b = true)) : i ∈ Region.ready .any ops listed := by
  obtain ⟨hi1, hi2⟩ := (hm i).1 (by simp)
  have ho : ops[i]? = some ops[i] := Array.getElem?_eq_getElem hi1
  refine mem_ready.2 ⟨hi2, _, ho, fun e he hb => ?_⟩
  have hse := hself i _ ho e he hb
  have hb2 : e.on < listed.size := by omega
  cases hl : listed.getD e.on false with
  | true => rfl
  | false =>
    exfalso
    have hl' : listed.getD e.on true = false := by
      simp only [Array.getD_eq_getD_getElem?, Array.getElem?_eq_getElem hb2, Option.getD_some] at hl ⊢; exact hl
    have hmem : e.on ∈ i :: L := (hm e.on).2 ⟨hse.2, hl'⟩
    rcases List.mem_cons.1 hmem with h | h
    · exact hse.1 h
    · have h1 := (List.pairwise_cons.1 hp).1 e.on h
      simp only [rel, ho, Bool.and_eq_true] at h1
      have h2 := Array.all_eq_true'.1 h1.2 e he
      simp [hb] at h2

theorem set_iff {listed : Array Bool} {j : Nat} (i : Nat) : (listed.setIfInBounds j true).getD i true = false ↔ (listed.getD i true = false ∧ i ≠ j) := by
  by_cases hij : i = j
  · subst hij
    simp [Array.getD_eq_getD_getElem?, Array.getElem?_setIfInBounds]
    split <;> simp_all
  · simp [Array.getD_eq_getD_getElem?, Array.getElem?_setIfInBounds_ne (Ne.symm hij), hij]

theorem mem_rest {listed : Array Bool} {pre post : List Nat} {j : Nat} (hnd : (pre ++ j :: post).Nodup) (hm : ∀ k, k ∈ pre ++ j :: post ↔ k < ops.size ∧ listed.getD k true = false) : ∀ k, k ∈ pre ++ post ↔ k < ops.size ∧ (listed.setIfInBounds j true).getD k true = false := by
  intro i
  rw [set_iff]
  have hnj : j ∉ pre ++ post := by
    rw [List.nodup_append] at hnd
    obtain ⟨_, h2, h3⟩ := hnd
    rw [List.nodup_cons] at h2
    intro h
    rcases List.mem_append.1 h with h | h
    · exact h3 j h j (by simp) rfl
    · exact h2.1 h
  constructor
  · intro hi
    have hi' : i ∈ pre ++ j :: post := by
      rcases List.mem_append.1 hi with h | h
      · simp [h]
      · simp [h]
    obtain ⟨q1, q2⟩ := (hm i).1 hi'
    exact ⟨q1, q2, fun e => hnj (e ▸ hi)⟩
  · rintro ⟨q1, q2, q3⟩
    have := (hm i).2 ⟨q1, q2⟩
    rcases List.mem_append.1 this with h | h
    · simp [h]
    · rcases List.mem_cons.1 h with h | h
      · exact absurd h q3
      · simp [h]

theorem down_set {listed : Array Bool} (hD : Down ops listed) {j : Nat} {oj : Oper} (hoj : ops[j]? = some oj) (hjr : ∀ e ∈ oj.after, Region.binds .any e = true → listed.getD e.on false = true) : Down ops (listed.setIfInBounds j true) := by
  intro j' o' ho' hl' e he hb
  by_cases hjj : j' = j
  · subst hjj
    rw [hoj] at ho'
    injection ho' with ho'
    subst ho'
    exact getD_set_true (hjr e he hb)
  · rw [getD_set_ne false (Ne.symm hjj)] at hl'
    exact getD_set_true (hD j' o' ho' hl' e he hb)

theorem drop_mid {α : Type} {R : α → α → Prop} {pre post : List α} {j : α} (h : (pre ++ j :: post).Pairwise R) : (pre ++ post).Pairwise R :=
  h.sublist (List.Sublist.append (List.Sublist.refl _) (List.sublist_cons_self _ _))

theorem op_of_step {Q : Exit → Act → World → Prop} {j : Nat} {oj : Oper} {a : Act} {w : World} {K : Act → World → Prop} (hoj : ops[j]? = some oj) (hC : C w) (h2 : step P ops C hs j oj K a w) : wpOp P ops Q j K a w := by
  unfold step at h2
  unfold wpOp
  simp only [hoj]
  split
  · rename_i hw
    rw [if_pos hw] at h2
    left
    rcases h2 with ⟨_, v, h3, h4⟩ | ⟨_, v, h3, h4⟩ | ⟨_, h3⟩
    · unfold Oper.wp; rw [h3 w hC]; exact h4
    · unfold Oper.wp; rw [h3]; exact h4
    · exact Oper.wp_mono (fun _ _ hh => hh.2) (wp_noQ h3)
  · rename_i hw
    rw [if_neg hw] at h2
    exact h2

theorem any_one {Q : Exit → Act → World → Prop} {x y : Nat} (hsel : ∀ (j : Nat) (o : Oper) cs b, ops[j]? = some o → o.op ≠ .select cs b) (hself : ∀ (k : Nat) (o : Oper), ops[k]? = some o → ∀ e ∈ o.after, Region.binds .any e = true → e.on ≠ k ∧ e.on < ops.size) :
    ∀ (fuel : Nat) (L : List Nat) (listed : Array Bool) (a : Act) (w : World), C w → L.length = fuel → L.Nodup → ¬ (x ∈ L ∧ y ∈ L) →
    (∀ i, i ∈ L ↔ i < ops.size ∧ listed.getD i true = false) → L.Pairwise (fun a b => rel ops hs (masks ops.toList []) x y a b = true) → Down ops listed → listed.size = ops.size → lexN P ops C hs (fun a w => Q .normal a w) L a w → wpAny P .any ops Q fuel listed a w := by
  intro fuel
  induction fuel with
  | zero =>
    intro L listed a w hC hL _ _ hm hs' hD hsz h
    have hnil : L = [] := List.eq_nil_of_length_eq_zero hL
    subst hnil
    refine ⟨?_, h⟩
    cases hr : Region.ready .any ops listed with
    | nil => rfl
    | cons z zs =>
      have hx : z ∈ Region.ready .any ops listed := by rw [hr]; simp
      obtain ⟨h1, o, ho, _⟩ := mem_ready.1 hx
      have : z ∈ ([] : List Nat) := (hm z).2 ⟨(Array.getElem?_eq_some_iff.1 ho).1, h1⟩
      cases this
  | succ fuel ih =>
    intro L listed a w hC hL hnd hxy hm hs' hD hsz h
    refine ⟨fun hr => ?_, fun j hj => ?_⟩
    · exfalso
      cases L with
      | nil => simp at hL
      | cons i L =>
        have hri := head_ready hsz hm hself hs'
        rw [hr] at hri
        cases hri
    · obtain ⟨hj1, oj, hoj, hjr⟩ := mem_ready.1 hj
      have hjlt : j < ops.size := (Array.getElem?_eq_some_iff.1 hoj).1
      have hmem : j ∈ L := (hm j).2 ⟨hjlt, hj1⟩
      obtain ⟨pre, post, rfl⟩ := List.append_of_mem hmem
      have hpair : ∀ i ∈ pre, pair ops hs i j = true := by
        intro i hi
        have hr := (List.pairwise_append.1 hs').2.2 i hi j (by simp)
        obtain ⟨hi1, hi2⟩ := (hm i).1 (by simp [hi])
        exact rel_pair hr hD hoj hjr hi2 (by omega) (fun hh => hxy ⟨by rw [← hh.1]; simp [hi], by rw [← hh.2]; simp⟩)
      have h1 := pull hoj hsel post pre a w hpair hC h
      refine op_of_step hoj hC (step_mono hC h1 fun a' w' hC' _ hK => ih (pre ++ post) _ a' w' hC' (by simp at hL ⊢; omega) (drop_mid hnd) ?_ (mem_rest hnd hm) (drop_mid hs') (down_set hD hoj hjr) (by simp [hsz]) hK)
      intro hh
      apply hxy
      refine ⟨?_, ?_⟩
      · rcases List.mem_append.1 hh.1 with h | h <;> simp [h]
      · rcases List.mem_append.1 hh.2 with h | h <;> simp [h]

theorem step_both {j : Nat} {oj : Oper} {a : Act} {w : World} {K K' : Act → World → Prop} (hC : C w) (hk : kind hs j oj ≠ 2) (h : step P ops C hs j oj K a w) (h' : step P ops C hs j oj K' a w) : step P ops C hs j oj (fun a w => K a w ∧ K' a w) a w := by
  unfold step at *
  split
  · rename_i hw
    rw [if_pos hw] at h h'
    rcases h with ⟨h0, v, h1, h2⟩ | ⟨h0, v, h1, h2⟩ | ⟨h0, _⟩
    · rcases h' with ⟨_, v', h1', h2'⟩ | ⟨h0', _⟩ | ⟨h0', _⟩
      · have := (h1 w hC).symm.trans (h1' w hC)
        injection this with this _
        injection this with this
        subst this
        exact .inl ⟨h0, v, h1, h2, h2'⟩
      · omega
      · omega
    · rcases h' with ⟨h0', _⟩ | ⟨_, v', h1', h2'⟩ | ⟨h0', _⟩
      · omega
      · have := h1.symm.trans h1'
        injection this with this _
        injection this with this
        subst this
        exact .inr (.inl ⟨h0, v, h1, h2, h2'⟩)
      · omega
    · exact absurd h0 hk
  · rename_i hw
    rw [if_neg hw] at h h'
    exact ⟨h, h'⟩

theorem any_two {Q : Exit → Act → World → Prop} {x y : Nat} (hxy : x ≠ y) (hsel : ∀ (j : Nat) (o : Oper) cs b, ops[j]? = some o → o.op ≠ .select cs b) (hself : ∀ (k : Nat) (o : Oper), ops[k]? = some o → ∀ e ∈ o.after, Region.binds .any e = true → e.on ≠ k ∧ e.on < ops.size)
    (heff : ∀ (k : Nat) (o : Oper), ops[k]? = some o → kind hs k o = 2 → k = x ∨ k = y ∨ ((masks ops.toList []).getD k 0).testBit x = true) :
    ∀ (fuel : Nat) (L L' : List Nat) (listed : Array Bool) (a : Act) (w : World), C w → L.length = fuel → L.Nodup → L'.length = fuel → L'.Nodup → x ∈ L → y ∈ L →
    (∀ i, i ∈ L ↔ i < ops.size ∧ listed.getD i true = false) → (∀ i, i ∈ L' ↔ i < ops.size ∧ listed.getD i true = false) → L.Pairwise (fun a b => rel ops hs (masks ops.toList []) x y a b = true) → L'.Pairwise (fun a b => rel ops hs (masks ops.toList []) y x a b = true) →
    Down ops listed → listed.size = ops.size → lexN P ops C hs (fun a w => Q .normal a w) L a w → lexN P ops C hs (fun a w => Q .normal a w) L' a w → wpAny P .any ops Q fuel listed a w := by
  intro fuel
  induction fuel with
  | zero =>
    intro L L' listed a w _ hL _ _ _ hx _ _ _ _ _ _ _ _ _
    have hnil : L = [] := List.eq_nil_of_length_eq_zero hL
    subst hnil
    cases hx
  | succ fuel ih =>
    intro L L' listed a w hC hL hnd hL' hnd' hx hy hm hm' hp hp' hD hsz h h'
    refine ⟨fun hr => ?_, fun j hj => ?_⟩
    · exfalso
      cases L with
      | nil => simp at hL
      | cons i L =>
        have hri := head_ready hsz hm hself hp
        rw [hr] at hri
        cases hri
    · obtain ⟨hj1, oj, hoj, hjr⟩ := mem_ready.1 hj
      have hjlt : j < ops.size := (Array.getElem?_eq_some_iff.1 hoj).1
      have hmem : j ∈ L := (hm j).2 ⟨hjlt, hj1⟩
      have hmem' : j ∈ L' := (hm' j).2 ⟨hjlt, hj1⟩
      by_cases jx : j = y
      · -- y first: the second walk
        obtain ⟨pre, post, rfl⟩ := List.append_of_mem hmem'
        have hpair : ∀ i ∈ pre, pair ops hs i j = true := by
          intro i hi
          have hr := (List.pairwise_append.1 hp').2.2 i hi j (by simp)
          obtain ⟨hi1, hi2⟩ := (hm' i).1 (by simp [hi])
          exact rel_pair hr hD hoj hjr hi2 (by omega) (fun hh => hxy (by rw [← hh.2, jx]))
        have h1 := pull hoj hsel post pre a w hpair hC h'
        refine op_of_step hoj hC (step_mono hC h1 fun a' w' hC' _ hK => any_one (x := y) (y := x) hsel hself fuel (pre ++ post) _ a' w' hC' (by simp at hL' ⊢; omega) (drop_mid hnd') ?_ (mem_rest hnd' hm') (drop_mid hp') (down_set hD hoj hjr) (by simp [hsz]) hK)
        intro hh
        have := ((mem_rest hnd' hm' y).1 hh.1).2
        rw [set_iff] at this
        exact this.2 jx.symm
      · by_cases jy : j = x
        · obtain ⟨pre, post, rfl⟩ := List.append_of_mem hmem
          have hpair : ∀ i ∈ pre, pair ops hs i j = true := by
            intro i hi
            have hr := (List.pairwise_append.1 hp).2.2 i hi j (by simp)
            obtain ⟨hi1, hi2⟩ := (hm i).1 (by simp [hi])
            exact rel_pair hr hD hoj hjr hi2 (by omega) (fun hh => jx hh.2)
          have h1 := pull hoj hsel post pre a w hpair hC h
          refine op_of_step hoj hC (step_mono hC h1 fun a' w' hC' _ hK => any_one (x := x) (y := y) hsel hself fuel (pre ++ post) _ a' w' hC' (by simp at hL ⊢; omega) (drop_mid hnd) ?_ (mem_rest hnd hm) (drop_mid hp) (down_set hD hoj hjr) (by simp [hsz]) hK)
          intro hh
          have := ((mem_rest hnd hm x).1 hh.1).2
          rw [set_iff] at this
          exact this.2 jy.symm
        · obtain ⟨pre, post, rfl⟩ := List.append_of_mem hmem
          obtain ⟨pre', post', rfl⟩ := List.append_of_mem hmem'
          have hpair : ∀ i ∈ pre, pair ops hs i j = true := by
            intro i hi
            have hr := (List.pairwise_append.1 hp).2.2 i hi j (by simp)
            obtain ⟨hi1, hi2⟩ := (hm i).1 (by simp [hi])
            exact rel_pair hr hD hoj hjr hi2 (by omega) (fun hh => jx hh.2)
          have hpair' : ∀ i ∈ pre', pair ops hs i j = true := by
            intro i hi
            have hr := (List.pairwise_append.1 hp').2.2 i hi j (by simp)
            obtain ⟨hi1, hi2⟩ := (hm' i).1 (by simp [hi])
            exact rel_pair hr hD hoj hjr hi2 (by omega) (fun hh => jy hh.2)
          have h1 := pull hoj hsel post pre a w hpair hC h
          have h2 := pull hoj hsel post' pre' a w hpair' hC h'
          have hk : kind hs j oj ≠ 2 := by
            intro hk
            rcases heff j oj hoj hk with e | e | e
            · exact jy e
            · exact jx e
            · have hl := masks_sound hD (j + 1) j oj (by omega) hoj hjr x e
              obtain ⟨hi1, hi2⟩ := (hm x).1 hx
              have hb2 : x < listed.size := by omega
              simp only [Array.getD_eq_getD_getElem?, Array.getElem?_eq_getElem hb2, Option.getD_some] at hl hi2
              rw [hl] at hi2
              cases hi2
          refine op_of_step hoj hC (step_mono hC (step_both hC hk h1 h2) fun a' w' hC' _ hK => ih (pre ++ post) (pre' ++ post') _ a' w' hC' (by simp at hL ⊢; omega) (drop_mid hnd) (by simp at hL' ⊢; omega) (drop_mid hnd') ?_ ?_ (mem_rest hnd hm) (mem_rest hnd' hm') (drop_mid hp) (drop_mid hp') (down_set hD hoj hjr) (by simp [hsz]) hK.1 hK.2)
          · refine (mem_rest hnd hm x).2 ?_
            rw [set_iff]
            obtain ⟨q1, q2⟩ := (hm x).1 hx
            exact ⟨q1, q2, Ne.symm jy⟩
          · refine (mem_rest hnd hm y).2 ?_
            rw [set_iff]
            obtain ⟨q1, q2⟩ := (hm y).1 hy
            exact ⟨q1, q2, Ne.symm jx⟩

/-- the check, by the kernel -/
def ok2 (hs : List Nat) (ops : Array Oper) (x y : Nat) (ord : List Nat) : Bool :=
  let M := masks ops.toList []
  (x != y) && decide (x < ops.size) && decide (y < ops.size) &&
  ((List.range ops.size).all fun j => match ops[j]? with
    | some oj => noSel oj && (oj.after.all fun e => !Region.binds .any e || decide (e.on < j)) && (kind hs j oj != 2 || j == x || j == y || (M.getD j 0).testBit x)
    | none => true) &&
  pw (rel ops hs M x y) (List.range ops.size) && pw (rel ops hs M y x) ord && decide (ord.length = ops.size) && ord.all (fun i => decide (i < ops.size)) && pw (fun a b => a != b) ord

/-- the walk over a list of numbered operations -/
def lexI (P : Program) (ops : Array Oper) (C : World → Prop) (hs : List Nat) (Q : Act → World → Prop) : List (Nat × Oper) → Act → World → Prop
  | [], a, w => Q a w
  | p :: r, a, w => step P ops C hs p.1 p.2 (lexI P ops C hs Q r) a w
theorem lexN_of_lexI {Q : Act → World → Prop} : ∀ (l : List (Nat × Oper)), (∀ p ∈ l, ops[p.1]? = some p.2) → lexI P ops C hs Q l = lexN P ops C hs Q (l.map _root_.Prod.fst) := by
  intro l
  induction l with
  | nil => intro _; funext a w; simp [lexI, lexN]
  | cons p r ih =>
    intro h
    have h0 := h p (by simp)
    funext a w
    simp only [lexI, List.map_cons, lexN, h0, ih (fun q hq => h q (by simp [hq]))]
end

/-- THE REGION, in two walks: op x ahead of op y in the order of the text, and y ahead of x in the order 'ord'. -/
theorem region2 {P : Program} {C : World → Prop} {hs : List Nat} {id : Nat} {l : List Oper} {Q : Exit → Act → World → Prop} {a : Act} {w : World} (x y : Nat) (ord : List Nat) (m : List (Nat × Oper)) (hm : P.follows .mixedOrders = true) (hok : ok2 hs l.toArray x y ord = true) (hord : m = ord.filterMap fun i => (l[i]?).map fun o => (i, o)) (hC : C w.drew)
    (h : lex P l.toArray C hs (fun a w => Q .normal a w) 0 l a w.drew) (h' : lexI P l.toArray C hs (fun a w => Q .normal a w) m a w.drew) : (Code.region id l.toArray true).wp P Q a w := by
  refine wp_region_any hm ?_
  simp only [ok2, Bool.and_eq_true, decide_eq_true_eq, bne_iff_ne] at hok
  obtain ⟨⟨⟨⟨⟨⟨⟨⟨o1, o2⟩, o3⟩, o4⟩, o5⟩, o6⟩, o7⟩, o8⟩, o9⟩ := hok
  have o4' : ∀ (j : Nat) (oj : Oper), l.toArray[j]? = some oj → noSel oj = true ∧ (∀ e ∈ oj.after, Region.binds .any e = true → e.on < j) ∧ (kind hs j oj = 2 → j = x ∨ j = y ∨ ((masks l.toArray.toList []).getD j 0).testBit x = true) := by
    intro j oj hj
    have hlt : j < l.toArray.size := (Array.getElem?_eq_some_iff.1 hj).1
    have h1 := List.all_eq_true.1 o4 j (List.mem_range.2 hlt)
    simp only [hj, Bool.and_eq_true] at h1
    obtain ⟨⟨h2, h3⟩, h4⟩ := h1
    refine ⟨h2, fun e he hb => ?_, fun hk => ?_⟩
    · have := Array.all_eq_true'.1 h3 e he
      simpa [hb] using this
    · simp only [hk, Bool.or_eq_true, beq_iff_eq] at h4
      rcases h4 with ((h4 | h4) | h4) | h4
      · simp at h4
      · exact .inl h4
      · exact .inr (.inl h4)
      · exact .inr (.inr h4)
  have o8' : ∀ i ∈ ord, i < l.length := fun i hi => by have := List.all_eq_true.1 o8 i hi; simpa using this
  have hnd : ord.Nodup := (pw_iff o9).imp fun hh => by simpa using hh
  have hmord : m.map _root_.Prod.fst = ord := by
    rw [hord]
    clear hord o6 o7 o8 o9 hnd h'
    induction ord with
    | nil => rfl
    | cons i ord ih =>
      have hi : l[i]? = some (l[i]'(o8' i (by simp))) := List.getElem?_eq_getElem _
      rw [List.filterMap_cons, hi]
      simp only [Option.map_some, List.map_cons]
      rw [ih (fun k hk => o8' k (by simp [hk]))]
  have hall : ∀ i, i < l.length → i ∈ ord := by
    intro i hi
    rcases Classical.em (i ∈ ord) with h | h
    · exact h
    · exfalso
      have key : ∀ (A B : List Nat), A.Nodup → (∀ z ∈ A, z ∈ B) → A.length ≤ B.length := by
        intro A
        induction A with
        | nil => intro B _ _; simp
        | cons z A ih =>
          intro B hA hAB
          rw [List.nodup_cons] at hA
          have hz : z ∈ B := hAB z (by simp)
          have := ih (B.erase z) hA.2 (fun u hu => (List.mem_erase_of_ne (fun e => by subst e; exact hA.1 hu)).2 (hAB u (by simp [hu])))
          rw [List.length_erase_of_mem hz] at this
          have := List.length_pos_of_mem hz
          rw [List.length_cons]
          omega
      have := key (i :: ord) (List.range l.length) (List.nodup_cons.2 ⟨h, hnd⟩) (fun z hz => by
        rcases List.mem_cons.1 hz with rfl | hz
        · exact List.mem_range.2 hi
        · exact List.mem_range.2 (o8' z hz))
      rw [List.length_cons, List.length_range] at this
      simp at o7
      omega
  refine any_two (C := C) (hs := hs) (x := x) (y := y) o1 (fun j o cs b hj he => ?_) (fun k o hk e he hb => ?_) (fun k o hk h2 => (o4' k o hk).2.2 h2) _ (List.range l.length) ord _ a _ hC (by simp) List.nodup_range (by simpa using o7) hnd (List.mem_range.2 (by simpa using o2)) (List.mem_range.2 (by simpa using o3)) ?_ ?_ (by simpa using pw_iff o5) (pw_iff o6) ?_ (by simp) ?_ ?_
  · have := (o4' j o hj).1
    simp [noSel, he] at this
  · have h1 := (o4' k o hk).2.1 e he hb
    have hlt : k < l.toArray.size := (Array.getElem?_eq_some_iff.1 hk).1
    exact ⟨by omega, by omega⟩
  · intro i
    simp [Array.getD_eq_getD_getElem?, Array.getElem?_replicate]
    intro hi
    simp [hi]
  · intro i
    constructor
    · intro hi
      have := o8' i hi
      simp [Array.getD_eq_getD_getElem?, this]
    · rintro ⟨hi, _⟩
      exact hall i (by simpa using hi)
  · intro j o ho hl
    simp [Array.getD_eq_getD_getElem?, Array.getElem?_replicate] at hl
    split at hl <;> simp at hl
  · have := lexN_of_lex (P := P) (ops := l.toArray) (C := C) (hs := hs) (Q := fun a w => Q .normal a w) l 0 (fun m => by simp)
    rw [this, ← List.range_eq_range'] at h
    exact h
  · rw [lexN_of_lexI m ?_, hmord] at h'
    · exact h'
    · intro p hp
      rw [hord] at hp
      obtain ⟨i, hi, he⟩ := List.mem_filterMap.1 hp
      cases hl : l[i]? with
      | none => rw [hl] at he; cases he
      | some o => rw [hl] at he; injection he with he; subst he; simpa using hl

section
variable {P : Program} {ops : Array Oper} {C : World → Prop} {hs : List Nat} {Q : Act → World → Prop} {k : Nat} {o : Oper} {r : List (Nat × Oper)} {a : Act} {w : World}
theorem lexI_nil (h : Q a w) : lexI P ops C hs Q [] a w := h
theorem lexI_pure {v : Value} (hk : kind hs k o = 0) (hw : Region.wanted o (yielded ops a.tmps) = true) (hr : ∀ w', C w' → (execOp a.eval o).run P w' = .ok (.value v) w')
    (h : ∀ K : Act → Prop, (∀ a', lexI P ops C hs Q r a' w → K a') → K (a.put o.dst v)) : lexI P ops C hs Q ((k, o) :: r) a w := by
  simp only [lexI, step, hw, if_true]
  exact .inl ⟨hk, v, hr, h _ fun _ h => h⟩
theorem lexI_read {v : Value} (hk : kind hs k o = 1) (hw : Region.wanted o (yielded ops a.tmps) = true) (hr : (execOp a.eval o).run P w = .ok (.value v) w)
    (h : ∀ K : Act → Prop, (∀ a', lexI P ops C hs Q r a' w → K a') → K (a.put o.dst v)) : lexI P ops C hs Q ((k, o) :: r) a w := by
  simp only [lexI, step, hw, if_true]
  exact .inr (.inl ⟨hk, v, hr, h _ fun _ h => h⟩)
theorem lexI_eff (hk : kind hs k o = 2) (hw : Region.wanted o (yielded ops a.tmps) = true)
    (h : ∀ K : Act → World → Prop, (∀ a' w', C w' → lexI P ops C hs Q r a' w' → K a' w') → o.wp P a w K NoQ) : lexI P ops C hs Q ((k, o) :: r) a w := by
  simp only [lexI, step, hw, if_true]
  exact .inr (.inr ⟨hk, h _ fun _ _ h1 h2 => ⟨h1, h2⟩⟩)
end
attribute [irreducible] lexI
end Lx
end Go.Proofs.YtpdhelhngdeoeaaDoor

namespace Go.Proofs.YtpdhelhngdeoeaaDoor
open Go.RowKit
namespace Lx
section
variable {P : Program} {ops : Array Oper} {C : World → Prop} {hs : List Nat}

/-- an effect -/
def eff (ops : Array Oper) (hs : List Nat) (i : Nat) : Bool := match ops[i]? with | some o => kind hs i o == 2 | none => false
/-- an effect that enters no function -/
def plainE (o : Oper) : Bool := match o.op with
  | .alloc .. | .box .. | .buildSlice .. | .store .. | .makeSlice .. | .makeMap .. | .mapUpdate .. | .insert .. => true
  | _ => false
def relA (ops : Array Oper) (hs : List Nat) (M : List Nat) (i j : Nat) : Bool :=
  ((M.getD j 0).testBit i || pair ops hs i j || (eff ops hs i && eff ops hs j)) && (match ops[i]? with | some o => o.after.all fun e => !Region.binds .any e || e.on != j | none => true)

def tails (j : Nat) (Es : List (List Nat)) : List (List Nat) := Es.filterMap fun E => match E with | i :: r => if i = j then some r else none | [] => none
/-- every order of the effects that the edges leave is there -/
def cov (ops : Array Oper) (M : List Nat) : Nat → List (List Nat) → Bool
  | 0, Es => !Es.isEmpty
  | f + 1, Es => !Es.isEmpty && match Es with
    | [] => false
    | E :: _ => E.all fun j => (E.any fun i => (M.getD j 0).testBit i) || ((match ops[j]? with | some o => plainE o || (tails j Es).length == 1 | none => false) && cov ops M f (tails j Es))

theorem run_pure_bind {α : Type} {m : Sem α} {f : α → Next} {w w' : World} {x : Next} (h : (m >>= fun a => pure (f a)).run P w = .ok x w') : ∃ a, x = f a := by
  rw [Sem.run_bind] at h
  cases hm : m.run P w with
  | ok a w1 => rw [hm] at h; simp only [Result.andThen_ok, Sem.run_pure] at h; injection h with h1 h2; exact ⟨a, h1.symm⟩
  | halt y w1 => rw [hm] at h; cases h

theorem plain_not {o : Oper} (ho : plainE o = true) {ρ : Operand → Value} {w w' : World} {x : Next} (h : (execOp ρ o).run P w = .ok x w') : (∃ v, x = .value v) ∨ x = .skip := by
  unfold plainE at ho
  unfold execOp at h
  split at ho <;> simp_all only [] <;>
    first
      | (obtain ⟨a, rfl⟩ := run_pure_bind (f := fun v => Next.value v) h; exact .inl ⟨_, rfl⟩)
      | (obtain ⟨a, rfl⟩ := run_pure_bind (f := fun _ => Next.skip) h; exact .inr rfl)
      | cases ho

theorem wp_all {o : Oper} (ho : plainE o = true) {a : Act} {w : World} {I : Type} {S : I → Prop} {K : I → Act → World → Prop} (i0 : I) (h0 : S i0) (h : ∀ i, S i → o.wp P a w (K i) NoQ) : o.wp P a w (fun a' w' => ∀ i, S i → K i a' w') NoQ := by
  have hp := fun w' x => plain_not (P := P) ho (ρ := a.eval) (w := w) (w' := w') (x := x)
  unfold Oper.wp at *
  generalize (execOp a.eval o).run P w = r at *
  cases r with
  | ok n w' =>
    rcases hp w' n rfl with ⟨v, rfl⟩ | rfl
    · exact fun i hi => h i hi
    · exact fun i hi => h i hi
  | halt x w' =>
    have := h i0 h0
    cases x <;> simp only [Oper.upon] at this <;> first | exact this.elim | exact absurd this id

theorem step_all {j : Nat} {oj : Oper} {a : Act} {w : World} {I : Type} {S : I → Prop} {K : I → Act → World → Prop} (i0 : I) (h0 : S i0) (hC : C w) (hk : kind hs j oj ≠ 2 ∨ plainE oj = true) (h : ∀ i, S i → step P ops C hs j oj (K i) a w) : step P ops C hs j oj (fun a w => ∀ i, S i → K i a w) a w := by
  unfold step at *
  split
  · rename_i hw
    have h' : ∀ i, S i → (kind hs j oj = 0 ∧ ∃ v, (∀ w', C w' → (execOp a.eval oj).run P w' = .ok (.value v) w') ∧ K i (a.put oj.dst v) w) ∨ (kind hs j oj = 1 ∧ ∃ v, (execOp a.eval oj).run P w = .ok (.value v) w ∧ K i (a.put oj.dst v) w) ∨ (kind hs j oj = 2 ∧ oj.wp P a w (fun a' w' => C w' ∧ K i a' w') NoQ) := fun i hi => by
      have := h i hi; rw [if_pos hw] at this; exact this
    rcases h' i0 h0 with ⟨k0, v, h1, _⟩ | ⟨k0, v, h1, _⟩ | ⟨k0, h1⟩
    · refine .inl ⟨k0, v, h1, fun i hi => ?_⟩
      rcases h' i hi with ⟨_, v', h1', h2'⟩ | ⟨k1, _⟩ | ⟨k1, _⟩
      · have := (h1 w hC).symm.trans (h1' w hC)
        injection this with this _
        injection this with this
        subst this
        exact h2'
      · omega
      · omega
    · refine .inr (.inl ⟨k0, v, h1, fun i hi => ?_⟩)
      rcases h' i hi with ⟨k1, _⟩ | ⟨_, v', h1', h2'⟩ | ⟨k1, _⟩
      · omega
      · have := h1.symm.trans h1'
        injection this with this _
        injection this with this
        subst this
        exact h2'
      · omega
    · have hp : plainE oj = true := by
        rcases hk with hk | hk
        · exact absurd k0 hk
        · exact hk
      refine .inr (.inr ⟨k0, ?_⟩)
      have := wp_all (P := P) hp (a := a) (w := w) (S := S) (K := fun i a' w' => C w' ∧ K i a' w') i0 h0 (fun i hi => by
        rcases h' i hi with ⟨k1, _⟩ | ⟨k1, _⟩ | ⟨_, hh⟩
        · omega
        · omega
        · exact hh)
      exact Oper.wp_mono (fun a' w' hh => ⟨(hh i0 h0).1, fun i hi => (hh i hi).2⟩) this
  · rename_i hw
    intro i hi
    have := h i hi
    rw [if_neg hw] at this
    exact this

theorem relA_pair {i j : Nat} (h : relA ops hs (masks ops.toList []) i j = true) {listed : Array Bool} (hD : Down ops listed) {oj : Oper} (hoj : ops[j]? = some oj) (hjr : ∀ e ∈ oj.after, Region.binds .any e = true → listed.getD e.on false = true) (hi : listed.getD i true = false) (hil : i < listed.size) (hne : ¬ (eff ops hs i = true ∧ eff ops hs j = true)) : pair ops hs i j = true := by
  simp only [relA, Bool.and_eq_true, Bool.or_eq_true] at h
  rcases h.1 with (h1 | h1) | h1
  · exfalso
    have hl := masks_sound hD (j + 1) j oj (by omega) hoj hjr i h1
    simp only [Array.getD_eq_getD_getElem?, Array.getElem?_eq_getElem hil, Option.getD_some] at hl hi
    rw [hl] at hi
    cases hi
  · exact h1
  · exact absurd h1 hne

theorem head_readyA {i : Nat} {L : List Nat} {listed : Array Bool} (hsz : listed.size = ops.size) (hm : ∀ k, k ∈ i :: L ↔ k < ops.size ∧ listed.getD k true = false) (hself : ∀ (k : Nat) (o : Oper), ops[k]? = some o → ∀ e ∈ o.after, Region.binds .any e = true → e.on ≠ k ∧ e.on < ops.size)
    (hp : (i :: L).Pairwise (fun a b => relA ops hs (masks ops.toList []) a b = true)) : i ∈ Region.ready .any ops listed := by
  obtain ⟨hi1, hi2⟩ := (hm i).1 (by simp)
  have ho : ops[i]? = some ops[i] := Array.getElem?_eq_getElem hi1
  refine mem_ready.2 ⟨hi2, _, ho, fun e he hb => ?_⟩
  have hse := hself i _ ho e he hb
  have hb2 : e.on < listed.size := by omega
  cases hl : listed.getD e.on false with
  | true => rfl
  | false =>
    exfalso
    have hl' : listed.getD e.on true = false := by
      simp only [Array.getD_eq_getD_getElem?, Array.getElem?_eq_getElem hb2, Option.getD_some] at hl ⊢; exact hl
    have hmem : e.on ∈ i :: L := (hm e.on).2 ⟨hse.2, hl'⟩
    rcases List.mem_cons.1 hmem with h | h
    · exact hse.1 h
    · have h1 := (List.pairwise_cons.1 hp).1 e.on h
      simp only [relA, ho, Bool.and_eq_true] at h1
      have h2 := Array.all_eq_true'.1 h1.2 e he
      simp [hb] at h2

/-- what one order must be -/
structure Ord (ops : Array Oper) (hs : List Nat) (listed : Array Bool) (L : List Nat) : Prop where
  nd : L.Nodup
  mem : ∀ i, i ∈ L ↔ i < ops.size ∧ listed.getD i true = false
  pw : L.Pairwise (fun a b => relA ops hs (masks ops.toList []) a b = true)

theorem Ord.rest {listed : Array Bool} {L : List Nat} {j : Nat} (h : Ord ops hs listed L) (hj : j ∈ L) : Ord ops hs (listed.setIfInBounds j true) (L.erase j) := by
  obtain ⟨pre, post, rfl⟩ := List.append_of_mem hj
  have hnj : j ∉ pre := by
    have := (List.nodup_append.1 h.nd).2.2
    intro hh
    exact this j hh j (by simp) rfl
  have e : (pre ++ j :: post).erase j = pre ++ post := by
    rw [List.erase_append_right _ hnj, List.erase_cons_head]
  rw [e]
  exact ⟨drop_mid h.nd, mem_rest h.nd h.mem, drop_mid h.pw⟩

theorem erase_filter {p : Nat → Bool} {j : Nat} : ∀ {L : List Nat}, p j = false → (L.erase j).filter p = L.filter p := by
  intro L
  induction L with
  | nil => intro _; rfl
  | cons i L ih =>
    intro hp
    by_cases e : i = j
    · subst e
      rw [List.erase_cons_head, List.filter_cons_of_neg (by simp [hp])]
    · rw [List.erase_cons_tail (by simpa using e)]
      by_cases hi : p i = true
      · rw [List.filter_cons_of_pos hi, List.filter_cons_of_pos hi, ih hp]
      · rw [List.filter_cons_of_neg hi, List.filter_cons_of_neg hi, ih hp]

theorem first_eff {p : Nat → Bool} {j : Nat} {r : List Nat} : ∀ {L : List Nat}, L.filter p = j :: r → ∃ pre post, L = pre ++ j :: post ∧ (∀ i ∈ pre, p i = false) ∧ post.filter p = r := by
  intro L
  induction L with
  | nil => intro h; cases h
  | cons i L ih =>
    intro h
    by_cases hi : p i = true
    · rw [List.filter_cons_of_pos hi] at h
      injection h with h1 h2
      subst h1
      exact ⟨[], L, rfl, (fun _ hh => by cases hh), h2⟩
    · rw [List.filter_cons_of_neg hi] at h
      obtain ⟨pre, post, e, h1, h2⟩ := ih h
      refine ⟨i :: pre, post, by rw [e]; rfl, fun k hk => ?_, h2⟩
      rcases List.mem_cons.1 hk with rfl | hk
      · simpa using hi
      · exact h1 k hk

theorem any_all {Q : Exit → Act → World → Prop} (hsel : ∀ (j : Nat) (o : Oper) cs b, ops[j]? = some o → o.op ≠ .select cs b) (hself : ∀ (k : Nat) (o : Oper), ops[k]? = some o → ∀ e ∈ o.after, Region.binds .any e = true → e.on ≠ k ∧ e.on < ops.size) :
    ∀ (fuel : Nat) (Ls : List (List Nat)) (f : Nat) (listed : Array Bool) (a : Act) (w : World), C w → (∀ L ∈ Ls, L.length = fuel ∧ Ord ops hs listed L) → Ls ≠ [] → cov ops (masks ops.toList []) f (Ls.map fun L => L.filter (eff ops hs)) = true → (∀ L ∈ Ls, (L.filter (eff ops hs)).length ≤ f) →
    Down ops listed → listed.size = ops.size → (∀ L ∈ Ls, lexN P ops C hs (fun a w => Q .normal a w) L a w) → wpAny P .any ops Q fuel listed a w := by
  intro fuel
  induction fuel with
  | zero =>
    intro Ls f listed a w hC hL hne _ _ hD hsz h
    obtain ⟨L, hLm⟩ := List.exists_mem_of_ne_nil Ls hne
    obtain ⟨hl, hO⟩ := hL L hLm
    have hnil : L = [] := List.eq_nil_of_length_eq_zero hl
    subst hnil
    refine ⟨?_, h _ hLm⟩
    cases hr : Region.ready .any ops listed with
    | nil => rfl
    | cons z zs =>
      have hx : z ∈ Region.ready .any ops listed := by rw [hr]; simp
      obtain ⟨h1, o, ho, _⟩ := mem_ready.1 hx
      have : z ∈ ([] : List Nat) := (hO.mem z).2 ⟨(Array.getElem?_eq_some_iff.1 ho).1, h1⟩
      cases this
  | succ fuel ih =>
    intro Ls f listed a w hC hL hne hcov hf hD hsz h
    obtain ⟨L0, hL0⟩ := List.exists_mem_of_ne_nil Ls hne
    refine ⟨fun hr => ?_, fun j hj => ?_⟩
    · exfalso
      obtain ⟨hl, hO⟩ := hL L0 hL0
      cases L0 with
      | nil => simp at hl
      | cons i L =>
        have hri := head_readyA hsz hO.mem hself hO.pw
        rw [hr] at hri
        cases hri
    · obtain ⟨hj1, oj, hoj, hjr⟩ := mem_ready.1 hj
      have hjlt : j < ops.size := (Array.getElem?_eq_some_iff.1 hoj).1
      have hmem : ∀ L ∈ Ls, j ∈ L := fun L hLm => ((hL L hLm).2.mem j).2 ⟨hjlt, hj1⟩
      by_cases hef : eff ops hs j = true
      · -- an effect: the orders that begin with it
        have hE0 : j ∈ L0.filter (eff ops hs) := List.mem_filter.2 ⟨hmem L0 hL0, hef⟩
        have hnb : ∀ i, listed.getD i true = false → i < ops.size → ((masks ops.toList []).getD j 0).testBit i = false := by
          intro i hi hlt
          cases hb : ((masks ops.toList []).getD j 0).testBit i with
          | false => rfl
          | true =>
            have hl := masks_sound hD (j + 1) j oj (by omega) hoj hjr i hb
            have hb2 : i < listed.size := by omega
            simp only [Array.getD_eq_getD_getElem?, Array.getElem?_eq_getElem hb2, Option.getD_some] at hl hi
            rw [hl] at hi
            cases hi
        have hE0f := hf L0 hL0
        have hfpos : f ≠ 0 := by
          intro e
          rw [e] at hE0f
          have := List.length_pos_of_mem hE0
          omega
        obtain ⟨f', rfl⟩ := Nat.exists_eq_succ_of_ne_zero hfpos
        have hcov' : (match ops[j]? with | some o => plainE o || (tails j (Ls.map fun L => L.filter (eff ops hs))).length == 1 | none => false) = true ∧ cov ops (masks ops.toList []) f' (tails j (Ls.map fun L => L.filter (eff ops hs))) = true := by
          cases hLs : Ls with
          | nil => exact absurd hLs hne
          | cons L1 Ls' =>
            have hL1 : L1 ∈ Ls := by rw [hLs]; simp
            have hE1 : j ∈ L1.filter (eff ops hs) := List.mem_filter.2 ⟨hmem L1 hL1, hef⟩
            rw [hLs] at hcov
            simp only [cov, List.map_cons, Bool.and_eq_true] at hcov
            have hc := List.all_eq_true.1 hcov.2 j hE1
            rw [Bool.or_eq_true] at hc
            rcases hc with hc | hc
            · exfalso
              obtain ⟨i, hi, hb⟩ := List.any_eq_true.1 hc
              obtain ⟨q1, q2⟩ := ((hL L1 hL1).2.mem i).1 (List.mem_filter.1 hi).1
              rw [hnb i q2 q1] at hb
              cases hb
            · rw [Bool.and_eq_true] at hc
              exact hc
        obtain ⟨hpl, hcv⟩ := hcov'
        have hLs1 : ∀ L ∈ Ls.filter (fun L => (L.filter (eff ops hs)).head? == some j), step P ops C hs j oj (lexN P ops C hs (fun a w => Q .normal a w) (L.erase j)) a w := by
          intro L hLm
          rw [List.mem_filter, beq_iff_eq] at hLm
          obtain ⟨hLm, hh⟩ := hLm
          have hO := (hL L hLm).2
          cases hE : L.filter (eff ops hs) with
          | nil => rw [hE] at hh; cases hh
          | cons j' r =>
            rw [hE] at hh
            injection hh with hh
            subst hh
            obtain ⟨pre, post, rfl, h1, _⟩ := first_eff hE
            have hnj : j' ∉ pre := by
              have := (List.nodup_append.1 hO.nd).2.2
              intro hh
              exact this j' hh j' (by simp) rfl
            have e : (pre ++ j' :: post).erase j' = pre ++ post := by rw [List.erase_append_right _ hnj, List.erase_cons_head]
            rw [e]
            refine pull hoj hsel post pre a w (fun i hi => ?_) hC (h _ hLm)
            have hr := (List.pairwise_append.1 hO.pw).2.2 i hi j' (by simp)
            obtain ⟨hi1, hi2⟩ := (hO.mem i).1 (by simp [hi])
            exact relA_pair hr hD hoj hjr hi2 (by omega) (fun hh => by rw [h1 i hi] at hh; cases hh.1)
        have htl : tails j (Ls.map fun L => L.filter (eff ops hs)) = (Ls.filter (fun L => (L.filter (eff ops hs)).head? == some j)).map fun L => (L.erase j).filter (eff ops hs) := by
          have hnds : ∀ L ∈ Ls, L.Nodup := fun L hLm => (hL L hLm).2.nd
          clear hcv hpl hLs1 hcov hf ih h hL0 hE0 hE0f hne hL hmem
          induction Ls with
          | nil => rfl
          | cons L Ls ihL =>
            have ih' := ihL (fun L hLm => hnds L (by simp [hLm]))
            rw [List.map_cons]
            unfold tails at ih' ⊢
            rw [List.filterMap_cons]
            cases hE : L.filter (eff ops hs) with
            | nil =>
              rw [List.filter_cons_of_neg (by simp [hE])]
              exact ih'
            | cons j' r =>
              dsimp only
              by_cases e : j' = j
              · subst e
                rw [if_pos rfl, List.filter_cons_of_pos (by simp [hE]), List.map_cons]
                dsimp only
                rw [ih']
                congr 1
                obtain ⟨pre, post, he, h1, h2⟩ := first_eff hE
                have hnd := hnds L (by simp)
                subst he
                have hnj : j' ∉ pre := by
                  have := (List.nodup_append.1 hnd).2.2
                  intro hh
                  exact this j' hh j' (by simp) rfl
                rw [List.erase_append_right _ hnj, List.erase_cons_head, List.filter_append, h2]
                rw [List.filter_eq_nil_iff.2 (fun i hi => by rw [h1 i hi]; simp)]
                rfl
              · rw [if_neg e, List.filter_cons_of_neg (by simp [hE, e])]
                exact ih'
        have hne1 : Ls.filter (fun L => (L.filter (eff ops hs)).head? == some j) ≠ [] := by
          intro e
          rw [htl, e] at hcv
          cases f' <;> simp [cov] at hcv
        obtain ⟨L1, hL1⟩ := List.exists_mem_of_ne_nil _ hne1
        have hstep : step P ops C hs j oj (fun a w => ∀ L, L ∈ Ls.filter (fun L => (L.filter (eff ops hs)).head? == some j) → lexN P ops C hs (fun a w => Q .normal a w) (L.erase j) a w) a w := by
          rw [hoj] at hpl
          simp only [Bool.or_eq_true, beq_iff_eq] at hpl
          rcases hpl with hpl | hpl
          · exact step_all (S := fun L => L ∈ Ls.filter (fun L => (L.filter (eff ops hs)).head? == some j)) (K := fun L a w => lexN P ops C hs (fun a w => Q .normal a w) (L.erase j) a w) L1 hL1 hC (.inr hpl) hLs1
          · rw [htl, List.length_map] at hpl
            refine step_mono hC (hLs1 L1 hL1) fun a' w' _ _ hK L hLm => ?_
            have : L = L1 := by
              generalize Ls.filter (fun L => (L.filter (eff ops hs)).head? == some j) = F at *
              match F, hpl with
              | [x], _ =>
                rw [List.mem_singleton] at hLm hL1
                rw [hLm, hL1]
            rw [this]
            exact hK
        refine op_of_step hoj hC (step_mono hC hstep fun a' w' hC' _ hK => ih ((Ls.filter (fun L => (L.filter (eff ops hs)).head? == some j)).map fun L => L.erase j) f' _ a' w' hC' ?_ (by simpa using hne1) ?_ ?_ (down_set hD hoj hjr) (by simp [hsz]) ?_)
        · intro L hLm
          obtain ⟨L', hL', rfl⟩ := List.mem_map.1 hLm
          have hm' := (List.mem_filter.1 hL').1
          refine ⟨?_, (hL L' hm').2.rest (hmem L' hm')⟩
          rw [List.length_erase_of_mem (hmem L' hm'), (hL L' hm').1]
          omega
        · rw [List.map_map]
          rw [htl] at hcv
          exact hcv
        · intro L hLm
          obtain ⟨L', hL', rfl⟩ := List.mem_map.1 hLm
          have hm' := (List.mem_filter.1 hL').1
          have h1 := hf L' hm'
          have h2 : ((L'.erase j).filter (eff ops hs)).length + 1 ≤ (L'.filter (eff ops hs)).length := by
            have hj' := hmem L' hm'
            have hh := (List.mem_filter.1 hL').2
            rw [beq_iff_eq] at hh
            cases hE : L'.filter (eff ops hs) with
            | nil => rw [hE] at hh; cases hh
            | cons j' r =>
              rw [hE] at hh
              injection hh with hh
              subst hh
              obtain ⟨pre, post, he, h9, h2⟩ := first_eff hE
              have hnd := (hL L' hm').2.nd
              subst he
              have hnj : j' ∉ pre := by
                have := (List.nodup_append.1 hnd).2.2
                intro hh
                exact this j' hh j' (by simp) rfl
              rw [List.erase_append_right _ hnj, List.erase_cons_head, List.filter_append, h2, List.filter_eq_nil_iff.2 (fun i hi => by rw [h9 i hi]; simp)]
              simp
          omega
        · intro L hLm
          obtain ⟨L', hL', rfl⟩ := List.mem_map.1 hLm
          exact hK L' hL'
      · have hef' : eff ops hs j = false := by simpa using hef
        have hLs1 : ∀ L ∈ Ls, step P ops C hs j oj (lexN P ops C hs (fun a w => Q .normal a w) (L.erase j)) a w := by
          intro L hLm
          have hO := (hL L hLm).2
          obtain ⟨pre, post, rfl⟩ := List.append_of_mem (hmem L hLm)
          have hnj : j ∉ pre := by
            have := (List.nodup_append.1 hO.nd).2.2
            intro hh
            exact this j hh j (by simp) rfl
          rw [List.erase_append_right _ hnj, List.erase_cons_head]
          refine pull hoj hsel post pre a w (fun i hi => ?_) hC (h _ hLm)
          have hr := (List.pairwise_append.1 hO.pw).2.2 i hi j (by simp)
          obtain ⟨hi1, hi2⟩ := (hO.mem i).1 (by simp [hi])
          exact relA_pair hr hD hoj hjr hi2 (by omega) (fun hh => hef hh.2)
        have hk : kind hs j oj ≠ 2 := by
          intro hk
          apply hef
          simp [eff, hoj, hk]
        have hstep := step_all (P := P) (ops := ops) (C := C) (hs := hs) (S := fun L => L ∈ Ls) (K := fun L a w => lexN P ops C hs (fun a w => Q .normal a w) (L.erase j) a w) L0 hL0 hC (.inl hk) hLs1
        refine op_of_step hoj hC (step_mono hC hstep fun a' w' hC' _ hK => ih (Ls.map fun L => L.erase j) f _ a' w' hC' ?_ (by simpa using hne) ?_ ?_ (down_set hD hoj hjr) (by simp [hsz]) ?_)
        · intro L hLm
          obtain ⟨L', hL', rfl⟩ := List.mem_map.1 hLm
          refine ⟨?_, (hL L' hL').2.rest (hmem L' hL')⟩
          rw [List.length_erase_of_mem (hmem L' hL'), (hL L' hL').1]
          omega
        · rw [List.map_map]
          have : (Ls.map ((fun L => List.filter (eff ops hs) L) ∘ fun L => L.erase j)) = Ls.map fun L => L.filter (eff ops hs) := List.map_congr_left fun L _ => erase_filter hef'
          rw [this]
          exact hcov
        · intro L hLm
          obtain ⟨L', hL', rfl⟩ := List.mem_map.1 hLm
          rw [erase_filter hef']
          exact hf L' hL'
        · intro L hLm
          obtain ⟨L', hL', rfl⟩ := List.mem_map.1 hLm
          exact hK L' hL'

/-- the check, by the kernel -/
def ok3 (hs : List Nat) (ops : Array Oper) (ords : List (List Nat)) : Bool :=
  let M := masks ops.toList []
  ((List.range ops.size).all fun j => match ops[j]? with
    | some oj => noSel oj && (oj.after.all fun e => !Region.binds .any e || decide (e.on < j))
    | none => true) &&
  (ords.all fun ord => pw (relA ops hs M) ord && decide (ord.length = ops.size) && ord.all (fun i => decide (i < ops.size)) && pw (fun a b => a != b) ord) && !ords.isEmpty &&
  cov ops M ops.size (ords.map fun L => L.filter (eff ops hs))
end

def numb (l : List Oper) (ord : List Nat) : List (Nat × Oper) := ord.filterMap fun i => (l[i]?).map fun o => (i, o)

/-- THE REGION, in one walk for each order of its effects -/
theorem region3 {P : Program} {C : World → Prop} {hs : List Nat} {id : Nat} {l : List Oper} {Q : Exit → Act → World → Prop} {a : Act} {w : World} (ords : List (List Nat)) (hm : P.follows .mixedOrders = true) (hok : ok3 hs l.toArray ords = true) (hC : C w.drew)
    (h : ∀ m ∈ ords.map (numb l), lexI P l.toArray C hs (fun a w => Q .normal a w) m a w.drew) : (Code.region id l.toArray true).wp P Q a w := by
  refine wp_region_any hm ?_
  simp only [ok3, Bool.and_eq_true] at hok
  obtain ⟨⟨⟨o1, o2⟩, o3⟩, o4⟩ := hok
  have o1' : ∀ (j : Nat) (oj : Oper), l.toArray[j]? = some oj → noSel oj = true ∧ (∀ e ∈ oj.after, Region.binds .any e = true → e.on < j) := by
    intro j oj hj
    have hlt : j < l.toArray.size := (Array.getElem?_eq_some_iff.1 hj).1
    have h1 := List.all_eq_true.1 o1 j (List.mem_range.2 hlt)
    simp only [hj, Bool.and_eq_true] at h1
    refine ⟨h1.1, fun e he hb => ?_⟩
    have := Array.all_eq_true'.1 h1.2 e he
    simpa [hb] using this
  have o2' : ∀ ord ∈ ords, pw (relA l.toArray hs (masks l.toArray.toList [])) ord = true ∧ ord.length = l.length ∧ (∀ i ∈ ord, i < l.length) ∧ ord.Nodup := by
    intro ord ho
    have := List.all_eq_true.1 o2 ord ho
    simp only [Bool.and_eq_true, decide_eq_true_eq] at this
    obtain ⟨⟨⟨h1, h2⟩, h3⟩, h4⟩ := this
    exact ⟨h1, by simpa using h2, fun i hi => by have := List.all_eq_true.1 h3 i hi; simpa using this, (pw_iff h4).imp fun hh => by simpa using hh⟩
  refine any_all (C := C) (hs := hs) (fun j o cs b hj he => ?_) (fun k o hk e he hb => ?_) l.toArray.size ords l.toArray.size (Array.replicate l.toArray.size false) a w.drew hC ?_ (by simpa using o3) o4 ?_ ?_ (by simp) ?_
  · have := (o1' j o hj).1
    simp [noSel, he] at this
  · have h1 := (o1' k o hk).2 e he hb
    have hlt : k < l.toArray.size := (Array.getElem?_eq_some_iff.1 hk).1
    exact ⟨by omega, by omega⟩
  · intro ord ho
    obtain ⟨h1, h2, h3, h4⟩ := o2' ord ho
    refine ⟨by simpa using h2, h4, fun i => ?_, pw_iff h1⟩
    constructor
    · intro hi
      have := h3 i hi
      simp [Array.getD_eq_getD_getElem?, this]
    · rintro ⟨hi, _⟩
      have hi' : i < l.length := by simpa using hi
      rcases Classical.em (i ∈ ord) with hh | hh
      · exact hh
      · exfalso
        have key : ∀ (A B : List Nat), A.Nodup → (∀ z ∈ A, z ∈ B) → A.length ≤ B.length := by
          intro A
          induction A with
          | nil => intro B _ _; simp
          | cons z A ih =>
            intro B hA hAB
            rw [List.nodup_cons] at hA
            have hz : z ∈ B := hAB z (by simp)
            have := ih (B.erase z) hA.2 (fun u hu => (List.mem_erase_of_ne (fun e => by subst e; exact hA.1 hu)).2 (hAB u (by simp [hu])))
            rw [List.length_erase_of_mem hz] at this
            have := List.length_pos_of_mem hz
            rw [List.length_cons]
            omega
        have := key (i :: ord) (List.range l.length) (List.nodup_cons.2 ⟨hh, h4⟩) (fun z hz => by
          rcases List.mem_cons.1 hz with rfl | hz
          · exact List.mem_range.2 hi'
          · exact List.mem_range.2 (h3 z hz))
        rw [List.length_cons, List.length_range] at this
        omega
  · intro ord ho
    have := (o2' ord ho).2.1
    refine Nat.le_trans (List.length_filter_le _ _) ?_
    simp [this]
  · intro j o ho hl
    simp [Array.getD_eq_getD_getElem?, Array.getElem?_replicate] at hl
    split at hl <;> simp at hl
  · intro ord ho
    have h1 := h (numb l ord) (List.mem_map.2 ⟨ord, ho, rfl⟩)
    have hmord : (numb l ord).map _root_.Prod.fst = ord := by
      have h3 := (o2' ord ho).2.2.1
      clear ho h1
      unfold numb
      induction ord with
      | nil => rfl
      | cons i ord ih =>
        have hi : l[i]? = some (l[i]'(h3 i (by simp))) := List.getElem?_eq_getElem _
        rw [List.filterMap_cons, hi]
        simp only [Option.map_some, List.map_cons]
        rw [ih (fun k hk => h3 k (by simp [hk]))]
    rw [lexN_of_lexI (numb l ord) ?_, hmord] at h1
    · exact h1
    · intro p hp
      unfold numb at hp
      obtain ⟨i, hi, he⟩ := List.mem_filterMap.1 hp
      cases hl : l[i]? with
      | none => rw [hl] at he; cases he
      | some o => rw [hl] at he; injection he with he; subst he; simpa using hl

section
variable {P : Program} {ops : Array Oper} {C : World → Prop} {hs : List Nat} {Q : Act → World → Prop} {k : Nat} {o : Oper} {r : List (Nat × Oper)} {a : Act} {w : World}
theorem lexI_no (hw : Region.wanted o (yielded ops a.tmps) = false) (h : ∀ K : Act → Prop, (∀ a', lexI P ops C hs Q r a' w → K a') → K (a.put o.dst undef)) : lexI P ops C hs Q ((k, o) :: r) a w := by
  unfold lexI
  simp only [step, hw, Bool.false_eq_true, if_false]
  exact h _ fun _ h => h
end
end Lx
end Go.Proofs.YtpdhelhngdeoeaaDoor
