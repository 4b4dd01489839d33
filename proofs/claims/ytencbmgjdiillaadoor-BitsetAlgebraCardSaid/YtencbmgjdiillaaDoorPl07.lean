/- Plain laws: the reference's lists of members and the program's sets. Nothing of the program's text is walked here. -/
import Derived.Test.YtencbmgjdiillaaDoorKn07
namespace Go.Proofs.YtencbmgjdiillaaDoor

theorem ofGo_tb : ∀ (l : List Int) (acc S : Nat), ofGo acc l = some S → ∀ i : Nat, S.testBit i = (acc.testBit i || inF l (i : Int)) := by
  intro l
  induction l with
  | nil => intro acc S h i; rw [ofGo] at h; cases h; simp [inF]
  | cons x r ih =>
    intro acc S h i
    rw [ofGo] at h
    split at h
    · rename_i hx
      rw [ih _ _ h, Nat.testBit_or, bit_tb, inF_cons]
      by_cases e : x = (i : Int)
      · subst e; simp
      · have : ¬ x.toNat = i := by omega
        simp [e, this]
    · cases h
theorem ofGo_fit : ∀ (l : List Int) (acc S : Nat), Fit acc → ofGo acc l = some S → Fit S := by
  intro l
  induction l with
  | nil => intro acc S hf h; rw [ofGo] at h; cases h; exact hf
  | cons x r ih =>
    intro acc S hf h
    rw [ofGo] at h
    split at h
    · rename_i hx
      exact ih _ _ (orbit_lt hf (by omega)) h
    · cases h
theorem ofGo_some : ∀ (l : List Int) (acc : Nat), allowF l = true → ∃ S, ofGo acc l = some S := by
  intro l
  induction l with
  | nil => intro acc _; exact ⟨acc, rfl⟩
  | cons x r ih =>
    intro acc h
    rw [allowF] at h
    split at h
    · cases h
    · rw [ofGo, if_pos (by omega)]
      exact ih _ h
theorem ofGo_none : ∀ (l : List Int) (acc : Nat), allowF l = false → ofGo acc l = none := by
  intro l
  induction l with
  | nil => intro acc h; cases h
  | cons x r ih =>
    intro acc h
    rw [allowF] at h
    rw [ofGo]
    split at h
    · rw [if_neg (by omega)]
    · rw [if_pos (by omega)]
      exact ih _ h

theorem ofK_mem {l : List Int} {S : Nat} (h : ∀ i : Nat, i < 512 → inF l (i : Int) = S.testBit i) : ofK l 512 = memI S := by
  have : ((List.range 512).filter fun i : Nat => inF l (i : Int)) = (List.range 512).filter fun i => S.testBit i := List.filter_congr (fun i hi => h i (List.mem_range.1 hi))
  unfold ofK memI mem
  rw [this]
/-- the set of allowed numbers -/
theorem of_good {l : List Int} (h : allowF l = true) : ∃ S, ofF l = (S, 0) ∧ Fit S ∧ ofK l 512 = memI S ∧ ∀ i : Nat, S.testBit i = inF l (i : Int) := by
  obtain ⟨S, hS⟩ := ofGo_some l 0 h
  have ht := ofGo_tb l 0 S hS
  refine ⟨S, by unfold ofF; rw [hS], ofGo_fit l 0 S fit_zero hS, ofK_mem (fun i _ => ?_), fun i => ?_⟩
  · rw [ht i]; simp
  · rw [ht i]; simp
theorem of_bad {l : List Int} (h : allowF l = false) : ofF l = (0, 2) := by unfold ofF; rw [ofGo_none l 0 h]

theorem inF_memI {S : Nat} (hS : Fit S) (x : Int) : inF (memI S) x = hasS S x := by
  rw [Bool.eq_iff_iff, inF_iff]
  unfold memI hasS
  rw [List.mem_map]
  simp only [Bool.and_eq_true, decide_eq_true_eq]
  constructor
  · rintro ⟨m, hm, rfl⟩
    have := mem_lt hm
    exact ⟨by omega, by simpa using mem_tb hm⟩
  · rintro ⟨h1, h2⟩
    exact ⟨x.toNat, (mem_iff hS).2 h2, by omega⟩
theorem nextR_map (x : Int) : ∀ l : List Nat, nextR x (l.map fun m : Nat => (m : Int)) = match l.find? (fun m : Nat => decide (x ≤ (m : Int))) with | some m => (m : Int) | none => -1 := by
  intro l
  induction l with
  | nil => rfl
  | cons y r ih =>
    rw [List.map_cons, nextR, List.find?_cons]
    by_cases h : x ≤ (y : Int)
    · simp [h]
    · simp only [h, if_false, decide_false]
      exact ih
theorem nextR_memI (S : Nat) (x : Int) : nextR x (memI S) = nextF S x := by
  unfold memI nextF
  rw [nextR_map]
  cases (mem S).find? _ <;> rfl

theorem union_law {S T : Nat} (hS : Fit S) (hT : Fit T) : ofK (memI S ++ memI T) 512 = memI (S ||| T) := by
  apply ofK_mem
  intro i hi
  have h1 : ∀ a b : List Int, inF (a ++ b) (i : Int) = (inF a (i : Int) || inF b (i : Int)) := fun a b => by unfold inF; rw [List.any_append]
  rw [h1, inF_memI hS, inF_memI hT, Nat.testBit_or]
  unfold hasS
  simp [show (i : Int) < 512 by omega]
theorem orbit_law {S i : Nat} (hS : Fit S) : ofK (memI S ++ [(i : Int)]) 512 = memI (S ||| 2 ^ i) := by
  apply ofK_mem
  intro j hj
  have h1 : inF (memI S ++ [(i : Int)]) (j : Int) = (inF (memI S) (j : Int) || decide (i = j)) := by
    have e : decide ((i : Int) = (j : Int)) = decide (i = j) := by rw [decide_eq_decide]; omega
    unfold inF; rw [List.any_append]; simp [e]
  rw [h1, inF_memI hS, Nat.testBit_or, bit_tb]
  unfold hasS
  simp [show (j : Int) < 512 by omega]
theorem part_law {S U : Nat} {b : List Int} {both : Bool} (h : ∀ i : Nat, i < 512 → U.testBit i = (S.testBit i && (inF b (i : Int) == both))) : partF b both (memI S) = memI U := by
  have : ((List.range 512).filter fun i : Nat => ((fun x => inF b x == both) ∘ fun m : Nat => (m : Int)) i && S.testBit i) = (List.range 512).filter fun i => U.testBit i := List.filter_congr (fun i hi => by
    rw [h i (List.mem_range.1 hi), Bool.and_comm]; rfl)
  unfold partF memI mem
  rw [List.filter_map, List.filter_filter, this]
theorem inter_law {S T : Nat} (hT : Fit T) : partF (memI T) true (memI S) = memI (S &&& T) := by
  apply part_law
  intro i hi
  rw [inF_memI hT, Nat.testBit_and]
  unfold hasS
  rw [Int.toNat_natCast]
  cases T.testBit i <;> simp [show (i : Int) < 512 by omega]
theorem minus_law {S T : Nat} (hT : Fit T) : partF (memI T) false (memI S) = memI (mi S T) := by
  apply part_law
  intro i hi
  rw [inF_memI hT, mi_tb]
  unfold hasS
  rw [Int.toNat_natCast]
  have h5 : (i : Int) < 512 := by omega
  cases S.testBit i <;> cases T.testBit i <;> simp [h5]
theorem mibit_law {S i : Nat} : partF [(i : Int)] false (memI S) = memI (mi S (2 ^ i)) := by
  apply part_law
  intro j hj
  rw [mi_tb, bit_tb]
  have : inF [(i : Int)] (j : Int) = decide (i = j) := by
    have e : decide ((i : Int) = (j : Int)) = decide (i = j) := by rw [decide_eq_decide]; omega
    unfold inF; simp [e]
  rw [this]
  cases decide (i = j) <;> simp
theorem memI_len (S : Nat) : (memI S).length = (mem S).length := by unfold memI; rw [List.length_map]
theorem mem_zero : mem 0 = [] := by
  unfold mem
  simp
theorem mem_nil {S : Nat} (hS : Fit S) : (mem S).length = 0 ↔ S = 0 := by
  constructor
  · intro h
    have h1 : mem S = [] := List.eq_nil_of_length_eq_zero h
    exact mem_inj hS fit_zero (by rw [h1, mem_zero])
  · rintro rfl; rw [mem_zero]; rfl

/-! ### The laws of sets -/
theorem ext_tb {S T : Nat} (h : ∀ i, S.testBit i = T.testBit i) : S = T := Nat.eq_of_testBit_eq h
theorem al_assoc (r s t : Nat) : (r ||| s) ||| t = r ||| (s ||| t) := ext_tb fun i => by simp [Nat.testBit_or, Bool.or_assoc]
theorem al_assoc2 (r s t : Nat) : (r &&& s) &&& t = r &&& (s &&& t) := ext_tb fun i => by simp [Nat.testBit_and, Bool.and_assoc]
theorem al_dist (r s t : Nat) : r &&& (s ||| t) = (r &&& s) ||| (r &&& t) := ext_tb fun i => by simp only [Nat.testBit_and, Nat.testBit_or]; cases r.testBit i <;> simp
theorem al_dist2 (r s t : Nat) : r ||| (s &&& t) = (r ||| s) &&& (r ||| t) := ext_tb fun i => by simp only [Nat.testBit_and, Nat.testBit_or]; cases r.testBit i <;> simp
theorem al_split (r s : Nat) : mi r s ||| (r &&& s) = r := ext_tb fun i => by rw [Nat.testBit_or, mi_tb, Nat.testBit_and]; cases r.testBit i <;> cases s.testBit i <;> rfl
theorem al_apart (r s : Nat) : mi r s &&& s = 0 := ext_tb fun i => by rw [Nat.testBit_and, mi_tb, Nat.zero_testBit]; cases r.testBit i <;> cases s.testBit i <;> rfl
theorem al_subset (r s : Nat) : decide (mi r s = 0) = decide (r ||| s = s) := by
  apply decide_eq_decide.2
  constructor
  · intro h
    refine ext_tb fun i => ?_
    have := congrArg (·.testBit i) h
    simp only [mi_tb, Nat.zero_testBit] at this
    rw [Nat.testBit_or]
    cases hr : r.testBit i <;> cases hs : s.testBit i <;> simp_all
  · intro h
    refine ext_tb fun i => ?_
    have := congrArg (·.testBit i) h
    simp only [Nat.testBit_or] at this
    rw [mi_tb, Nat.zero_testBit]
    cases hr : r.testBit i <;> cases hs : s.testBit i <;> simp_all
theorem al_len (r s : Nat) : (mem (mi r s)).length + (mem (r &&& s)).length = (mem r).length := by
  have key : ∀ l : List Nat, (l.filter fun i => (mi r s).testBit i).length + (l.filter fun i => (r &&& s).testBit i).length = (l.filter fun i => r.testBit i).length := by
    intro l
    induction l with
    | nil => rfl
    | cons x l ih =>
      simp only [List.filter_cons, mi_tb, Nat.testBit_and] at *
      cases r.testBit x <;> cases s.testBit x <;> simp <;> omega
  unfold mem
  exact key _
end Go.Proofs.YtencbmgjdiillaaDoor
