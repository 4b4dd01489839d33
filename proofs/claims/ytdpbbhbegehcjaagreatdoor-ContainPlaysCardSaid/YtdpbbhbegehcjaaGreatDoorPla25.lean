/- The reference of layer 18: within, Only, byPair, sum, over, byLoad, Removes. -/
import Derived.Test.YtdpbbhbegehcjaaGreatDoorPla13
import Derived.Test.YtdpbbhbegehcjaaGreatDoorPla14
import Derived.Test.YtdpbbhbegehcjaaGreatDoorPla15
import Derived.Test.YtdpbbhbegehcjaaGreatDoorPla18
import Derived.Test.YtdpbbhbegehcjaaGreatDoorPla24
set_option maxRecDepth 100000
namespace Go.Proofs.YtdpbbhbegehcjaaGreatDoor
open Go.RowKit
namespace Lx
inductive Tr where
 | done
 | op (i : Nat) (t : Tr)
 | alt (t u : Tr)
def paths : Tr → List (List Nat)
 | .done => [[]]
 | .op i t => (paths t).map (i :: ·)
 | .alt t u => paths t ++ paths u
def rem (j : Nat) : Tr → Tr
 | .done => .done
 | .op i t => if i = j then t else .op i (rem j t)
 | .alt t u => .alt (rem j t) (rem j u)
def pick (p : Nat → Bool) (j : Nat) : Tr → Option Tr
 | .done => none
 | .op i t => if i = j then some t else if p i then none else (pick p j t).map (.op i)
 | .alt t u => match pick p j t with | some x => some x | none => pick p j u
theorem paths_ne : ∀ T : Tr, paths T ≠ [] := by
 intro T
 induction T with
 | done => simp [paths]
 | op i t ih => simpa [paths] using ih
 | alt t u ih _ => simp [paths, ih]
theorem append_first {j : Nat} : ∀ {L : List Nat}, j ∈ L → ∃ pre post, L = pre ++ j :: post ∧ j ∉ pre := by
 intro L
 induction L with
 | nil => intro h; cases h
 | cons i L ih =>
  intro h
  by_cases e : i = j
  ·subst e; exact ⟨[], L, rfl, by simp⟩
  ·rcases List.mem_cons.1 h with h | h
   ·exact absurd h.symm e
   ·obtain ⟨pre, post, rfl, hn⟩ := ih h
    exact ⟨i :: pre, post, rfl, by simp [hn, Ne.symm e]⟩
theorem perm_mem {L : List Nat} {n : Nat} (hd : L.Nodup) (hl : L.length = n) (hb : ∀ i ∈ L, i < n) {i : Nat} (hi : i < n) : i ∈ L := by
 rcases Classical.em (i ∈ L) with hh | hh
 ·exact hh
 ·exfalso
  have h1 : (i :: L).Nodup := List.nodup_cons.2 ⟨hh, hd⟩
  have h2 : ∀ z ∈ i :: L, z ∈ List.range n := by
   intro z hz
   rcases List.mem_cons.1 hz with rfl | hz
   ·exact List.mem_range.2 hi
   ·exact List.mem_range.2 (hb z hz)
  have key : ∀ (A B : List Nat), A.Nodup → (∀ z ∈ A, z ∈ B) → A.length ≤ B.length := by
   intro A
   induction A with
   | nil => intro B _ _; simp
   | cons x A ih =>
    intro B hA hs
    obtain ⟨hx, hA'⟩ := List.nodup_cons.1 hA
    have hxB := hs x (by simp)
    have h3 := ih (B.erase x) hA' (fun z hz => (List.mem_erase_of_ne (by rintro rfl; exact hx hz)).2 (hs z (by simp [hz])))
    rw [List.length_erase_of_mem hxB] at h3
    have := List.length_pos_of_mem hxB
    simp only [List.length_cons]
    omega
  have h4 := key _ _ h1 h2
  simp at h4
  omega
theorem mem_rem {j : Nat} : ∀ {T : Tr} {L' : List Nat}, (∀ L ∈ paths T, j ∈ L) → L' ∈ paths (rem j T) → ∃ L ∈ paths T, L' = L.erase j := by
 intro T
 induction T with
 | done => intro L' h _; exact absurd (h [] (by simp [paths])) (by simp)
 | op i t ih =>
  intro L' h hL'
  by_cases e : i = j
  ·subst e
   rw [rem, if_pos rfl] at hL'
   exact ⟨i :: L', by simp [paths, hL'], by simp⟩
  ·rw [rem, if_neg e, paths] at hL'
   obtain ⟨L1, hL1, rfl⟩ := List.mem_map.1 hL'
   obtain ⟨L2, hL2, rfl⟩ := ih (fun L hL => by
    have := h (i :: L) (by simp [paths, hL])
    rcases List.mem_cons.1 this with h | h
    ·exact absurd h.symm e
    ·exact h) hL1
   exact ⟨i :: L2, by simp [paths, hL2], by rw [List.erase_cons_tail (by simpa using e)]⟩
 | alt t u iht ihu =>
  intro L' h hL'
  rw [rem, paths] at hL'
  rcases List.mem_append.1 hL' with h1 | h1
  ·obtain ⟨L, hL, e⟩ := iht (fun L hL => h L (by simp [paths, hL])) h1
   exact ⟨L, by simp [paths, hL], e⟩
  ·obtain ⟨L, hL, e⟩ := ihu (fun L hL => h L (by simp [paths, hL])) h1
   exact ⟨L, by simp [paths, hL], e⟩
theorem first_rem {p : Nat → Bool} {j : Nat} (hp : p j = false) : ∀ T : Tr, ((paths (rem j T)).head?).map (·.filter p) = ((paths T).head?).map (·.filter p) := by
 intro T
 induction T with
 | done => rfl
 | op i t ih =>
  by_cases e : i = j
  ·subst e
   rw [rem, if_pos rfl, paths]
   cases hh : paths t with
   | nil => rfl
   | cons L r => simp [hp]
  ·rw [rem, if_neg e, paths, paths]
   cases h1 : paths (rem j t) with
   | nil => exact absurd h1 (paths_ne _)
   | cons L r =>
    cases h2 : paths t with
    | nil => exact absurd h2 (paths_ne _)
    | cons L2 r2 =>
     rw [h1, h2] at ih
     have ih' : L.filter p = L2.filter p := by simpa using ih
     simp [List.filter_cons, ih']
 | alt t u iht _ =>
  rw [rem, paths, paths]
  cases h1 : paths (rem j t) with
  | nil => exact absurd h1 (paths_ne _)
  | cons L r =>
   cases h2 : paths t with
   | nil => exact absurd h2 (paths_ne _)
   | cons L2 r2 =>
    rw [h1, h2] at iht
    simpa using iht
theorem pick_rem {p : Nat → Bool} {j k : Nat} (hp : p j = false) (hk : p k = true) : ∀ T : Tr, pick p k (rem j T) = (pick p k T).map (rem j) := by
 have hjk : j ≠ k := by rintro rfl; rw [hp] at hk; cases hk
 intro T
 induction T with
 | done => rfl
 | op i t ih =>
  by_cases e : i = j
  ·subst e
   rw [rem, if_pos rfl, pick, if_neg hjk, if_neg (by rw [hp]; simp), Option.map_map]
   cases pick p k t with
   | none => rfl
   | some x => simp [rem]
  ·rw [rem, if_neg e, pick, pick]
   by_cases e2 : i = k
   ·rw [if_pos e2, if_pos e2]; rfl
   ·rw [if_neg e2, if_neg e2]
    by_cases e3 : p i = true
    ·rw [if_pos e3, if_pos e3]; rfl
    ·rw [if_neg e3, if_neg e3, ih, Option.map_map, Option.map_map]
     cases pick p k t with
     | none => rfl
     | some x => simp [rem, e]
 | alt t u iht ihu =>
  rw [rem, pick, pick, iht, ihu]
  cases pick p k t with
  | none => rfl
  | some x => rfl
theorem mem_pick {p : Nat → Bool} {j : Nat} : ∀ {T T' : Tr} {L' : List Nat}, pick p j T = some T' → L' ∈ paths T' → ∃ pre post, pre ++ j :: post ∈ paths T ∧ (∀ i ∈ pre, p i = false ∧ i ≠ j) ∧ L' = pre ++ post := by
 intro T
 induction T with
 | done => intro T' L' h; cases h
 | op i t ih =>
  intro T' L' h hL'
  rw [pick] at h
  by_cases e : i = j
  ·subst e
   rw [if_pos rfl] at h
   injection h with h
   subst h
   exact ⟨[], L', by simp [paths, hL'], (fun _ h => by cases h), rfl⟩
  ·rw [if_neg e] at h
   by_cases e2 : p i = true
   ·rw [if_pos e2] at h; cases h
   ·rw [if_neg e2] at h
    cases hp : pick p j t with
    | none => rw [hp] at h; cases h
    | some x =>
     rw [hp] at h
     injection h with h
     subst h
     rw [paths] at hL'
     obtain ⟨L1, hL1, rfl⟩ := List.mem_map.1 hL'
     obtain ⟨pre, post, h1, h2, rfl⟩ := ih hp hL1
     refine ⟨i :: pre, post, by simp [paths, h1], fun k hk => ?_, rfl⟩
     rcases List.mem_cons.1 hk with rfl | hk
     ·exact ⟨by simpa using e2, e⟩
     ·exact h2 k hk
 | alt t u iht ihu =>
  intro T' L' h hL'
  rw [pick] at h
  cases hp : pick p j t with
  | some x =>
   rw [hp] at h
   injection h with h
   subst h
   obtain ⟨pre, post, h1, h2, h3⟩ := iht hp hL'
   exact ⟨pre, post, by simp [paths, h1], h2, h3⟩
  | none =>
   rw [hp] at h
   obtain ⟨pre, post, h1, h2, h3⟩ := ihu h hL'
   exact ⟨pre, post, by simp [paths, h1], h2, h3⟩
section
variable {P : Program} {ops : Array Oper} {C : World → Prop} {hs : List Nat}
def lexA (P : Program) (ops : Array Oper) (C : World → Prop) (hs : List Nat) (Q : Act → World → Prop) : Tr → Act → World → Prop
 | .done, a, w => Q a w
 | .op i t, a, w => match ops[i]? with
  | some o => step P ops C hs i o (lexA P ops C hs Q t) a w
  | none => lexA P ops C hs Q t a w
 | .alt t u, a, w => lexA P ops C hs Q t a w ∧ lexA P ops C hs Q u a w
theorem pullP {Q : Act → World → Prop} {j : Nat} {oj : Oper} (hj : ops[j]? = some oj) (hsel : ∀ (j : Nat) (o : Oper) cs b, ops[j]? = some o → o.op ≠ .select cs b) (hk : kind hs j oj ≠ 2) :
  ∀ (T : Tr) (a : Act) (w : World), (∀ L ∈ paths T, j ∈ L) → (∀ pre post, pre ++ j :: post ∈ paths T → j ∉ pre → ∀ i ∈ pre, pair ops hs i j = true) → C w → lexA P ops C hs Q T a w → step P ops C hs j oj (lexA P ops C hs Q (rem j T)) a w := by
 intro T
 induction T with
 | done => intro a w h; exact absurd (h [] (by simp [paths])) (by simp)
 | op i t ih =>
  intro a w hm hp hC h
  by_cases e : i = j
  ·subst e
   rw [rem, if_pos rfl]
   simpa only [lexA, hj] using h
  ·have hm' : ∀ L ∈ paths t, j ∈ L := fun L hL => by
    rcases List.mem_cons.1 (hm (i :: L) (by simp [paths, hL])) with h | h
    ·exact absurd h.symm e
    ·exact h
   have hp' : ∀ pre post, pre ++ j :: post ∈ paths t → j ∉ pre → ∀ k ∈ pre, pair ops hs k j = true := fun pre post hL hn k hk => hp (i :: pre) post (by simp [paths, hL]) (by simp [hn, Ne.symm e]) k (by simp [hk])
   have hpi : pair ops hs i j = true := by
    obtain ⟨L, hL⟩ := List.exists_mem_of_ne_nil _ (paths_ne t)
    obtain ⟨pre, post, rfl, hn⟩ := append_first (hm' L hL)
    exact hp (i :: pre) post (by simp [paths, hL]) (by simp [hn, Ne.symm e]) i (by simp)
   rw [rem, if_neg e]
   cases hi : ops[i]? with
   | none =>
    simp only [lexA, hi] at h
    exact step_mono hC (ih a w hm' hp' hC h) fun a' w' _ _ hK => by simpa only [lexA, hi] using hK
   | some oi =>
    simp only [lexA, hi] at h
    have h1 : step P ops C hs i oi (step P ops C hs j oj (lexA P ops C hs Q (rem j t))) a w := step_mono hC h fun a' w' hC' _ hK => ih a' w' hm' hp' hC' hK
    simp only [pair, hi, hj, Bool.and_eq_true, Bool.or_eq_true, beq_iff_eq] at hpi
    have h2 := swap (hsel i oi · · hi) (hsel j oj · · hj) hpi.1 (by omega) hC h1
    exact step_mono hC h2 fun a' w' _ _ hK => by simpa only [lexA, hi] using hK
 | alt t u iht ihu =>
  intro a w hm hp hC h
  simp only [lexA] at h
  have h1 := iht a w (fun L hL => hm L (by simp [paths, hL])) (fun pre post hL => hp pre post (by simp [paths, hL])) hC h.1
  have h2 := ihu a w (fun L hL => hm L (by simp [paths, hL])) (fun pre post hL => hp pre post (by simp [paths, hL])) hC h.2
  have h3 := step_all (P := P) (ops := ops) (C := C) (hs := hs) (S := fun _ : Bool => True) (K := fun b a w => if b then lexA P ops C hs Q (rem j t) a w else lexA P ops C hs Q (rem j u) a w) true trivial hC (.inl hk) (fun b _ => by
   cases b with
   | true => simpa using h1
   | false => simpa using h2)
  refine step_mono hC h3 fun a' w' _ _ hK => ?_
  rw [rem]
  simp only [lexA]
  exact ⟨by simpa using hK true trivial, by simpa using hK false trivial⟩
theorem pullE {Q : Act → World → Prop} {p : Nat → Bool} {j : Nat} {oj : Oper} (hj : ops[j]? = some oj) (hsel : ∀ (j : Nat) (o : Oper) cs b, ops[j]? = some o → o.op ≠ .select cs b) :
  ∀ (T T' : Tr) (a : Act) (w : World), pick p j T = some T' → (∀ pre post, pre ++ j :: post ∈ paths T → (∀ i ∈ pre, p i = false ∧ i ≠ j) → ∀ i ∈ pre, pair ops hs i j = true) → C w → lexA P ops C hs Q T a w → step P ops C hs j oj (lexA P ops C hs Q T') a w := by
 intro T
 induction T with
 | done => intro T' a w h; cases h
 | op i t ih =>
  intro T' a w hpk hp hC h
  have hpk0 := hpk
  rw [pick] at hpk
  by_cases e : i = j
  ·subst e
   rw [if_pos rfl] at hpk
   injection hpk with hpk
   subst hpk
   simpa only [lexA, hj] using h
  ·rw [if_neg e] at hpk
   by_cases e2 : p i = true
   ·rw [if_pos e2] at hpk; cases hpk
   ·rw [if_neg e2] at hpk
    cases hx : pick p j t with
    | none => rw [hx] at hpk; cases hpk
    | some x =>
     rw [hx] at hpk
     injection hpk with hpk
     subst hpk
     have hp' : ∀ pre post, pre ++ j :: post ∈ paths t → (∀ k ∈ pre, p k = false ∧ k ≠ j) → ∀ k ∈ pre, pair ops hs k j = true := fun pre post hL hn k hk => hp (i :: pre) post (by simp [paths, hL]) (fun m hm => by
      rcases List.mem_cons.1 hm with rfl | hm
      ·exact ⟨by simpa using e2, e⟩
      ·exact hn m hm) k (by simp [hk])
     have hpi : pair ops hs i j = true := by
      obtain ⟨L, hL⟩ := List.exists_mem_of_ne_nil _ (paths_ne x)
      obtain ⟨pre, post, h1, h2, _⟩ := mem_pick hx hL
      refine hp (i :: pre) post (by simp [paths, h1]) (fun m hm => ?_) i (by simp)
      rcases List.mem_cons.1 hm with rfl | hm
      ·exact ⟨by simpa using e2, e⟩
      ·exact h2 m hm
     cases hi : ops[i]? with
     | none =>
      simp only [lexA, hi] at h
      exact step_mono hC (ih x a w hx hp' hC h) fun a' w' _ _ hK => by simpa only [lexA, hi] using hK
     | some oi =>
      simp only [lexA, hi] at h
      have h1 : step P ops C hs i oi (step P ops C hs j oj (lexA P ops C hs Q x)) a w := step_mono hC h fun a' w' hC' _ hK => ih x a' w' hx hp' hC' hK
      simp only [pair, hi, hj, Bool.and_eq_true, Bool.or_eq_true, beq_iff_eq] at hpi
      have h2 := swap (hsel i oi · · hi) (hsel j oj · · hj) hpi.1 (by omega) hC h1
      exact step_mono hC h2 fun a' w' _ _ hK => by simpa only [lexA, hi] using hK
 | alt t u iht ihu =>
  intro T' a w hpk hp hC h
  simp only [lexA] at h
  rw [pick] at hpk
  cases hx : pick p j t with
  | some x =>
   rw [hx] at hpk
   injection hpk with hpk
   subst hpk
   exact iht x a w hx (fun pre post hL => hp pre post (by simp [paths, hL])) hC h.1
  | none =>
   rw [hx] at hpk
   exact ihu T' a w hpk (fun pre post hL => hp pre post (by simp [paths, hL])) hC h.2
def covA (p : Nat → Bool) (M : List Nat) : Nat → Tr → Bool
 | 0, _ => true
 | f + 1, T => match (paths T).head? with
  | none => false
  | some L => (L.filter p).all fun j => ((L.filter p).any fun i => (M.getD j 0).testBit i) || (match pick p j T with | some T' => covA p M f T' | none => false)
theorem covA_rem {p : Nat → Bool} {M : List Nat} {j : Nat} (hp : p j = false) : ∀ (f : Nat) (T : Tr), covA p M f (rem j T) = covA p M f T := by
 intro f
 induction f with
 | zero => intro T; rfl
 | succ f ih =>
  intro T
  have h1 := first_rem hp T
  unfold covA
  cases h2 : (paths (rem j T)).head? with
  | none => exact absurd (List.head?_eq_none_iff.1 h2) (paths_ne _)
  | some L =>
   cases h3 : (paths T).head? with
   | none => exact absurd (List.head?_eq_none_iff.1 h3) (paths_ne _)
   | some L2 =>
    rw [h2, h3] at h1
    have h4 : L.filter p = L2.filter p := by simpa using h1
    dsimp only
    rw [h4]
    have key : ∀ k ∈ L2.filter p, (((L2.filter p).any fun i => (M.getD k 0).testBit i) || (match pick p k (rem j T) with | some T' => covA p M f T' | none => false)) = (((L2.filter p).any fun i => (M.getD k 0).testBit i) || (match pick p k T with | some T' => covA p M f T' | none => false)) := by
     intro k hk
     rw [pick_rem hp (List.mem_filter.1 hk).2]
     cases pick p k T with
     | none => rfl
     | some x => simp only [Option.map_some]; rw [ih x]
    rw [Bool.eq_iff_iff, List.all_eq_true, List.all_eq_true]
    exact ⟨fun h k hk => by rw [← key k hk]; exact h k hk, fun h k hk => by rw [key k hk]; exact h k hk⟩
theorem anyA {Q : Exit → Act → World → Prop} (hsel : ∀ (j : Nat) (o : Oper) cs b, ops[j]? = some o → o.op ≠ .select cs b) (hself : ∀ (k : Nat) (o : Oper), ops[k]? = some o → ∀ e ∈ o.after, Region.binds .any e = true → e.on ≠ k ∧ e.on < ops.size) :
  ∀ (fuel : Nat) (T : Tr) (f : Nat) (listed : Array Bool) (a : Act) (w : World), C w → (∀ L ∈ paths T, L.length = fuel ∧ Ord ops hs listed L) → covA (eff ops hs) (masks ops.toList []) f T = true → (∀ L ∈ paths T, (L.filter (eff ops hs)).length ≤ f) →
  Down ops listed → listed.size = ops.size → lexA P ops C hs (fun a w => Q .normal a w) T a w → wpAny P .any ops Q fuel listed a w := by
 intro fuel
 induction fuel with
 | zero =>
  intro T f listed a w hC hL _ _ hD hsz h
  have hdone : ∀ T : Tr, (∀ L ∈ paths T, L.length = 0) → ∀ a w, lexA P ops C hs (fun a w => Q .normal a w) T a w → Q .normal a w := by
   intro T
   induction T with
   | done => intro _ a w h; exact h
   | op i t _ =>
    intro h0 a w _
    obtain ⟨L, hL⟩ := List.exists_mem_of_ne_nil _ (paths_ne t)
    have := h0 (i :: L) (by simp [paths, hL])
    simp at this
   | alt t u iht _ => intro h0 a w h; exact iht (fun L hL => h0 L (by simp [paths, hL])) a w h.1
  refine ⟨?_, hdone T (fun L hLm => (hL L hLm).1) a w h⟩
  obtain ⟨L, hLm⟩ := List.exists_mem_of_ne_nil _ (paths_ne T)
  obtain ⟨hl, hO⟩ := hL L hLm
  have hnil : L = [] := List.eq_nil_of_length_eq_zero hl
  subst hnil
  cases hr : Region.ready .any ops listed with
  | nil => rfl
  | cons z zs =>
   have hx : z ∈ Region.ready .any ops listed := by rw [hr]; simp
   obtain ⟨h1, o, ho, _⟩ := mem_ready.1 hx
   have : z ∈ ([] : List Nat) := (hO.mem z).2 ⟨(Array.getElem?_eq_some_iff.1 ho).1, h1⟩
   cases this
 | succ fuel ih =>
  intro T f listed a w hC hL hcov hf hD hsz h
  refine ⟨fun hr => ?_, fun j hj => ?_⟩
  ·exfalso
   obtain ⟨L0, hL0⟩ := List.exists_mem_of_ne_nil _ (paths_ne T)
   obtain ⟨hl, hO⟩ := hL L0 hL0
   cases L0 with
   | nil => simp at hl
   | cons i L =>
    have hri := head_readyA hsz hO.mem hself hO.pw
    rw [hr] at hri
    cases hri
  ·obtain ⟨hj1, oj, hoj, hjr⟩ := mem_ready.1 hj
   have hjlt : j < ops.size := (Array.getElem?_eq_some_iff.1 hoj).1
   have hmem : ∀ L ∈ paths T, j ∈ L := fun L hLm => ((hL L hLm).2.mem j).2 ⟨hjlt, hj1⟩
   have hpr : ∀ pre post, pre ++ j :: post ∈ paths T → ∀ i ∈ pre, ¬ (eff ops hs i = true ∧ eff ops hs j = true) → pair ops hs i j = true := by
    intro pre post hLm i hi hne
    have hO := (hL _ hLm).2
    have hr := (List.pairwise_append.1 hO.pw).2.2 i hi j (by simp)
    obtain ⟨hi1, hi2⟩ := (hO.mem i).1 (by simp [hi])
    exact relA_pair hr hD hoj hjr hi2 (by omega) hne
   by_cases hef : eff ops hs j = true
   ·obtain ⟨L1, hh1⟩ : ∃ L1, (paths T).head? = some L1 := by
     cases hh : (paths T).head? with
     | none => exact absurd (List.head?_eq_none_iff.1 hh) (paths_ne T)
     | some L1 => exact ⟨L1, rfl⟩
    have hL1 : L1 ∈ paths T := List.mem_of_mem_head? (by rw [hh1]; rfl)
    have hE1 : j ∈ L1.filter (eff ops hs) := List.mem_filter.2 ⟨hmem L1 hL1, hef⟩
    have hfpos : f ≠ 0 := by
     intro e
     have h1 := hf L1 hL1
     rw [e] at h1
     have := List.length_pos_of_mem hE1
     omega
    obtain ⟨f', rfl⟩ := Nat.exists_eq_succ_of_ne_zero hfpos
    have hnb : ∀ i, listed.getD i true = false → i < ops.size → ((masks ops.toList []).getD j 0).testBit i = false := by
     intro i hi hlt
     cases hb : ((masks ops.toList []).getD j 0).testBit i with
     | false => rfl
     | true =>
      have hl := masks_sound hD (j + 1) j oj (by omega) hoj hjr i hb
      have hb2 : i < listed.size := by omega
      simp only [Array.getD_eq_getD_getElem?, Array.getElem?_eq_getElem hb2, Option.getD_some] at hl hi
      rw [hl] at hi
      cases hi
    obtain ⟨T', hT', hcv⟩ : ∃ T', pick (eff ops hs) j T = some T' ∧ covA (eff ops hs) (masks ops.toList []) f' T' = true := by
     rw [covA, hh1] at hcov
     have hc := List.all_eq_true.1 hcov j hE1
     rw [Bool.or_eq_true] at hc
     rcases hc with hc | hc
     ·exfalso
      obtain ⟨i, hi, hb⟩ := List.any_eq_true.1 hc
      obtain ⟨q1, q2⟩ := ((hL L1 hL1).2.mem i).1 (List.mem_filter.1 hi).1
      rw [hnb i q2 q1] at hb
      cases hb
     ·cases hp : pick (eff ops hs) j T with
      | none => rw [hp] at hc; cases hc
      | some x => rw [hp] at hc; exact ⟨x, rfl, hc⟩
    have hstep := pullE (P := P) (C := C) (hs := hs) (Q := fun a w => Q .normal a w) hoj hsel T T' a w hT' (fun pre post hLm hn i hi => hpr pre post hLm i hi (fun hh => by rw [(hn i hi).1] at hh; cases hh.1)) hC h
    have hsub : ∀ L' ∈ paths T', ∃ L ∈ paths T, L' = L.erase j ∧ ∃ pre post, L = pre ++ j :: post ∧ (∀ i ∈ pre, eff ops hs i = false) ∧ L' = pre ++ post := by
     intro L' hL'
     obtain ⟨pre, post, h1, h2, rfl⟩ := mem_pick hT' hL'
     refine ⟨_, h1, ?_, pre, post, rfl, fun i hi => (h2 i hi).1, rfl⟩
     rw [List.erase_append_right _ (fun hh => (h2 j hh).2 rfl), List.erase_cons_head]
    refine op_of_step hoj hC (step_mono hC hstep fun a' w' hC' _ hK => ih T' f' _ a' w' hC' ?_ hcv ?_ (down_set hD hoj hjr) (by simp [hsz]) hK)
    ·intro L' hL'
     obtain ⟨L, hLm, rfl, _⟩ := hsub L' hL'
     refine ⟨?_, (hL L hLm).2.rest (hmem L hLm)⟩
     rw [List.length_erase_of_mem (hmem L hLm), (hL L hLm).1]
     omega
    ·intro L' hL'
     obtain ⟨L, hLm, _, pre, post, rfl, h9, rfl⟩ := hsub L' hL'
     have h1 := hf _ hLm
     rw [List.filter_append, List.filter_cons_of_pos hef] at h1
     rw [List.filter_append]
     simp only [List.length_append, List.length_cons] at h1 ⊢
     omega
   ·have hef' : eff ops hs j = false := by simpa using hef
    have hk : kind hs j oj ≠ 2 := by
     intro hk
     apply hef
     simp [eff, hoj, hk]
    have hstep := pullP (P := P) (C := C) (hs := hs) (Q := fun a w => Q .normal a w) hoj hsel hk T a w hmem (fun pre post hLm _ i hi => hpr pre post hLm i hi (fun hh => hef hh.2)) hC h
    refine op_of_step hoj hC (step_mono hC hstep fun a' w' hC' _ hK => ih (rem j T) f _ a' w' hC' ?_ (by rw [covA_rem hef']; exact hcov) ?_ (down_set hD hoj hjr) (by simp [hsz]) hK)
    ·intro L' hL'
     obtain ⟨L, hLm, rfl⟩ := mem_rem hmem hL'
     refine ⟨?_, (hL L hLm).2.rest (hmem L hLm)⟩
     rw [List.length_erase_of_mem (hmem L hLm), (hL L hLm).1]
     omega
    ·intro L' hL'
     obtain ⟨L, hLm, rfl⟩ := mem_rem hmem hL'
     rw [erase_filter hef']
     exact hf L hLm
def okA (hs : List Nat) (ops : Array Oper) (T : Tr) : Bool :=
 let M := masks ops.toList []
 ((List.range ops.size).all fun j => match ops[j]? with
  | some oj => noSel oj && (oj.after.all fun e => !Region.binds .any e || decide (e.on < j))
  | none => true) &&
 ((paths T).all fun ord => pw (relA ops hs M) ord && decide (ord.length = ops.size) && ord.all (fun i => decide (i < ops.size)) && pw (fun a b => a != b) ord) &&
 covA (eff ops hs) M ops.size T
end
inductive TrO where
 | done
 | op (i : Nat) (o : Oper) (t : TrO)
 | alt (t u : TrO)
def numbT (l : List Oper) : Tr → TrO
 | .done => .done
 | .op i t => match l[i]? with | some o => .op i o (numbT l t) | none => numbT l t
 | .alt t u => .alt (numbT l t) (numbT l u)
def lexO (P : Program) (ops : Array Oper) (C : World → Prop) (hs : List Nat) (Q : Act → World → Prop) : TrO → Act → World → Prop
 | .done, a, w => Q a w
 | .op i o t, a, w => step P ops C hs i o (lexO P ops C hs Q t) a w
 | .alt t u, a, w => lexO P ops C hs Q t a w ∧ lexO P ops C hs Q u a w
theorem lexA_of_lexO {P : Program} {C : World → Prop} {hs : List Nat} {Q : Act → World → Prop} (l : List Oper) : ∀ T : Tr, lexO P l.toArray C hs Q (numbT l T) = lexA P l.toArray C hs Q T := by
 intro T
 induction T with
 | done => rfl
 | op i t ih =>
  funext a w
  rw [numbT]
  cases hl : l[i]? with
  | none => simp only [lexA, List.getElem?_toArray, hl, ih]
  | some o => simp only [lexA, lexO, List.getElem?_toArray, hl, ih]
 | alt t u iht ihu =>
  funext a w
  simp only [numbT, lexO, lexA, iht, ihu]
theorem regionA {P : Program} {C : World → Prop} {hs : List Nat} {id : Nat} {l : List Oper} {Q : Exit → Act → World → Prop} {a : Act} {w : World} (T : Tr) (hm : P.follows .mixedOrders = true) (hok : okA hs l.toArray T = true) (hC : C w.drew)
  (h : lexO P l.toArray C hs (fun a w => Q .normal a w) (numbT l T) a w.drew) : (Code.region id l.toArray true).wp P Q a w := by
 refine wp_region_any hm ?_
 simp only [okA, Bool.and_eq_true] at hok
 obtain ⟨⟨o1, o2⟩, o4⟩ := hok
 have o1' : ∀ (j : Nat) (oj : Oper), l.toArray[j]? = some oj → noSel oj = true ∧ (∀ e ∈ oj.after, Region.binds .any e = true → e.on < j) := by
  intro j oj hj
  have hlt : j < l.toArray.size := (Array.getElem?_eq_some_iff.1 hj).1
  have h1 := List.all_eq_true.1 o1 j (List.mem_range.2 hlt)
  simp only [hj, Bool.and_eq_true] at h1
  refine ⟨h1.1, fun e he hb => ?_⟩
  have := Array.all_eq_true'.1 h1.2 e he
  simpa [hb] using this
 have o2' : ∀ L ∈ paths T, L.Pairwise (fun a b => relA l.toArray hs (masks l.toArray.toList []) a b = true) ∧ L.length = l.toArray.size ∧ (∀ i ∈ L, i < l.toArray.size) ∧ L.Nodup := by
  intro L hL
  have h1 := List.all_eq_true.1 o2 L hL
  simp only [Bool.and_eq_true, decide_eq_true_eq] at h1
  obtain ⟨⟨⟨h1, h2⟩, h3⟩, h4⟩ := h1
  exact ⟨pw_iff h1, h2, fun i hi => by simpa using List.all_eq_true.1 h3 i hi, (pw_iff h4).imp (by simp)⟩
 rw [lexA_of_lexO] at h
 refine anyA (hs := hs) (C := C) ?_ ?_ _ T l.toArray.size _ a _ hC ?_ o4 ?_ ?_ (by simp) h
 ·intro j o cs b hj he
  have := (o1' j o hj).1
  simp [noSel, he] at this
 ·intro k o hk e he hb
  have h1 := (o1' k o hk).2 e he hb
  have hlt : k < l.toArray.size := (Array.getElem?_eq_some_iff.1 hk).1
  exact ⟨by omega, by omega⟩
 ·intro L hL
  obtain ⟨h1, h2, h3, h4⟩ := o2' L hL
  refine ⟨by simpa using h2, h4, fun i => ⟨fun hi => ?_, fun ⟨hi, _⟩ => ?_⟩, h1⟩
  ·have := h3 i hi
   refine ⟨this, ?_⟩
   have this' : i < l.length := by simpa using this
   simp [Array.getD_eq_getD_getElem?, this']
  ·exact perm_mem h4 h2 h3 hi
 ·intro L hL
  obtain ⟨_, h2, _, _⟩ := o2' L hL
  exact Nat.le_trans (List.length_filter_le _ _) (by omega)
 ·intro j o ho hl
  simp [Array.getD_eq_getD_getElem?, Array.getElem?_replicate] at hl
  split at hl <;> simp at hl
section
variable {P : Program} {ops : Array Oper} {C : World → Prop} {hs : List Nat} {Q : Act → World → Prop} {k : Nat} {o : Oper} {r r' : TrO} {a : Act} {w : World}
theorem lexO_done (h : Q a w) : lexO P ops C hs Q .done a w := h
theorem lexO_alt (h : lexO P ops C hs Q r a w) (h' : lexO P ops C hs Q r' a w) : lexO P ops C hs Q (.alt r r') a w := ⟨h, h'⟩
theorem lexO_no (hw : Region.wanted o (yielded ops a.tmps) = false) (h : ∀ K : Act → Prop, (∀ a', lexO P ops C hs Q r a' w → K a') → K (a.put o.dst undef)) : lexO P ops C hs Q (.op k o r) a w := by
 unfold lexO
 simp only [step, hw, Bool.false_eq_true, if_false]
 exact h _ fun _ h => h
theorem lexO_pure {v : Value} (hk : kind hs k o = 0) (hw : Region.wanted o (yielded ops a.tmps) = true) (hr : ∀ w', C w' → (execOp a.eval o).run P w' = .ok (.value v) w')
  (h : ∀ K : Act → Prop, (∀ a', lexO P ops C hs Q r a' w → K a') → K (a.put o.dst v)) : lexO P ops C hs Q (.op k o r) a w := by
 unfold lexO
 simp only [step, hw, if_true]
 exact .inl ⟨hk, v, hr, h _ fun _ h => h⟩
theorem lexO_read {v : Value} (hk : kind hs k o = 1) (hw : Region.wanted o (yielded ops a.tmps) = true) (hr : (execOp a.eval o).run P w = .ok (.value v) w)
  (h : ∀ K : Act → Prop, (∀ a', lexO P ops C hs Q r a' w → K a') → K (a.put o.dst v)) : lexO P ops C hs Q (.op k o r) a w := by
 unfold lexO
 simp only [step, hw, if_true]
 exact .inr (.inl ⟨hk, v, hr, h _ fun _ h => h⟩)
theorem lexO_eff (hk : kind hs k o = 2) (hw : Region.wanted o (yielded ops a.tmps) = true)
  (h : ∀ K : Act → World → Prop, (∀ a' w', C w' → lexO P ops C hs Q r a' w' → K a' w') → o.wp P a w K NoQ) : lexO P ops C hs Q (.op k o r) a w := by
 unfold lexO
 simp only [step, hw, if_true]
 exact .inr (.inr ⟨hk, h _ fun _ _ h1 h2 => ⟨h1, h2⟩⟩)
theorem qn (h : ∀ K : Act → Prop, (∀ a', lexO P ops C hs Q r a' w → K a') → K (a.put o.dst undef)) (hw : Region.wanted o (yielded ops a.tmps) = false := by first | exact Lx.n1 rfl rfl rfl (by with_reducible rfl) | exact Lx.n0 rfl rfl rfl (by with_reducible rfl) | exact Lx.n2 rfl rfl rfl) : lexO P ops C hs Q (.op k o r) a w := lexO_no hw h
theorem qp {v : Value} (hr : ∀ w', C w' → (execOp a.eval o).run P w' = .ok (.value v) w') (h : ∀ K : Act → Prop, (∀ a', lexO P ops C hs Q r a' w → K a') → K (a.put o.dst v)) (hk : kind hs k o = 0 := by exact rfl) (hw : Region.wanted o (yielded ops a.tmps) = true := by first | exact Lx.w0 rfl | exact Lx.w1 rfl rfl rfl (by with_reducible rfl)) : lexO P ops C hs Q (.op k o r) a w := lexO_pure hk hw hr h
theorem qr {v : Value} (hr : (execOp a.eval o).run P w = .ok (.value v) w) (h : ∀ K : Act → Prop, (∀ a', lexO P ops C hs Q r a' w → K a') → K (a.put o.dst v)) (hk : kind hs k o = 1 := by exact rfl) (hw : Region.wanted o (yielded ops a.tmps) = true := by first | exact Lx.w0 rfl | exact Lx.w1 rfl rfl rfl (by with_reducible rfl)) : lexO P ops C hs Q (.op k o r) a w := lexO_read hk hw hr h
theorem qe (h : ∀ K : Act → World → Prop, (∀ a' w', C w' → lexO P ops C hs Q r a' w' → K a' w') → o.wp P a w K NoQ) (hk : kind hs k o = 2 := by exact rfl) (hw : Region.wanted o (yielded ops a.tmps) = true := by first | exact Lx.w0 rfl | exact Lx.w1 rfl rfl rfl (by with_reducible rfl)) : lexO P ops C hs Q (.op k o r) a w := lexO_eff hk hw h
end
end Lx
theorem blk_cell {W : World} {g t : Nat} {s : List Value} (h : Blk W g t s) (k : Nat) : W.cell? ⟨g, k, none⟩ = s[k]? := by
 simp [World.cell?, show W.heap[g]? = _ from h]
def Slices (s : List Value) : Prop := ∀ (k : Nat) (v : Value), s[k]? = some v → ∃ a l c, v = .slice a l c
theorem cell_other {W : World} {b g : Nat} (hne : b ≠ g) (o i : Nat) (u : Value) : (W.setCell ⟨g, i, none⟩ u).cell? ⟨b, o, none⟩ = W.cell? ⟨b, o, none⟩ := by
 have h := Below.heap_setCell W ⟨g, i, none⟩ u b (fun e => hne e)
 unfold World.cell?
 dsimp only
 rw [h]
theorem rowS_set {α : Type} {sz : Nat} {f : α → Nat → Value} {W : World} {D : Nat} {A : Option Addr} {n : Nat} {xs : List α} (h : RowS sz f W D A n xs) (hsz : 0 < sz) (hf : ∀ x, ∃ z, f x 0 = .int .i64 z) {g t : Nat} {s : List Value} (hb : Blk W g t s) (hs : Slices s) (i : Nat) (u : Value) : RowS sz f (W.setCell ⟨g, i, none⟩ u) D A n xs := by
 refine ⟨h.1, fun hn => ?_⟩
 obtain ⟨b, off, hA, hbl, hc⟩ := h.2 hn
 obtain ⟨x, hx⟩ : ∃ x, xs[0]? = some x := ⟨_, List.getElem?_eq_getElem (by have := h.1; omega)⟩
 have h0 := hc 0 x hx 0 hsz
 have hne : b ≠ g := by
  rintro rfl
  obtain ⟨z, hz⟩ := hf x
  rw [blk_cell hb, hz] at h0
  obtain ⟨a, l, c, hv⟩ := hs _ _ h0
  cases hv
 exact ⟨b, off, hA, hbl, fun k y hy j hj => (cell_other hne _ i u).trans (hc k y hy j hj)⟩
theorem row1_set {W : World} {D : Nat} {A : Option Addr} {n : Nat} {xs : List Int} (h : Row1 intV W D A n xs) {g t : Nat} {s : List Value} (hb : Blk W g t s) (hs : Slices s) (i : Nat) (u : Value) : Row1 intV (W.setCell ⟨g, i, none⟩ u) D A n xs := by
 refine ⟨h.1, fun hn => ?_⟩
 obtain ⟨b, off, hA, hbl, hc⟩ := h.2 hn
 obtain ⟨x, hx⟩ : ∃ x, xs[0]? = some x := ⟨_, List.getElem?_eq_getElem (by have := h.1; omega)⟩
 have h0 := hc 0 x hx
 have hne : b ≠ g := by
  rintro rfl
  rw [blk_cell hb] at h0
  obtain ⟨a, l, c, hv⟩ := hs _ _ h0
  cases hv
 exact ⟨b, off, hA, hbl, fun k y hy => (cell_other hne _ i u).trans (hc k y hy)⟩
theorem PrbAt.set {W : World} {D : Nat} {s : PrbS} {ds : List Dom} {r : Rul} (h : PrbAt W D s ds r) {g t : Nat} {l : List Value} (hb : Blk W g t l) (hs : Slices l) (i : Nat) (u : Value) : PrbAt (W.setCell ⟨g, i, none⟩ u) D s ds r :=
 ⟨⟨rowS_set h.1.1 (by decide) (fun x => ⟨_, rfl⟩) hb hs i u, fun d hd => row1_set (h.1.2 d hd) hb hs i u⟩, rowS_set h.2.1 (by decide) (fun x => ⟨_, rfl⟩) hb hs i u, rowS_set h.2.2.1 (by decide) (fun x => ⟨_, rfl⟩) hb hs i u, rowS_set h.2.2.2.1 (by decide) (fun x => ⟨_, rfl⟩) hb hs i u, h.2.2.2.2⟩
theorem slices4 (a b c d : Option Addr) (n1 k1 n2 k2 n3 k3 n4 k4 : Nat) : Slices [.slice a n1 k1, .slice b n2 k2, .slice c n3 k3, .slice d n4 k4] := by
 intro k v h
 match k, h with
 | 0, h => simp at h; exact ⟨_, _, _, h.symm⟩
 | 1, h => simp at h; exact ⟨_, _, _, h.symm⟩
 | 2, h => simp at h; exact ⟨_, _, _, h.symm⟩
 | 3, h => simp at h; exact ⟨_, _, _, h.symm⟩
 | k + 4, h => simp at h
def ss4 (s : PrbS) : List Value := [.slice s.ad s.nd s.cd, .slice s.rs.a0 s.rs.n0 s.rs.c0, .slice s.rs.a1 s.rs.n1 s.rs.c1, .slice s.rs.a2 s.rs.n2 s.rs.c2]
theorem prb_store {W : World} {g : Nat} {s : PrbS} {ds : List Dom} {r : Rul} (h : PrbAt W W.heap.size s ds r) (hb : Blk W g 29 [.slice none 0 0, .slice none 0 0, .slice none 0 0, .slice none 0 0]) {W1 : World} (hB : Below W1.heap.size W1 W) (hg : W1.heap.size ≤ g) :
  Blk ((((W.setCell ⟨g, 0, none⟩ (.slice s.ad s.nd s.cd)).setCell ⟨g, 1, none⟩ (.slice s.rs.a0 s.rs.n0 s.rs.c0)).setCell ⟨g, 2, none⟩ (.slice s.rs.a1 s.rs.n1 s.rs.c1)).setCell ⟨g, 3, none⟩ (.slice s.rs.a2 s.rs.n2 s.rs.c2)) g 29 (ss4 s) ∧
  PrbAt ((((W.setCell ⟨g, 0, none⟩ (.slice s.ad s.nd s.cd)).setCell ⟨g, 1, none⟩ (.slice s.rs.a0 s.rs.n0 s.rs.c0)).setCell ⟨g, 2, none⟩ (.slice s.rs.a1 s.rs.n1 s.rs.c1)).setCell ⟨g, 3, none⟩ (.slice s.rs.a2 s.rs.n2 s.rs.c2)) W.heap.size s ds r ∧
  Below W1.heap.size W1 ((((W.setCell ⟨g, 0, none⟩ (.slice s.ad s.nd s.cd)).setCell ⟨g, 1, none⟩ (.slice s.rs.a0 s.rs.n0 s.rs.c0)).setCell ⟨g, 2, none⟩ (.slice s.rs.a1 s.rs.n1 s.rs.c1)).setCell ⟨g, 3, none⟩ (.slice s.rs.a2 s.rs.n2 s.rs.c2)) := by
 have b1 := hb.set_ 0 (.slice s.ad s.nd s.cd)
 have b2 := b1.set_ 1 (.slice s.rs.a0 s.rs.n0 s.rs.c0)
 have b3 := b2.set_ 2 (.slice s.rs.a1 s.rs.n1 s.rs.c1)
 have b4 := b3.set_ 3 (.slice s.rs.a2 s.rs.n2 s.rs.c2)
 refine ⟨b4, (((h.set hb (slices4 _ _ _ _ _ _ _ _ _ _ _ _) 0 _).set b1 (slices4 _ _ _ _ _ _ _ _ _ _ _ _) 1 _).set b2 (slices4 _ _ _ _ _ _ _ _ _ _ _ _) 2 _).set b3 (slices4 _ _ _ _ _ _ _ _ _ _ _ _) 3 _, ?_⟩
 exact (((hB.setCell (p := ⟨g, 0, none⟩) hg _).setCell (p := ⟨g, 1, none⟩) hg _).setCell (p := ⟨g, 2, none⟩) hg _).setCell (p := ⟨g, 3, none⟩) hg _
theorem rsts_row (s : PrbS) (w : World) (ds : List Dom) (hn : s.nd ≤ 100000) (hl : RowS 2 Dom.cell w w.heap.size s.ad s.nd ds) : Calls Tryz.prog 97 #[s.val] w (RowNew ds.length (ds.map Dom.st) w) := by
 refine (rstations_any s w ds hn hl).mono ?_
 rintro e w' ⟨v, rfl, hown, hb⟩
 rw [List.length_map] at hown
 obtain ⟨B, d, rfl, hr, _⟩ := own_form hown
 exact ⟨B, d, rfl, hr, hb⟩
abbrev DS := List (Int × List Int)
def Has (l : Chs) (D : DS) : Prop := ∀ d ∈ D, onF l d.1 ∈ d.2
section
variable {ds : List Dom} {r : Rul} {l : Chs} {D : DS}
end
end Go.Proofs.YtdpbbhbegehcjaaGreatDoor

namespace Go.Proofs.YtdpbbhbegehcjaaGreatDoor
open Go.RowKit Go.Shelf
theorem any_yes {α : Type} {xs : List α} {f : α → Bool} {k : Nat} {x : α} (hx : xs[k]? = some x) (hf : f x = true) : xs.any f = true := List.any_eq_true.2 ⟨x, List.mem_of_getElem? hx, hf⟩
theorem any_take {α : Type} {xs : List α} {f : α → Bool} {k : Nat} {x : α} (hx : xs[k]? = some x) (h : (xs.take k).any f = false) (hf : f x = false) : (xs.take (k + 1)).any f = false := by rw [take_snoc hx, List.any_append, h]; simp [hf]
end Go.Proofs.YtdpbbhbegehcjaaGreatDoor
