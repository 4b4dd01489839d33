/- The laid variable of the rows of a seat that lists the table of TrailingZeros64 only: what it gives to a walk; the wrap of a row that lists variables and keeps the world's shape. -/
import Derived.ProofKit
import Derived.OpenShut
import Derived.ShutString
import Derived.ChangeOld
import Derived.Below
import Derived.Deep.Slices
import Derived.Deep.Fields
import Derived.ChangeSame
import Derived.Test.YtpdhelhngdeoeaaDoorChecked
import Derived.KernelRfl
import Derived.Lib.SmallJoins
import Derived.Test.YtpdhelhngdeoeaaDoorRows
import Derived.Test.YtpdhelhngdeoeaaDoorTie
import Derived.Test.YtpdhelhngdeoeaaDoorCards
import Derived.Lay
import Derived.MakeChecks
import Derived.LaidOnce
import Derived.SevenTiedAt
import Derived.HandedShaped
import Derived.Stop.LaidErr
import Derived.Test.YtpdhelhngdeoeaaDoorLim01
import Derived.Test.YtpdhelhngdeoeaaDoorLim07
import Derived.Test.YtpdhelhngdeoeaaDoorLim13
import Derived.Test.YtpdhelhngdeoeaaDoorLim20
/- A region that draws its order, with effects that nothing orders, among them calls: a walk along a tree of orders, which parts only where the effects part. Nothing of the program is named here. -/
namespace Go.Proofs.YtpdhelhngdeoeaaDoor
open Go.RowKit
namespace Lx

/-- a tree of orders: an operation, or two ways on -/
inductive Tr where
  | done
  | op (i : Nat) (t : Tr)
  | alt (t u : Tr)
def paths : Tr → List (List Nat)
  | .done => [[]]
  | .op i t => (paths t).map (i :: ·)
  | .alt t u => paths t ++ paths u
/-- without a pure operation -/
def rem (j : Nat) : Tr → Tr
  | .done => .done
  | .op i t => if i = j then t else .op i (rem j t)
  | .alt t u => .alt (rem j t) (rem j u)
/-- the ways on which j is the first effect, without j -/
def pick (p : Nat → Bool) (j : Nat) : Tr → Option Tr
  | .done => none
  | .op i t => if i = j then some t else if p i then none else (pick p j t).map (.op i)
  | .alt t u => match pick p j t with | some x => some x | none => pick p j u

theorem paths_ne : ∀ T : Tr, paths T ≠ [] := by
  intro T
  induction T with
  | done => simp [paths]
  | op i t ih => simpa [paths] using ih
  | alt t u ih _ => simp [paths, ih]
theorem append_first {j : Nat} : ∀ {L : List Nat}, j ∈ L → ∃ pre post, L = pre ++ j :: post ∧ j ∉ pre := by
  intro L
  induction L with
  | nil => intro h; cases h
  | cons i L ih =>
    intro h
    by_cases e : i = j
    · subst e; exact ⟨[], L, rfl, by simp⟩
    · rcases List.mem_cons.1 h with h | h
      · exact absurd h.symm e
      · obtain ⟨pre, post, rfl, hn⟩ := ih h
        exact ⟨i :: pre, post, rfl, by simp [hn, Ne.symm e]⟩
theorem perm_mem {L : List Nat} {n : Nat} (hd : L.Nodup) (hl : L.length = n) (hb : ∀ i ∈ L, i < n) {i : Nat} (hi : i < n) : i ∈ L := by
  rcases Classical.em (i ∈ L) with hh | hh
  · exact hh
  · exfalso
    have h1 : (i :: L).Nodup := List.nodup_cons.2 ⟨hh, hd⟩
    have h2 : ∀ z ∈ i :: L, z ∈ List.range n := by
      intro z hz
      rcases List.mem_cons.1 hz with rfl | hz
      · exact List.mem_range.2 hi
      · exact List.mem_range.2 (hb z hz)
    have key : ∀ (A B : List Nat), A.Nodup → (∀ z ∈ A, z ∈ B) → A.length ≤ B.length := by
      intro A
      induction A with
      | nil => intro B _ _; simp
      | cons x A ih =>
        intro B hA hs
        obtain ⟨hx, hA'⟩ := List.nodup_cons.1 hA
        have hxB := hs x (by simp)
        have h3 := ih (B.erase x) hA' (fun z hz => (List.mem_erase_of_ne (by rintro rfl; exact hx hz)).2 (hs z (by simp [hz])))
        rw [List.length_erase_of_mem hxB] at h3
        have := List.length_pos_of_mem hxB
        simp only [List.length_cons]
        omega
    have h4 := key _ _ h1 h2
    simp at h4
    omega
theorem mem_rem {j : Nat} : ∀ {T : Tr} {L' : List Nat}, (∀ L ∈ paths T, j ∈ L) → L' ∈ paths (rem j T) → ∃ L ∈ paths T, L' = L.erase j := by
  intro T
  induction T with
  | done => intro L' h _; exact absurd (h [] (by simp [paths])) (by simp)
  | op i t ih =>
    intro L' h hL'
    by_cases e : i = j
    · subst e
      rw [rem, if_pos rfl] at hL'
      exact ⟨i :: L', by simp [paths, hL'], by simp⟩
    · rw [rem, if_neg e, paths] at hL'
      obtain ⟨L1, hL1, rfl⟩ := List.mem_map.1 hL'
      obtain ⟨L2, hL2, rfl⟩ := ih (fun L hL => by
        have := h (i :: L) (by simp [paths, hL])
        rcases List.mem_cons.1 this with h | h
        · exact absurd h.symm e
        · exact h) hL1
      exact ⟨i :: L2, by simp [paths, hL2], by rw [List.erase_cons_tail (by simpa using e)]⟩
  | alt t u iht ihu =>
    intro L' h hL'
    rw [rem, paths] at hL'
    rcases List.mem_append.1 hL' with h1 | h1
    · obtain ⟨L, hL, e⟩ := iht (fun L hL => h L (by simp [paths, hL])) h1
      exact ⟨L, by simp [paths, hL], e⟩
    · obtain ⟨L, hL, e⟩ := ihu (fun L hL => h L (by simp [paths, hL])) h1
      exact ⟨L, by simp [paths, hL], e⟩
theorem first_rem {p : Nat → Bool} {j : Nat} (hp : p j = false) : ∀ T : Tr, ((paths (rem j T)).head?).map (·.filter p) = ((paths T).head?).map (·.filter p) := by
  intro T
  induction T with
  | done => rfl
  | op i t ih =>
    by_cases e : i = j
    · subst e
      rw [rem, if_pos rfl, paths]
      cases hh : paths t with
      | nil => rfl
      | cons L r => simp [hp]
    · rw [rem, if_neg e, paths, paths]
      cases h1 : paths (rem j t) with
      | nil => exact absurd h1 (paths_ne _)
      | cons L r =>
        cases h2 : paths t with
        | nil => exact absurd h2 (paths_ne _)
        | cons L2 r2 =>
          rw [h1, h2] at ih
          have ih' : L.filter p = L2.filter p := by simpa using ih
          simp [List.filter_cons, ih']
  | alt t u iht _ =>
    rw [rem, paths, paths]
    cases h1 : paths (rem j t) with
    | nil => exact absurd h1 (paths_ne _)
    | cons L r =>
      cases h2 : paths t with
      | nil => exact absurd h2 (paths_ne _)
      | cons L2 r2 =>
        rw [h1, h2] at iht
        simpa using iht
theorem pick_rem {p : Nat → Bool} {j k : Nat} (hp : p j = false) (hk : p k = true) : ∀ T : Tr, pick p k (rem j T) = (pick p k T).map (rem j) := by
  have hjk : j ≠ k := by rintro rfl; rw [hp] at hk; cases hk
  intro T
  induction T with
  | done => rfl
  | op i t ih =>
    by_cases e : i = j
    · subst e
      rw [rem, if_pos rfl, pick, if_neg hjk, if_neg (by rw [hp]; simp), Option.map_map]
      cases pick p k t with
      | none => rfl
      | some x => simp [rem]
    · rw [rem, if_neg e, pick, pick]
      by_cases e2 : i = k
      · rw [if_pos e2, if_pos e2]; rfl
      · rw [if_neg e2, if_neg e2]
        by_cases e3 : p i = true
        · rw [if_pos e3, if_pos e3]; rfl
        · rw [if_neg e3, if_neg e3, ih, Option.map_map, Option.map_map]
          cases pick p k t with
          | none => rfl
          | some x => simp [rem, e]
  | alt t u iht ihu =>
    rw [rem, pick, pick, iht, ihu]
    cases pick p k t with
    | none => rfl
    | some x => rfl
theorem mem_pick {p : Nat → Bool} {j : Nat} : ∀ {T T' : Tr} {L' : List Nat}, pick p j T = some T' → L' ∈ paths T' → ∃ pre post, pre ++ j :: post ∈ paths T ∧ (∀ i ∈ pre, p i = false ∧ i ≠ j) ∧ L' = pre ++ post := by
  intro T
  induction T with
  | done => intro T' L' h; cases h
  | op i t ih =>
    intro T' L' h hL'
    rw [pick] at h
    by_cases e : i = j
    · subst e
      rw [if_pos rfl] at h
      injection h with h
      subst h
      exact ⟨[], L', by simp [paths, hL'], (fun _ h => by cases h), rfl⟩
    · rw [if_neg e] at h
      by_cases e2 : p i = true
      · rw [if_pos e2] at h; cases h
      · rw [if_neg e2] at h
        cases hp : pick p j t with
        | none => rw [hp] at h; cases h
        | some x =>
          rw [hp] at h
          injection h with h
          subst h
          rw [paths] at hL'
          obtain ⟨L1, hL1, rfl⟩ := List.mem_map.1 hL'
          obtain ⟨pre, post, h1, h2, rfl⟩ := ih hp hL1
          refine ⟨i :: pre, post, by simp [paths, h1], fun k hk => ?_, rfl⟩
          rcases List.mem_cons.1 hk with rfl | hk
          · exact ⟨by simpa using e2, e⟩
          · exact h2 k hk
  | alt t u iht ihu =>
    intro T' L' h hL'
    rw [pick] at h
    cases hp : pick p j t with
    | some x =>
      rw [hp] at h
      injection h with h
      subst h
      obtain ⟨pre, post, h1, h2, h3⟩ := iht hp hL'
      exact ⟨pre, post, by simp [paths, h1], h2, h3⟩
    | none =>
      rw [hp] at h
      obtain ⟨pre, post, h1, h2, h3⟩ := ihu h hL'
      exact ⟨pre, post, by simp [paths, h1], h2, h3⟩

section
variable {P : Program} {ops : Array Oper} {C : World → Prop} {hs : List Nat}

def lexA (P : Program) (ops : Array Oper) (C : World → Prop) (hs : List Nat) (Q : Act → World → Prop) : Tr → Act → World → Prop
  | .done, a, w => Q a w
  | .op i t, a, w => match ops[i]? with
    | some o => step P ops C hs i o (lexA P ops C hs Q t) a w
    | none => lexA P ops C hs Q t a w
  | .alt t u, a, w => lexA P ops C hs Q t a w ∧ lexA P ops C hs Q u a w

theorem pullP {Q : Act → World → Prop} {j : Nat} {oj : Oper} (hj : ops[j]? = some oj) (hsel : ∀ (j : Nat) (o : Oper) cs b, ops[j]? = some o → o.op ≠ .select cs b) (hk : kind hs j oj ≠ 2) :
    ∀ (T : Tr) (a : Act) (w : World), (∀ L ∈ paths T, j ∈ L) → (∀ pre post, pre ++ j :: post ∈ paths T → j ∉ pre → ∀ i ∈ pre, pair ops hs i j = true) → C w → lexA P ops C hs Q T a w → step P ops C hs j oj (lexA P ops C hs Q (rem j T)) a w := by
  intro T
  induction T with
  | done => intro a w h; exact absurd (h [] (by simp [paths])) (by simp)
  | op i t ih =>
    intro a w hm hp hC h
    by_cases e : i = j
    · subst e
      rw [rem, if_pos rfl]
      simpa only [lexA, hj] using h
    · have hm' : ∀ L ∈ paths t, j ∈ L := fun L hL => by
        rcases List.mem_cons.1 (hm (i :: L) (by simp [paths, hL])) with h | h
        · exact absurd h.symm e
        · exact h
      have hp' : ∀ pre post, pre ++ j :: post ∈ paths t → j ∉ pre → ∀ k ∈ pre, pair ops hs k j = true := fun pre post hL hn k hk => hp (i :: pre) post (by simp [paths, hL]) (by simp [hn, Ne.symm e]) k (by simp [hk])
      have hpi : pair ops hs i j = true := by
        obtain ⟨L, hL⟩ := List.exists_mem_of_ne_nil _ (paths_ne t)
        obtain ⟨pre, post, rfl, hn⟩ := append_first (hm' L hL)
        exact hp (i :: pre) post (by simp [paths, hL]) (by simp [hn, Ne.symm e]) i (by simp)
      rw [rem, if_neg e]
      cases hi : ops[i]? with
      | none =>
        simp only [lexA, hi] at h
        exact step_mono hC (ih a w hm' hp' hC h) fun a' w' _ _ hK => by simpa only [lexA, hi] using hK
      | some oi =>
        simp only [lexA, hi] at h
        have h1 : step P ops C hs i oi (step P ops C hs j oj (lexA P ops C hs Q (rem j t))) a w := step_mono hC h fun a' w' hC' _ hK => ih a' w' hm' hp' hC' hK
        simp only [pair, hi, hj, Bool.and_eq_true, Bool.or_eq_true, beq_iff_eq] at hpi
        have h2 := swap (hsel i oi · · hi) (hsel j oj · · hj) hpi.1 (by omega) hC h1
        exact step_mono hC h2 fun a' w' _ _ hK => by simpa only [lexA, hi] using hK
  | alt t u iht ihu =>
    intro a w hm hp hC h
    simp only [lexA] at h
    have h1 := iht a w (fun L hL => hm L (by simp [paths, hL])) (fun pre post hL => hp pre post (by simp [paths, hL])) hC h.1
    have h2 := ihu a w (fun L hL => hm L (by simp [paths, hL])) (fun pre post hL => hp pre post (by simp [paths, hL])) hC h.2
    have h3 := step_all (P := P) (ops := ops) (C := C) (hs := hs) (S := fun _ : Bool => True) (K := fun b a w => if b then lexA P ops C hs Q (rem j t) a w else lexA P ops C hs Q (rem j u) a w) true trivial hC (.inl hk) (fun b _ => by
      cases b with
      | true => simpa using h1
      | false => simpa using h2)
    refine step_mono hC h3 fun a' w' _ _ hK => ?_
    rw [rem]
    simp only [lexA]
    exact ⟨by simpa using hK true trivial, by simpa using hK false trivial⟩

theorem pullE {Q : Act → World → Prop} {p : Nat → Bool} {j : Nat} {oj : Oper} (hj : ops[j]? = some oj) (hsel : ∀ (j : Nat) (o : Oper) cs b, ops[j]? = some o → o.op ≠ .select cs b) :
    ∀ (T T' : Tr) (a : Act) (w : World), pick p j T = some T' → (∀ pre post, pre ++ j :: post ∈ paths T → (∀ i ∈ pre, p i = false ∧ i ≠ j) → ∀ i ∈ pre, pair ops hs i j = true) → C w → lexA P ops C hs Q T a w → step P ops C hs j oj (lexA P ops C hs Q T') a w := by
  intro T
  induction T with
  | done => intro T' a w h; cases h
  | op i t ih =>
    intro T' a w hpk hp hC h
    have hpk0 := hpk
    rw [pick] at hpk
    by_cases e : i = j
    · subst e
      rw [if_pos rfl] at hpk
      injection hpk with hpk
      subst hpk
      simpa only [lexA, hj] using h
    · rw [if_neg e] at hpk
      by_cases e2 : p i = true
      · rw [if_pos e2] at hpk; cases hpk
      · rw [if_neg e2] at hpk
        cases hx : pick p j t with
        | none => rw [hx] at hpk; cases hpk
        | some x =>
          rw [hx] at hpk
          injection hpk with hpk
          subst hpk
          have hp' : ∀ pre post, pre ++ j :: post ∈ paths t → (∀ k ∈ pre, p k = false ∧ k ≠ j) → ∀ k ∈ pre, pair ops hs k j = true := fun pre post hL hn k hk => hp (i :: pre) post (by simp [paths, hL]) (fun m hm => by
            rcases List.mem_cons.1 hm with rfl | hm
            · exact ⟨by simpa using e2, e⟩
            · exact hn m hm) k (by simp [hk])
          have hpi : pair ops hs i j = true := by
            obtain ⟨L, hL⟩ := List.exists_mem_of_ne_nil _ (paths_ne x)
            obtain ⟨pre, post, h1, h2, _⟩ := mem_pick hx hL
            refine hp (i :: pre) post (by simp [paths, h1]) (fun m hm => ?_) i (by simp)
            rcases List.mem_cons.1 hm with rfl | hm
            · exact ⟨by simpa using e2, e⟩
            · exact h2 m hm
          cases hi : ops[i]? with
          | none =>
            simp only [lexA, hi] at h
            exact step_mono hC (ih x a w hx hp' hC h) fun a' w' _ _ hK => by simpa only [lexA, hi] using hK
          | some oi =>
            simp only [lexA, hi] at h
            have h1 : step P ops C hs i oi (step P ops C hs j oj (lexA P ops C hs Q x)) a w := step_mono hC h fun a' w' hC' _ hK => ih x a' w' hx hp' hC' hK
            simp only [pair, hi, hj, Bool.and_eq_true, Bool.or_eq_true, beq_iff_eq] at hpi
            have h2 := swap (hsel i oi · · hi) (hsel j oj · · hj) hpi.1 (by omega) hC h1
            exact step_mono hC h2 fun a' w' _ _ hK => by simpa only [lexA, hi] using hK
  | alt t u iht ihu =>
    intro T' a w hpk hp hC h
    simp only [lexA] at h
    rw [pick] at hpk
    cases hx : pick p j t with
    | some x =>
      rw [hx] at hpk
      injection hpk with hpk
      subst hpk
      exact iht x a w hx (fun pre post hL => hp pre post (by simp [paths, hL])) hC h.1
    | none =>
      rw [hx] at hpk
      exact ihu T' a w hpk (fun pre post hL => hp pre post (by simp [paths, hL])) hC h.2

/-- every order of the effects that the edges leave is in the tree -/
def covA (p : Nat → Bool) (M : List Nat) : Nat → Tr → Bool
  | 0, _ => true
  | f + 1, T => match (paths T).head? with
    | none => false
    | some L => (L.filter p).all fun j => ((L.filter p).any fun i => (M.getD j 0).testBit i) || (match pick p j T with | some T' => covA p M f T' | none => false)
theorem covA_rem {p : Nat → Bool} {M : List Nat} {j : Nat} (hp : p j = false) : ∀ (f : Nat) (T : Tr), covA p M f (rem j T) = covA p M f T := by
  intro f
  induction f with
  | zero => intro T; rfl
  | succ f ih =>
    intro T
    have h1 := first_rem hp T
    unfold covA
    cases h2 : (paths (rem j T)).head? with
    | none => exact absurd (List.head?_eq_none_iff.1 h2) (paths_ne _)
    | some L =>
      cases h3 : (paths T).head? with
      | none => exact absurd (List.head?_eq_none_iff.1 h3) (paths_ne _)
      | some L2 =>
        rw [h2, h3] at h1
        have h4 : L.filter p = L2.filter p := by simpa using h1
        dsimp only
        rw [h4]
        have key : ∀ k ∈ L2.filter p, (((L2.filter p).any fun i => (M.getD k 0).testBit i) || (match pick p k (rem j T) with | some T' => covA p M f T' | none => false)) = (((L2.filter p).any fun i => (M.getD k 0).testBit i) || (match pick p k T with | some T' => covA p M f T' | none => false)) := by
          intro k hk
          rw [pick_rem hp (List.mem_filter.1 hk).2]
          cases pick p k T with
          | none => rfl
          | some x => simp only [Option.map_some]; rw [ih x]
        rw [Bool.eq_iff_iff, List.all_eq_true, List.all_eq_true]
        exact ⟨fun h k hk => by rw [← key k hk]; exact h k hk, fun h k hk => by rw [key k hk]; exact h k hk⟩

theorem anyA {Q : Exit → Act → World → Prop} (hsel : ∀ (j : Nat) (o : Oper) cs b, ops[j]? = some o → o.op ≠ .select cs b) (hself : ∀ (k : Nat) (o : Oper), ops[k]? = some o → ∀ e ∈ o.after, Region.binds .any e = true → e.on ≠ k ∧ e.on < ops.size) :
    ∀ (fuel : Nat) (T : Tr) (f : Nat) (listed : Array Bool) (a : Act) (w : World), C w → (∀ L ∈ paths T, L.length = fuel ∧ Ord ops hs listed L) → covA (eff ops hs) (masks ops.toList []) f T = true → (∀ L ∈ paths T, (L.filter (eff ops hs)).length ≤ f) →
    Down ops listed → listed.size = ops.size → lexA P ops C hs (fun a w => Q .normal a w) T a w → wpAny P .any ops Q fuel listed a w := by
  intro fuel
  induction fuel with
  | zero =>
    intro T f listed a w hC hL _ _ hD hsz h
    have hdone : ∀ T : Tr, (∀ L ∈ paths T, L.length = 0) → ∀ a w, lexA P ops C hs (fun a w => Q .normal a w) T a w → Q .normal a w := by
      intro T
      induction T with
      | done => intro _ a w h; exact h
      | op i t _ =>
        intro h0 a w _
        obtain ⟨L, hL⟩ := List.exists_mem_of_ne_nil _ (paths_ne t)
        have := h0 (i :: L) (by simp [paths, hL])
        simp at this
      | alt t u iht _ => intro h0 a w h; exact iht (fun L hL => h0 L (by simp [paths, hL])) a w h.1
    refine ⟨?_, hdone T (fun L hLm => (hL L hLm).1) a w h⟩
    obtain ⟨L, hLm⟩ := List.exists_mem_of_ne_nil _ (paths_ne T)
    obtain ⟨hl, hO⟩ := hL L hLm
    have hnil : L = [] := List.eq_nil_of_length_eq_zero hl
    subst hnil
    cases hr : Region.ready .any ops listed with
    | nil => rfl
    | cons z zs =>
      have hx : z ∈ Region.ready .any ops listed := by rw [hr]; simp
      obtain ⟨h1, o, ho, _⟩ := mem_ready.1 hx
      have : z ∈ ([] : List Nat) := (hO.mem z).2 ⟨(Array.getElem?_eq_some_iff.1 ho).1, h1⟩
      cases this
  | succ fuel ih =>
    intro T f listed a w hC hL hcov hf hD hsz h
    refine ⟨fun hr => ?_, fun j hj => ?_⟩
    · exfalso
      obtain ⟨L0, hL0⟩ := List.exists_mem_of_ne_nil _ (paths_ne T)
      obtain ⟨hl, hO⟩ := hL L0 hL0
      cases L0 with
      | nil => simp at hl
      | cons i L =>
        have hri := head_readyA hsz hO.mem hself hO.pw
        rw [hr] at hri
        cases hri
    · obtain ⟨hj1, oj, hoj, hjr⟩ := mem_ready.1 hj
      have hjlt : j < ops.size := (Array.getElem?_eq_some_iff.1 hoj).1
      have hmem : ∀ L ∈ paths T, j ∈ L := fun L hLm => ((hL L hLm).2.mem j).2 ⟨hjlt, hj1⟩
      have hpr : ∀ pre post, pre ++ j :: post ∈ paths T → ∀ i ∈ pre, ¬ (eff ops hs i = true ∧ eff ops hs j = true) → pair ops hs i j = true := by
        intro pre post hLm i hi hne
        have hO := (hL _ hLm).2
        have hr := (List.pairwise_append.1 hO.pw).2.2 i hi j (by simp)
        obtain ⟨hi1, hi2⟩ := (hO.mem i).1 (by simp [hi])
        exact relA_pair hr hD hoj hjr hi2 (by omega) hne
      by_cases hef : eff ops hs j = true
      · obtain ⟨L1, hh1⟩ : ∃ L1, (paths T).head? = some L1 := by
          cases hh : (paths T).head? with
          | none => exact absurd (List.head?_eq_none_iff.1 hh) (paths_ne T)
          | some L1 => exact ⟨L1, rfl⟩
        have hL1 : L1 ∈ paths T := List.mem_of_mem_head? (by rw [hh1]; rfl)
        have hE1 : j ∈ L1.filter (eff ops hs) := List.mem_filter.2 ⟨hmem L1 hL1, hef⟩
        have hfpos : f ≠ 0 := by
          intro e
          have h1 := hf L1 hL1
          rw [e] at h1
          have := List.length_pos_of_mem hE1
          omega
        obtain ⟨f', rfl⟩ := Nat.exists_eq_succ_of_ne_zero hfpos
        have hnb : ∀ i, listed.getD i true = false → i < ops.size → ((masks ops.toList []).getD j 0).testBit i = false := by
          intro i hi hlt
          cases hb : ((masks ops.toList []).getD j 0).testBit i with
          | false => rfl
          | true =>
            have hl := masks_sound hD (j + 1) j oj (by omega) hoj hjr i hb
            have hb2 : i < listed.size := by omega
            simp only [Array.getD_eq_getD_getElem?, Array.getElem?_eq_getElem hb2, Option.getD_some] at hl hi
            rw [hl] at hi
            cases hi
        obtain ⟨T', hT', hcv⟩ : ∃ T', pick (eff ops hs) j T = some T' ∧ covA (eff ops hs) (masks ops.toList []) f' T' = true := by
          rw [covA, hh1] at hcov
          have hc := List.all_eq_true.1 hcov j hE1
          rw [Bool.or_eq_true] at hc
          rcases hc with hc | hc
          · exfalso
            obtain ⟨i, hi, hb⟩ := List.any_eq_true.1 hc
            obtain ⟨q1, q2⟩ := ((hL L1 hL1).2.mem i).1 (List.mem_filter.1 hi).1
            rw [hnb i q2 q1] at hb
            cases hb
          · cases hp : pick (eff ops hs) j T with
            | none => rw [hp] at hc; cases hc
            | some x => rw [hp] at hc; exact ⟨x, rfl, hc⟩
        have hstep := pullE (P := P) (C := C) (hs := hs) (Q := fun a w => Q .normal a w) hoj hsel T T' a w hT' (fun pre post hLm hn i hi => hpr pre post hLm i hi (fun hh => by rw [(hn i hi).1] at hh; cases hh.1)) hC h
        have hsub : ∀ L' ∈ paths T', ∃ L ∈ paths T, L' = L.erase j ∧ ∃ pre post, L = pre ++ j :: post ∧ (∀ i ∈ pre, eff ops hs i = false) ∧ L' = pre ++ post := by
          intro L' hL'
          obtain ⟨pre, post, h1, h2, rfl⟩ := mem_pick hT' hL'
          refine ⟨_, h1, ?_, pre, post, rfl, fun i hi => (h2 i hi).1, rfl⟩
          rw [List.erase_append_right _ (fun hh => (h2 j hh).2 rfl), List.erase_cons_head]
        refine op_of_step hoj hC (step_mono hC hstep fun a' w' hC' _ hK => ih T' f' _ a' w' hC' ?_ hcv ?_ (down_set hD hoj hjr) (by simp [hsz]) hK)
        · intro L' hL'
          obtain ⟨L, hLm, rfl, _⟩ := hsub L' hL'
          refine ⟨?_, (hL L hLm).2.rest (hmem L hLm)⟩
          rw [List.length_erase_of_mem (hmem L hLm), (hL L hLm).1]
          omega
        · intro L' hL'
          obtain ⟨L, hLm, _, pre, post, rfl, h9, rfl⟩ := hsub L' hL'
          have h1 := hf _ hLm
          rw [List.filter_append, List.filter_cons_of_pos hef] at h1
          rw [List.filter_append]
          simp only [List.length_append, List.length_cons] at h1 ⊢
          omega
      · have hef' : eff ops hs j = false := by simpa using hef
        have hk : kind hs j oj ≠ 2 := by
          intro hk
          apply hef
          simp [eff, hoj, hk]
        have hstep := pullP (P := P) (C := C) (hs := hs) (Q := fun a w => Q .normal a w) hoj hsel hk T a w hmem (fun pre post hLm _ i hi => hpr pre post hLm i hi (fun hh => hef hh.2)) hC h
        refine op_of_step hoj hC (step_mono hC hstep fun a' w' hC' _ hK => ih (rem j T) f _ a' w' hC' ?_ (by rw [covA_rem hef']; exact hcov) ?_ (down_set hD hoj hjr) (by simp [hsz]) hK)
        · intro L' hL'
          obtain ⟨L, hLm, rfl⟩ := mem_rem hmem hL'
          refine ⟨?_, (hL L hLm).2.rest (hmem L hLm)⟩
          rw [List.length_erase_of_mem (hmem L hLm), (hL L hLm).1]
          omega
        · intro L' hL'
          obtain ⟨L, hLm, rfl⟩ := mem_rem hmem hL'
          rw [erase_filter hef']
          exact hf L hLm

/-- the check, by the kernel -/
def okA (hs : List Nat) (ops : Array Oper) (T : Tr) : Bool :=
  let M := masks ops.toList []
  ((List.range ops.size).all fun j => match ops[j]? with
    | some oj => noSel oj && (oj.after.all fun e => !Region.binds .any e || decide (e.on < j))
    | none => true) &&
  ((paths T).all fun ord => pw (relA ops hs M) ord && decide (ord.length = ops.size) && ord.all (fun i => decide (i < ops.size)) && pw (fun a b => a != b) ord) &&
  covA (eff ops hs) M ops.size T
end

/-- the tree with its operations -/
inductive TrO where
  | done
  | op (i : Nat) (o : Oper) (t : TrO)
  | alt (t u : TrO)
def numbT (l : List Oper) : Tr → TrO
  | .done => .done
  | .op i t => match l[i]? with | some o => .op i o (numbT l t) | none => numbT l t
  | .alt t u => .alt (numbT l t) (numbT l u)
def lexO (P : Program) (ops : Array Oper) (C : World → Prop) (hs : List Nat) (Q : Act → World → Prop) : TrO → Act → World → Prop
  | .done, a, w => Q a w
  | .op i o t, a, w => step P ops C hs i o (lexO P ops C hs Q t) a w
  | .alt t u, a, w => lexO P ops C hs Q t a w ∧ lexO P ops C hs Q u a w
theorem lexA_of_lexO {P : Program} {C : World → Prop} {hs : List Nat} {Q : Act → World → Prop} (l : List Oper) : ∀ T : Tr, lexO P l.toArray C hs Q (numbT l T) = lexA P l.toArray C hs Q T := by
  intro T
  induction T with
  | done => rfl
  | op i t ih =>
    funext a w
    rw [numbT]
    cases hl : l[i]? with
    | none => simp only [lexA, List.getElem?_toArray, hl, ih]
    | some o => simp only [lexA, lexO, List.getElem?_toArray, hl, ih]
  | alt t u iht ihu =>
    funext a w
    simp only [numbT, lexO, lexA, iht, ihu]

/-- THE REGION, in one walk along a tree of its orders -/
theorem regionA {P : Program} {C : World → Prop} {hs : List Nat} {id : Nat} {l : List Oper} {Q : Exit → Act → World → Prop} {a : Act} {w : World} (T : Tr) (hm : P.follows .mixedOrders = true) (hok : okA hs l.toArray T = true) (hC : C w.drew)
    (h : lexO P l.toArray C hs (fun a w => Q .normal a w) (numbT l T) a w.drew) : (Code.region id l.toArray true).wp P Q a w := by
  refine wp_region_any hm ?_
  simp only [okA, Bool.and_eq_true] at hok
  obtain ⟨⟨o1, o2⟩, o4⟩ := hok
  have o1' : ∀ (j : Nat) (oj : Oper), l.toArray[j]? = some oj → noSel oj = true ∧ (∀ e ∈ oj.after, Region.binds .any e = true → e.on < j) := by
    intro j oj hj
    have hlt : j < l.toArray.size := (Array.getElem?_eq_some_iff.1 hj).1
    have h1 := List.all_eq_true.1 o1 j (List.mem_range.2 hlt)
    simp only [hj, Bool.and_eq_true] at h1
    refine ⟨h1.1, fun e he hb => ?_⟩
    have := Array.all_eq_true'.1 h1.2 e he
    simpa [hb] using this
  have o2' : ∀ L ∈ paths T, L.Pairwise (fun a b => relA l.toArray hs (masks l.toArray.toList []) a b = true) ∧ L.length = l.toArray.size ∧ (∀ i ∈ L, i < l.toArray.size) ∧ L.Nodup := by
    intro L hL
    have h1 := List.all_eq_true.1 o2 L hL
    simp only [Bool.and_eq_true, decide_eq_true_eq] at h1
    obtain ⟨⟨⟨h1, h2⟩, h3⟩, h4⟩ := h1
    exact ⟨pw_iff h1, h2, fun i hi => by simpa using List.all_eq_true.1 h3 i hi, (pw_iff h4).imp (by simp)⟩
  rw [lexA_of_lexO] at h
  refine anyA (hs := hs) (C := C) ?_ ?_ _ T l.toArray.size _ a _ hC ?_ o4 ?_ ?_ (by simp) h
  · intro j o cs b hj he
    have := (o1' j o hj).1
    simp [noSel, he] at this
  · intro k o hk e he hb
    have h1 := (o1' k o hk).2 e he hb
    have hlt : k < l.toArray.size := (Array.getElem?_eq_some_iff.1 hk).1
    exact ⟨by omega, by omega⟩
  · intro L hL
    obtain ⟨h1, h2, h3, h4⟩ := o2' L hL
    refine ⟨by simpa using h2, h4, fun i => ⟨fun hi => ?_, fun ⟨hi, _⟩ => ?_⟩, h1⟩
    · have := h3 i hi
      refine ⟨this, ?_⟩
      have this' : i < l.length := by simpa using this
      simp [Array.getD_eq_getD_getElem?, this']
    · exact perm_mem h4 h2 h3 hi
  · intro L hL
    obtain ⟨_, h2, _, _⟩ := o2' L hL
    exact Nat.le_trans (List.length_filter_le _ _) (by omega)
  · intro j o ho hl
    simp [Array.getD_eq_getD_getElem?, Array.getElem?_replicate] at hl
    split at hl <;> simp at hl

section
variable {P : Program} {ops : Array Oper} {C : World → Prop} {hs : List Nat} {Q : Act → World → Prop} {k : Nat} {o : Oper} {r r' : TrO} {a : Act} {w : World}
theorem lexO_done (h : Q a w) : lexO P ops C hs Q .done a w := h
theorem lexO_alt (h : lexO P ops C hs Q r a w) (h' : lexO P ops C hs Q r' a w) : lexO P ops C hs Q (.alt r r') a w := ⟨h, h'⟩
theorem lexO_no (hw : Region.wanted o (yielded ops a.tmps) = false) (h : ∀ K : Act → Prop, (∀ a', lexO P ops C hs Q r a' w → K a') → K (a.put o.dst undef)) : lexO P ops C hs Q (.op k o r) a w := by
  unfold lexO
  simp only [step, hw, Bool.false_eq_true, if_false]
  exact h _ fun _ h => h
theorem lexO_pure {v : Value} (hk : kind hs k o = 0) (hw : Region.wanted o (yielded ops a.tmps) = true) (hr : ∀ w', C w' → (execOp a.eval o).run P w' = .ok (.value v) w')
    (h : ∀ K : Act → Prop, (∀ a', lexO P ops C hs Q r a' w → K a') → K (a.put o.dst v)) : lexO P ops C hs Q (.op k o r) a w := by
  unfold lexO
  simp only [step, hw, if_true]
  exact .inl ⟨hk, v, hr, h _ fun _ h => h⟩
theorem lexO_read {v : Value} (hk : kind hs k o = 1) (hw : Region.wanted o (yielded ops a.tmps) = true) (hr : (execOp a.eval o).run P w = .ok (.value v) w)
    (h : ∀ K : Act → Prop, (∀ a', lexO P ops C hs Q r a' w → K a') → K (a.put o.dst v)) : lexO P ops C hs Q (.op k o r) a w := by
  unfold lexO
  simp only [step, hw, if_true]
  exact .inr (.inl ⟨hk, v, hr, h _ fun _ h => h⟩)
theorem lexO_eff (hk : kind hs k o = 2) (hw : Region.wanted o (yielded ops a.tmps) = true)
    (h : ∀ K : Act → World → Prop, (∀ a' w', C w' → lexO P ops C hs Q r a' w' → K a' w') → o.wp P a w K NoQ) : lexO P ops C hs Q (.op k o r) a w := by
  unfold lexO
  simp only [step, hw, if_true]
  exact .inr (.inr ⟨hk, h _ fun _ _ h1 h2 => ⟨h1, h2⟩⟩)
end
end Lx
end Go.Proofs.YtpdhelhngdeoeaaDoor

/- How arguments that came in read: numbers, slices of numbers, slices of structs. Nothing of the program is named here. -/
namespace Go.Proofs.YtpdhelhngdeoeaaDoor
open Go.RowKit Go.ChangeShapes Go.WideShapes Go.ChangeAt Go.Deep

theorem i64_of_wf {n : Int} (h : (Lit.int .i64 n).wf = true) : I64 n := by
  have := bounds_i64 h
  unfold I64; omega

theorem lt_of_cell {w : World} {a : Addr} {v : Value} (h : w.cell? a = some v) : a.block < w.heap.size ∧ a.spot = none := by
  unfold World.cell? at h
  split at h
  · rename_i c e f hh
    refine ⟨?_, ?_⟩
    · rcases Nat.lt_or_ge a.block w.heap.size with h1 | h1
      · exact h1
      · rw [Array.getElem?_eq_none h1] at hh; cases hh
    · split at h
      · cases h
      · rename_i hs; simpa using hs
  · cases h

section
variable {H : Type} {enc : TypeId × Value → H} {P : Program} {w : World} {base b0 : Nat} {spare : Nat → Bool} {held : Bool} {r : Reach}

theorem arg_int {t : TypeId} {v : Value} {d : DataW H} {p : List MemPlace} (ht : P.underlying t = some (.int .i64)) (hv : Value.okWide P w r b0 t v) (h : DataW.Trod enc P w base spare held t v d p) :
    ∃ a, v = .int .i64 a ∧ I64 a := by
  obtain ⟨a, rfl, _, _, wa⟩ := open_int ht hv h
  exact ⟨a, rfl, i64_of_wf wa⟩

theorem ints_of_trod {t e : TypeId} {fuel : Nat} {A : Option Addr} {n c : Nat} {x : DataW H × List MemPlace} (ht : P.underlying t = some (.slice e)) (he : P.underlying e = some (.int .i64)) (hc : P.cellsOf e = 1)
    (hf : DataW.trod enc P w base spare held fuel t [.slice A n c] = some x) : ∃ xs : List Int, Row1 (fun z => .int .i64 z) w w.heap.size A n xs ∧ (∀ z ∈ xs, I64 z) ∧ n ≤ 9223372036854775807 := by
  rcases open_ints ht he hc hf with ⟨hcs, _⟩ | ⟨x, l, c', zs, hcs, _, hl, hm, hz, _, hcell, hwz⟩
  · simp at hcs
    obtain ⟨rfl, rfl, rfl⟩ := hcs
    exact ⟨[], Row1.nil _ _ _ _, (fun _ h => by cases h), by omega⟩
  · simp at hcs
    obtain ⟨rfl, rfl, rfl⟩ := hcs
    have hzl : n ≤ zs.length := by rw [hz]; split <;> omega
    refine ⟨zs.take n, ⟨by rw [List.length_take]; omega, fun hn => ?_⟩, fun z h => i64_of_wf (hwz z (List.mem_of_mem_take h)), by unfold maxLen at hm; omega⟩
    have h0 := hcell 0 (by omega)
    obtain ⟨hlt, hsp⟩ := lt_of_cell h0
    obtain ⟨b, off, spot⟩ := x
    simp only [Addr.add, if_true] at hlt hsp
    subst hsp
    refine ⟨b, off, rfl, hlt, fun k z hk => ?_⟩
    have hkn : k < n := by
      have := (List.getElem?_eq_some_iff.1 hk).1
      rw [List.length_take] at this
      omega
    have h1 := hcell k (by omega)
    rw [List.getElem?_take_of_lt hkn] at hk
    rw [List.getD_eq_getElem?_getD, hk] at h1
    by_cases hk0 : k = 0
    · subst hk0
      simpa [Addr.add] using h1
    · simpa [Addr.add, hk0] using h1

theorem arg_ints {t e : TypeId} {v : Value} {d : DataW H} {p : List MemPlace} (ht : P.underlying t = some (.slice e)) (he : P.underlying e = some (.int .i64)) (hc : P.cellsOf e = 1)
    (hv : Value.okWide P w r b0 t v) (h : DataW.Trod enc P w base spare held t v d p) :
    ∃ A n c xs, v = .slice A n c ∧ Row1 (fun z => .int .i64 z) w w.heap.size A n xs ∧ (∀ z ∈ xs, I64 z) ∧ n ≤ 9223372036854775807 := by
  obtain ⟨A, n, c, rfl⟩ := okWide_slice ht hv
  obtain ⟨fuel, hf⟩ := h
  obtain ⟨xs, h1, h2, h3⟩ := ints_of_trod ht he hc (by simpa [Value.cells] using hf)
  exact ⟨A, n, c, xs, rfl, h1, h2, h3⟩

theorem choose_fn {β : Type} (d : β) {Q : Nat → β → Prop} {m : Nat} (h : ∀ i, i < m → ∃ b, Q i b) : ∃ G : Nat → β, ∀ i, i < m → Q i (G i) := by
  refine ⟨fun i => if h' : i < m then Classical.choose (h i h') else d, fun i hi => ?_⟩
  dsimp only
  rw [dif_pos hi]
  exact Classical.choose_spec (h i hi)

theorem addr_add (b off : Nat) (k : Nat) : (⟨b, off, none⟩ : Addr).add k = ⟨b, off + k, none⟩ := by
  unfold Addr.add
  by_cases h : k = 0
  · subst h; rfl
  · rw [if_neg h]

/-- a slice whose elements take sz cells each -/
theorem elems_of_trod {t e : TypeId} {fuel sz : Nat} {A : Option Addr} {n c : Nat} {x : DataW H × List MemPlace} (ht : P.underlying t = some (.slice e)) (hC : P.cellsOf e = sz) (hsz : 0 < sz)
    (hf : DataW.trod enc P w base spare held fuel t [.slice A n c] = some x) :
    n ≤ 9223372036854775807 ∧ ∃ (G : Nat → List Value) (m : Nat), (∀ i, i < n → (G i).length = sz ∧ ∃ y, DataW.trod enc P w base spare held m e (G i) = some y) ∧
      (0 < n → ∃ b off, A = some ⟨b, off, none⟩ ∧ b < w.heap.size ∧ ∀ i, i < n → ∀ j, j < sz → w.cell? ⟨b, off + i * sz + j, none⟩ = (G i)[j]?) := by
  rcases open_slice ht hf with ⟨hcs, _⟩ | ⟨a, len, cap, m, fu, D, Pl, hcs, _, hl, hm, hmm, _, hi⟩
  · simp at hcs
    obtain ⟨rfl, rfl, rfl⟩ := hcs
    exact ⟨by omega, fun _ => [], 0, fun i h => absurd h (by omega), fun h => absurd h (by omega)⟩
  · simp at hcs
    obtain ⟨rfl, rfl, rfl⟩ := hcs
    have hnm : n ≤ m := by rw [hmm]; split <;> omega
    rw [hC] at hi
    obtain ⟨G, hG⟩ := choose_fn [] hi
    refine ⟨by unfold maxLen at hm; omega, G, fu, fun i hin => ?_, fun hn => ?_⟩
    · obtain ⟨h1, h2⟩ := hG i (by omega)
      exact ⟨(World.cells?_some h1).2.1, _, h2⟩
    · have h0 := hG 0 (by omega)
      obtain ⟨_, hlen, hat⟩ := World.cells?_some h0.1
      have hc0 := hat 0 hsz
      rw [List.getElem?_eq_getElem (by omega)] at hc0
      obtain ⟨hlt, hsp⟩ := lt_of_cell hc0
      obtain ⟨b, off, spot⟩ := a
      simp only [Addr.add, Nat.zero_mul, if_true] at hlt hsp
      subst hsp
      refine ⟨b, off, rfl, hlt, fun i hin j hj => ?_⟩
      have h2 := (World.cells?_some (hG i (by omega)).1).2.2 j hj
      rw [addr_add, addr_add] at h2
      exact h2

theorem rowS_of_elems {α : Type} {sz n : Nat} {A : Option Addr} (f : α → Nat → Value) (Pr : α → Prop) (G : Nat → List Value) (hG : ∀ i, i < n → ∃ a, Pr a ∧ ∀ j, j < sz → (G i)[j]? = some (f a j))
    (hA : 0 < n → ∃ b off, A = some ⟨b, off, none⟩ ∧ b < w.heap.size ∧ ∀ i, i < n → ∀ j, j < sz → w.cell? ⟨b, off + i * sz + j, none⟩ = (G i)[j]?) :
    ∃ xs : List α, RowS sz f w w.heap.size A n xs ∧ ∀ a ∈ xs, Pr a := by
  refine ⟨List.ofFn fun i : Fin n => Classical.choose (hG i.1 i.2), ⟨by simp, fun hn => ?_⟩, fun a ha => ?_⟩
  · obtain ⟨b, off, h1, h2, h3⟩ := hA hn
    refine ⟨b, off, h1, h2, fun k x hx j hj => ?_⟩
    have hk : k < n := by have := (List.getElem?_eq_some_iff.1 hx).1; simpa using this
    rw [List.getElem?_ofFn, dif_pos hk] at hx
    injection hx with hx
    rw [h3 k hk j hj, ← hx]
    exact (Classical.choose_spec (hG k hk)).2 j hj
  · obtain ⟨i, rfl⟩ := List.mem_ofFn.1 ha
    exact (Classical.choose_spec (hG i.1 i.2)).1

def isI64 (d : Option TypeDesc) : Bool := match d with | some (.int .i64) => true | _ => false
theorem isI64_spec {d : Option TypeDesc} (h : isI64 d = true) : d = some (.int .i64) := by
  unfold isI64 at h
  split at h
  · rfl
  · cases h

/-- a struct whose first m fields are ints -/
theorem fields_of_trod {e : TypeId} {fs : Array Field} {fuel : Nat} {cs : List Value} {y : DataW H × List MemPlace} (he : P.underlying e = some (.struct fs)) (hone : oneCellFields P fs = true) (hC : P.cellsOf e = fs.size)
    (h : DataW.trod enc P w base spare held fuel e cs = some y) : ∃ m, ∀ (j : Nat) (f : Field), fs[j]? = some f → ∃ v z, cs[j]? = some v ∧ DataW.trod enc P w base spare held m f.type [v] = some z := by
  obtain ⟨ys, m, _, _, hlen, hyl, hf⟩ := DataW.trod_struct he h
  refine ⟨m, fun j f hj => ?_⟩
  obtain ⟨ho, hk⟩ := hone_of hone j f hj
  have hjl : j < fs.size := (Array.getElem?_eq_some_iff.1 hj).1
  have hjc : j < cs.length := by omega
  have h1 := hf j f hj
  rw [ho, hk] at h1
  have h2 : (cs.drop j).take 1 = [cs[j]] := by
    rw [List.drop_eq_getElem_cons hjc]; rfl
  rw [h2, List.getElem?_eq_getElem (by omega)] at h1
  exact ⟨_, _, List.getElem?_eq_getElem hjc, h1⟩

/-- a struct of ints -/
theorem ints_of_struct {e : TypeId} {fs : Array Field} {fuel : Nat} {cs : List Value} {y : DataW H × List MemPlace} (he : P.underlying e = some (.struct fs)) (hone : oneCellFields P fs = true) (hC : P.cellsOf e = fs.size)
    (hint : (fs.all fun f => isI64 (P.underlying f.type)) = true) (h : DataW.trod enc P w base spare held fuel e cs = some y) :
    ∃ g : Nat → Int, ∀ j, j < fs.size → cs[j]? = some (.int .i64 (g j)) ∧ I64 (g j) := by
  obtain ⟨m, hm⟩ := fields_of_trod he hone hC h
  have key : ∀ j, j < fs.size → ∃ z, cs[j]? = some (.int .i64 z) ∧ I64 z := by
    intro j hj
    obtain ⟨v, z, h1, h2⟩ := hm j fs[j] (Array.getElem?_eq_getElem hj)
    have h3 := isI64_spec (Array.all_eq_true.1 hint j hj)
    obtain ⟨q, hq, _, hw⟩ := DataW.trod_int h3 h2
    simp at hq
    subst hq
    exact ⟨q, h1, i64_of_wf hw⟩
  exact choose_fn 0 key
end
end Go.Proofs.YtpdhelhngdeoeaaDoor

/- How lists of bands or domains, constraints, a problem and choices that came in read. -/
namespace Go.Proofs.YtpdhelhngdeoeaaDoor
open Go.RowKit Go.ChangeShapes Go.WideShapes Go.ChangeAt Go.Deep Go.Joins

section
variable {H : Type} {enc : TypeId × Value → H} {w : World} {base b0 : Nat} {spare : Nat → Bool} {held : Bool} {r : Reach}

/-- a choice: a station and a channel -/
def chC (x : Int × Int) : Nat → Value
  | 0 => .int .i64 x.1
  | _ => .int .i64 x.2
theorem rowS_up {α : Type} {sz : Nat} {f : α → Nat → Value} {W : World} {B : Nat} {A : Option Addr} {n : Nat} {xs : List α} (h : RowS sz f W B A n xs) : RowS sz f W B A n xs := h

theorem bands_cells {fuel : Nat} {cs : List Value} {y : DataW H × List MemPlace} (h : DataW.trod enc Tryd.prog w base spare held fuel 62 cs = some y) :
    ∃ b : Dom, (∀ j, j < 2 → cs[j]? = some (b.cell j)) ∧ Row1 intV w w.heap.size b.adr b.len b.chs ∧ b.len ≤ 9223372036854775807 := by
  obtain ⟨m, hm⟩ := fields_of_trod Tryd.underlying62 (by kernel_rfl) (by kernel_rfl) h
  obtain ⟨v0, z0, c0, t0⟩ := hm 0 _ rfl
  obtain ⟨v3, z3, c3, t3⟩ := hm 1 _ rfl
  obtain ⟨a0, e0, _, _⟩ := DataW.trod_int Tryd.underlying3 t0
  obtain ⟨A, n, c, e3⟩ := slice_form Tryd.underlying34 t3
  simp at e0 e3
  subst e0 e3
  obtain ⟨xs, hr, _, hn⟩ := ints_of_trod Tryd.underlying34 Tryd.underlying3 (by kernel_rfl) t3
  refine ⟨⟨a0, A, n, c, xs⟩, fun j hj => ?_, hr, hn⟩
  match j, hj with
  | 0, _ => exact c0
  | 1, _ => exact c3
theorem bands_of_trod {fuel : Nat} {A : Option Addr} {n c : Nat} {x : DataW H × List MemPlace} (hf : DataW.trod enc Tryd.prog w base spare held fuel 47 [.slice A n c] = some x) :
    n ≤ 9223372036854775807 ∧ ∃ ds : List Dom, DomsAt w w.heap.size A n ds := by
  obtain ⟨hn, G, m, h1, h2⟩ := elems_of_trod (sz := 2) Tryd.underlying47 (by kernel_rfl) (by omega) hf
  obtain ⟨xs, hx, hp⟩ := rowS_of_elems (w := w) (A := A) Dom.cell (fun b => Row1 intV w w.heap.size b.adr b.len b.chs) G (fun i hi => by
    obtain ⟨_, y, hy⟩ := h1 i hi
    obtain ⟨b, h3, h4, _⟩ := bands_cells hy
    exact ⟨b, h4, h3⟩) h2
  exact ⟨hn, xs, hx, hp⟩
set_option maxRecDepth 100000 in
theorem arg_bands {v : Value} {d : DataW H} {p : List MemPlace} (hv : Value.okWide Tryd.prog w r b0 47 v) (h : DataW.Trod enc Tryd.prog w base spare held 47 v d p) :
    ∃ A n c ds, v = .slice A n c ∧ DomsAt w w.heap.size A n ds ∧ n ≤ 9223372036854775807 := by
  obtain ⟨A, n, c, rfl⟩ := okWide_slice Tryd.underlying47 hv
  obtain ⟨fuel, hf⟩ := h
  obtain ⟨hn, ds, hd⟩ := bands_of_trod (by simpa [Value.cells] using hf)
  exact ⟨A, n, c, ds, rfl, hd, hn⟩

theorem doms_cells {fuel : Nat} {cs : List Value} {y : DataW H × List MemPlace} (h : DataW.trod enc Tryd.prog w base spare held fuel 65 cs = some y) :
    ∃ b : Dom, (∀ j, j < 2 → cs[j]? = some (b.cell j)) ∧ Row1 intV w w.heap.size b.adr b.len b.chs ∧ b.len ≤ 9223372036854775807 := by
  obtain ⟨m, hm⟩ := fields_of_trod Tryd.underlying65 (by kernel_rfl) (by kernel_rfl) h
  obtain ⟨v0, z0, c0, t0⟩ := hm 0 _ rfl
  obtain ⟨v3, z3, c3, t3⟩ := hm 1 _ rfl
  obtain ⟨a0, e0, _, _⟩ := DataW.trod_int Tryd.underlying3 t0
  obtain ⟨A, n, c, e3⟩ := slice_form Tryd.underlying34 t3
  simp at e0 e3
  subst e0 e3
  obtain ⟨xs, hr, _, hn⟩ := ints_of_trod Tryd.underlying34 Tryd.underlying3 (by kernel_rfl) t3
  refine ⟨⟨a0, A, n, c, xs⟩, fun j hj => ?_, hr, hn⟩
  match j, hj with
  | 0, _ => exact c0
  | 1, _ => exact c3
theorem doms_of_trod {fuel : Nat} {A : Option Addr} {n c : Nat} {x : DataW H × List MemPlace} (hf : DataW.trod enc Tryd.prog w base spare held fuel 22 [.slice A n c] = some x) :
    n ≤ 9223372036854775807 ∧ ∃ ds : List Dom, DomsAt w w.heap.size A n ds := by
  obtain ⟨hn, G, m, h1, h2⟩ := elems_of_trod (sz := 2) Tryd.underlying22 (by kernel_rfl) (by omega) hf
  obtain ⟨xs, hx, hp⟩ := rowS_of_elems (w := w) (A := A) Dom.cell (fun b => Row1 intV w w.heap.size b.adr b.len b.chs) G (fun i hi => by
    obtain ⟨_, y, hy⟩ := h1 i hi
    obtain ⟨b, h3, h4, _⟩ := doms_cells hy
    exact ⟨b, h4, h3⟩) h2
  exact ⟨hn, xs, hx, hp⟩
set_option maxRecDepth 100000 in
theorem arg_doms {v : Value} {d : DataW H} {p : List MemPlace} (hv : Value.okWide Tryd.prog w r b0 22 v) (h : DataW.Trod enc Tryd.prog w base spare held 22 v d p) :
    ∃ A n c ds, v = .slice A n c ∧ DomsAt w w.heap.size A n ds ∧ n ≤ 9223372036854775807 := by
  obtain ⟨A, n, c, rfl⟩ := okWide_slice Tryd.underlying22 hv
  obtain ⟨fuel, hf⟩ := h
  obtain ⟨hn, ds, hd⟩ := doms_of_trod (by simpa [Value.cells] using hf)
  exact ⟨A, n, c, ds, rfl, hd, hn⟩

theorem pairs_of_trod {fuel : Nat} {A : Option Addr} {n c : Nat} {x : DataW H × List MemPlace} (hf : DataW.trod enc Tryd.prog w base spare held fuel 23 [.slice A n c] = some x) :
    n ≤ 9223372036854775807 ∧ ∃ xs : List R5, RowS 5 R5.cell w w.heap.size A n xs := by
  obtain ⟨hn, G, m, h1, h2⟩ := elems_of_trod (sz := 5) Tryd.underlying23 (by kernel_rfl) (by omega) hf
  refine ⟨hn, ?_⟩
  obtain ⟨xs, hx, _⟩ := rowS_of_elems (w := w) (A := A) R5.cell (fun _ => True) G (fun i hi => by
    obtain ⟨_, y, hy⟩ := h1 i hi
    obtain ⟨g, hg⟩ := ints_of_struct Tryd.underlying73 (by kernel_rfl) (by kernel_rfl) (by kernel_rfl) hy
    refine ⟨⟨g 0, g 1, g 2, g 3, g 4⟩, trivial, fun j hj => ?_⟩
    have := (hg j hj).1
    match j, hj with
    | 0, _ => exact this
    | 1, _ => exact this
    | 2, _ => exact this
    | 3, _ => exact this
    | 4, _ => exact this) h2
  exact ⟨xs, hx⟩

theorem loads_of_trod {fuel : Nat} {A : Option Addr} {n c : Nat} {x : DataW H × List MemPlace} (hf : DataW.trod enc Tryd.prog w base spare held fuel 24 [.slice A n c] = some x) :
    n ≤ 9223372036854775807 ∧ ∃ xs : List R5, RowS 5 R5.cell w w.heap.size A n xs := by
  obtain ⟨hn, G, m, h1, h2⟩ := elems_of_trod (sz := 5) Tryd.underlying24 (by kernel_rfl) (by omega) hf
  refine ⟨hn, ?_⟩
  obtain ⟨xs, hx, _⟩ := rowS_of_elems (w := w) (A := A) R5.cell (fun _ => True) G (fun i hi => by
    obtain ⟨_, y, hy⟩ := h1 i hi
    obtain ⟨g, hg⟩ := ints_of_struct Tryd.underlying77 (by kernel_rfl) (by kernel_rfl) (by kernel_rfl) hy
    refine ⟨⟨g 0, g 1, g 2, g 3, g 4⟩, trivial, fun j hj => ?_⟩
    have := (hg j hj).1
    match j, hj with
    | 0, _ => exact this
    | 1, _ => exact this
    | 2, _ => exact this
    | 3, _ => exact this
    | 4, _ => exact this) h2
  exact ⟨xs, hx⟩

theorem caps_of_trod {fuel : Nat} {A : Option Addr} {n c : Nat} {x : DataW H × List MemPlace} (hf : DataW.trod enc Tryd.prog w base spare held fuel 25 [.slice A n c] = some x) :
    n ≤ 9223372036854775807 ∧ ∃ xs : List R4, RowS 4 R4.cell w w.heap.size A n xs := by
  obtain ⟨hn, G, m, h1, h2⟩ := elems_of_trod (sz := 4) Tryd.underlying25 (by kernel_rfl) (by omega) hf
  refine ⟨hn, ?_⟩
  obtain ⟨xs, hx, _⟩ := rowS_of_elems (w := w) (A := A) R4.cell (fun _ => True) G (fun i hi => by
    obtain ⟨_, y, hy⟩ := h1 i hi
    obtain ⟨g, hg⟩ := ints_of_struct Tryd.underlying79 (by kernel_rfl) (by kernel_rfl) (by kernel_rfl) hy
    refine ⟨⟨g 0, g 1, g 2, g 3⟩, trivial, fun j hj => ?_⟩
    have := (hg j hj).1
    match j, hj with
    | 0, _ => exact this
    | 1, _ => exact this
    | 2, _ => exact this
    | 3, _ => exact this) h2
  exact ⟨xs, hx⟩

theorem agg_of {cs : Array Value} {k : Nat} {f : Nat → Value} (hs : cs.size = k) (h : ∀ j, j < k → cs.toList[j]? = some (f j)) : cs = ((List.range k).map f).toArray := by
  apply Array.ext_getElem?
  intro j
  by_cases hj : j < k
  · have := h j hj
    simp at this
    rw [this]
    simp [hj]
  · rw [Array.getElem?_eq_none (by omega), Array.getElem?_eq_none (by simp; omega)]
/-- three cells that read as constraints -/
theorem rul_cells {fuel : Nat} {cs : List Value} {y : DataW H × List MemPlace} (h : DataW.trod enc Tryd.prog w base spare held fuel 27 cs = some y) :
    ∃ (s : RulS) (x : Rul), cs[0]? = some (.slice s.a0 s.n0 s.c0) ∧ cs[1]? = some (.slice s.a1 s.n1 s.c1) ∧ cs[2]? = some (.slice s.a2 s.n2 s.c2) ∧ RulAt w w.heap.size s x := by
  obtain ⟨m, hm⟩ := fields_of_trod Tryd.underlying27 (by kernel_rfl) (by kernel_rfl) h
  obtain ⟨v0, z0, c0, t0⟩ := hm 0 _ rfl
  obtain ⟨v1, z1, c1, t1⟩ := hm 1 _ rfl
  obtain ⟨v2, z2, c2, t2⟩ := hm 2 _ rfl
  obtain ⟨A0, n0, k0, e0⟩ := slice_form Tryd.underlying23 t0
  obtain ⟨A1, n1, k1, e1⟩ := slice_form Tryd.underlying24 t1
  obtain ⟨A2, n2, k2, e2⟩ := slice_form Tryd.underlying25 t2
  simp at e0 e1 e2
  subst e0 e1 e2
  obtain ⟨l0, x0, r0⟩ := pairs_of_trod t0
  obtain ⟨l1, x1, r1⟩ := loads_of_trod t1
  obtain ⟨l2, x2, r2⟩ := caps_of_trod t2
  exact ⟨⟨A0, n0, k0, A1, n1, k1, A2, n2, k2⟩, ⟨x0, x1, x2⟩, c0, c1, c2, r0, r1, r2, l0, l1, l2⟩
set_option maxRecDepth 100000 in
theorem arg_rul {v : Value} {d : DataW H} {p : List MemPlace} (hv : Value.okWide Tryd.prog w r b0 27 v) (h : DataW.Trod enc Tryd.prog w base spare held 27 v d p) :
    ∃ (s : RulS) (x : Rul), v = s.val ∧ RulAt w w.heap.size s x := by
  obtain ⟨cs, rfl, hsz⟩ := okWide_struct Tryd.underlying27 hv
  obtain ⟨fuel, hf⟩ := h
  obtain ⟨s, x, h0, h1, h2, h3⟩ := rul_cells (by simpa [Value.cells] using hf)
  refine ⟨s, x, ?_, h3⟩
  unfold RulS.val
  congr 1
  have hs3 : cs.size = 3 := hsz.trans (by kernel_rfl)
  simp at h0 h1 h2
  apply Array.ext_getElem?
  intro j
  match j with
  | 0 => exact h0
  | 1 => exact h1
  | 2 => exact h2
  | j + 3 => rw [Array.getElem?_eq_none (by omega), Array.getElem?_eq_none (by simp)]
set_option maxRecDepth 100000 in
theorem arg_prb {v : Value} {d : DataW H} {p : List MemPlace} (hv : Value.okWide Tryd.prog w r b0 29 v) (h : DataW.Trod enc Tryd.prog w base spare held 29 v d p) :
    ∃ (s : PrbS) (ds : List Dom) (x : Rul), v = s.val ∧ PrbAt w w.heap.size s ds x ∧ s.nd ≤ 9223372036854775807 := by
  obtain ⟨cs, rfl, hsz⟩ := okWide_struct Tryd.underlying29 hv
  obtain ⟨fuel, hf⟩ := h
  have hs4 : cs.size = 4 := hsz.trans (by kernel_rfl)
  have hf2 : DataW.trod enc Tryd.prog w base spare held fuel 29 cs.toList = some (d, p) := by simpa [Value.cells] using hf
  obtain ⟨xs, m, _, _, hlen, hxl, hg⟩ := DataW.trod_struct Tryd.underlying29 hf2
  have hxl' : xs.length = 2 := hxl
  obtain ⟨l, hl⟩ : ∃ l, l = cs.toList := ⟨_, rfl⟩
  have hll : l.length = 4 := by rw [hl]; simpa using hs4
  rw [← hl] at hg hf2
  match l, hll with
  | [a, b, c, e], _ =>
    have h0 : DataW.trod enc Tryd.prog w base spare held m 22 (List.take (Tryd.prog.cellsOf 22) (List.drop 0 [a, b, c, e])) = xs[0]? := hg 0 _ rfl
    have h1 : DataW.trod enc Tryd.prog w base spare held m 27 (List.take (Tryd.prog.cellsOf 27) (List.drop 1 [a, b, c, e])) = xs[1]? := hg 1 _ rfl
    rw [List.getElem?_eq_getElem (by omega)] at h0 h1
    rw [show Tryd.prog.cellsOf 22 = 1 from by kernel_rfl] at h0
    rw [show Tryd.prog.cellsOf 27 = 3 from by kernel_rfl] at h1
    have h0' : DataW.trod enc Tryd.prog w base spare held m 22 [a] = some xs[0] := h0
    have h1' : DataW.trod enc Tryd.prog w base spare held m 27 [b, c, e] = some xs[1] := h1
    obtain ⟨A, n, k, ea⟩ := slice_form Tryd.underlying22 h0'
    simp at ea
    subst ea
    obtain ⟨hn, ds, hd⟩ := doms_of_trod h0'
    obtain ⟨s, x, e0, e1, e2, h3⟩ := rul_cells h1'
    simp at e0 e1 e2
    subst e0 e1 e2
    refine ⟨⟨A, n, k, s⟩, ds, x, ?_, ⟨hd, h3⟩, hn⟩
    unfold PrbS.val
    congr 1
    rw [← Array.toArray_toList (xs := cs), ← hl]

set_option maxRecDepth 100000 in
theorem arg_chos {v : Value} {d : DataW H} {p : List MemPlace} (hv : Value.okWide Tryd.prog w r b0 48 v) (h : DataW.Trod enc Tryd.prog w base spare held 48 v d p) :
    ∃ A n c xs, v = .slice A n c ∧ RowS 2 chC w w.heap.size A n xs ∧ n ≤ 9223372036854775807 := by
  obtain ⟨A, n, c, rfl⟩ := okWide_slice Tryd.underlying48 hv
  obtain ⟨fuel, hf⟩ := h
  obtain ⟨hn, G, m, h1, h2⟩ := elems_of_trod (sz := 2) Tryd.underlying48 (by kernel_rfl) (by omega) (by simpa [Value.cells] using hf)
  obtain ⟨xs, hx, _⟩ := rowS_of_elems (w := w) (A := A) chC (fun _ => True) G (fun i hi => by
    obtain ⟨_, y, hy⟩ := h1 i hi
    obtain ⟨g, hg⟩ := ints_of_struct Tryd.underlying59 (by kernel_rfl) (by kernel_rfl) (by kernel_rfl) hy
    refine ⟨(g 0, g 1), trivial, fun j hj => ?_⟩
    have := (hg j hj).1
    match j, hj with
    | 0, _ => exact this
    | 1, _ => exact this) h2
  exact ⟨A, n, c, xs, rfl, hx, hn⟩
end
end Go.Proofs.YtpdhelhngdeoeaaDoor

namespace Go.Proofs.YtpdhelhngdeoeaaDoor
open Go.RowKit Go.ChangeShapes Go.WideShapes Go.ChangeAt Go.Deep Go.Joins

theorem own : ownKnob Tryd.prog.godebug = none := by kernel_rfl
theorem laidOut : laidOutB Tryd.prog = true := by kernel_rfl
def laid07 : List (String × DataW Unit) := [("math/bits.deBruijn64tab", Rows.laid_math_bits_deBruijn64tab)]
theorem laidHold (os : Os) (args : Array Value) : laidMetH Tryd.prog laid07 ((World.laidAll Tryd.prog os laid07).forCall (fun _ _ => 0) ⟨#[], args, []⟩).memory := by
  rw [MakeChecks.laidMetH_plain _ _ _ (by kernel_rfl)]
  exact laidMet_laidAll _ (by kernel_rfl) (by kernel_rfl)

section
variable {H : Type} {enc : TypeId × Value → H}
/-- a row that lists variables: the contract is handed what they hold and the world's shape -/
theorem handed_laid {a : Assume} {C : Checked} {os : Os} {f : FuncId} {fn : Func} {s : ChangeSpec} {conds : List PathCond} {apart fresh handsOn again : Bool} {laid : List (String × DataW Unit)}
    (hown : ownKnob C.prog.godebug = none) (started : os.Started) (noInit : C.prog.inits.idxOf? f = none) (hfn : C.prog.funcs[f]? = some fn)
    (witness : ∃ (w : World) (tape : Tape) (i : Input), w.os = os ∧ (w.forCall tape i).Shaped C.prog ∧ i.vars = [] ∧ Input.okWide C.prog (w.forCall tape i) .any w.heap.size f i ∧
      ((s.pre enc C.prog fn conds apart (w.forCall tape i).memory i.args ∧ laidMetH C.prog laid (w.forCall tape i).memory) ∧ sizedMet enc C.prog fn (OpenSpec.ofChange s) apart (w.forCall tape i).memory i.args) ∧ a.holds C.prog (lone (Frame.enter C.prog f i.args .normal) [] (w.forCall tape i)))
    (contract : ∀ (W : World) (base : Nat) (args : Array Value) (ds gs : List (DataW H)) (before : List MemPlace),
      (∀ (j : Nat) t v, fn.params[j]? = some t → args[j]? = some v → Value.okWide C.prog W .any base t v) →
      DataW.Whole enc C.prog fn.params.toList s.vars apart W args.toList ds gs before →
      laidMetH C.prog laid W → W.ShapedOpen C.prog →
      Calls C.prog f args W fun e W' => ∃ v, e = .returned v ∧ s.post enc C.prog fn apart fresh handsOn again W args v W') :
    ReturnsInHanded a C os f .any (fun w args => (s.pre enc C.prog fn conds apart w args ∧ laidMetH C.prog laid w) ∧ sizedMet enc C.prog fn (OpenSpec.ofChange s) apart w args) (s.post enc C.prog fn apart fresh handsOn again) := by
  refine returnsInHanded_of_calls hown started noInit witness ?_
  intro w tape i _ hsh _ hok hpre _
  obtain ⟨_, _, _, fn', hfn', _, _, _, _, hval⟩ := hok
  obtain rfl : fn' = fn := Option.some.inj (hfn'.symm.trans hfn)
  obtain ⟨⟨⟨ds, gs, before, hw, _⟩, hx⟩, _⟩ := hpre
  refine (contract (w.forCall tape i) w.heap.size i.args ds gs before hval (DataW.Whole.of_heap (w' := w.forCall tape i) (by rfl) hw) (hx.of_heap (by rfl)) hsh).mono fun e W' ⟨v, he, hp⟩ => ?_
  subst he
  exact ChangeSpec.post_blind hp
end

theorem tab_of {W : World} (hL : laidMetH Tryd.prog laid07 W) (_ : W.ShapedOpen Tryd.prog) : Tab W := by
  rw [MakeChecks.laidMetH_plain _ _ _ (by kernel_rfl)] at hL
  have h2 : laidMet Tryd.prog (("math/bits.deBruijn64tab", Lib.tabData .u8 (Lib.deBruijn64tab.map fun n : Nat => (n : Int))) :: []) W := hL
  have t2 := Lib.tabIs_of_head (g := 0) (t := 150) (e := 5) (n := 64) (by kernel_rfl) (by kernel_rfl) (by kernel_rfl) (by kernel_rfl) (by kernel_rfl) (by kernel_rfl) h2
  have c1 := t2.cell (g := 0) (by kernel_rfl) 0 (by decide)
  have hsz : 0 < W.heap.size := (lt_of_cell c1).1
  refine ⟨by omega, fun j hj => ?_⟩
  have c2 := t2.cell (g := 0) (by kernel_rfl) j (by exact hj)
  rw [c2]
  congr 2
  rw [List.getD_eq_getElem?_getD, List.getElem?_map, List.getD_eq_getElem?_getD]
  cases Lib.deBruijn64tab[j]? <;> rfl
end Go.Proofs.YtpdhelhngdeoeaaDoor
