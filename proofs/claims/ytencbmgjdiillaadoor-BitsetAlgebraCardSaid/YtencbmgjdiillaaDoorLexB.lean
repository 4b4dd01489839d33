/- As XLex, with a fourth kind of operation: a read of what an effect of the same statement has made ('late'; 2000 + i in hs). It stands behind every effect ahead of it in the text, and what it yields stays the same in every world that a later effect can leave (the relation R). Nothing of the program is named here. -/
import Derived.Test.YtencbmgjdiillaaDoorLex
namespace Go.Proofs.YtencbmgjdiillaaDoor
open Go.RowKit

namespace Lb
open Lx (NoQ Same wp_same wp_some wp_put wp_put' wp_noQ same_exec masks Down masks_sound noSel)
/-- as Lx.kind; 3: late. -/
def kind (hs : List Nat) (i : Nat) (o : Oper) : Nat := if hs.contains (2000 + i) then 3 else Lx.kind hs i o

section
variable {P : Program} {ops : Array Oper} {C : World → Prop} {R : World → World → Prop} {hs : List Nat}

/-- one operation in the walk -/
def step (P : Program) (ops : Array Oper) (C : World → Prop) (R : World → World → Prop) (hs : List Nat) (i : Nat) (o : Oper) (K : Act → World → Prop) (a : Act) (w : World) : Prop :=
  if Region.wanted o (yielded ops a.tmps) = true then
    (kind hs i o = 0 ∧ ∃ v, (∀ w', C w' → (execOp a.eval o).run P w' = .ok (.value v) w') ∧ K (a.put o.dst v) w) ∨
    (kind hs i o = 1 ∧ ∃ v, (execOp a.eval o).run P w = .ok (.value v) w ∧ K (a.put o.dst v) w) ∨
    (kind hs i o = 2 ∧ o.wp P a w (fun a' w' => (C w' ∧ R w w') ∧ K a' w') NoQ) ∨
    (kind hs i o = 3 ∧ ∃ v, (∀ w', R w w' → (execOp a.eval o).run P w' = .ok (.value v) w') ∧ K (a.put o.dst v) w)
  else K (a.put o.dst undef) w

theorem step_mono {i : Nat} {o : Oper} {a : Act} {w : World} {K K' : Act → World → Prop} (hr : ∀ w, R w w) (hC : C w) (h : step P ops C R hs i o K a w)
    (hk : ∀ a' w', C w' → R w w' → Same o a a' → K a' w' → K' a' w') : step P ops C R hs i o K' a w := by
  unfold step at *
  split
  · rename_i hw
    rw [if_pos hw] at h
    rcases h with ⟨h0, v, h1, h2⟩ | ⟨h0, v, h1, h2⟩ | ⟨h0, h1⟩ | ⟨h0, v, h1, h2⟩
    · exact .inl ⟨h0, v, h1, hk _ _ hC (hr _) ⟨a.defers, v, rfl⟩ h2⟩
    · exact .inr (.inl ⟨h0, v, h1, hk _ _ hC (hr _) ⟨a.defers, v, rfl⟩ h2⟩)
    · exact .inr (.inr (.inl ⟨h0, Oper.wp_mono (fun a' w' ⟨⟨h1, h2⟩, h3⟩ => ⟨h1, hk _ _ h1.1 h1.2 h3 h2⟩) (wp_same h1)⟩))
    · exact .inr (.inr (.inr ⟨h0, v, h1, hk _ _ hC (hr _) ⟨a.defers, v, rfl⟩ h2⟩))
  · rename_i hw
    rw [if_neg hw] at h
    exact hk _ _ hC (hr _) ⟨a.defers, undef, rfl⟩ h

/-- the operation j in a frame that bears i's value already -/
theorem step_put {j : Nat} {oi oj : Oper} {a : Act} {w : World} {K : Act → World → Prop} {v : Value} (hsj : ∀ cs b, oj.op ≠ .select cs b) (hap : oi.apart ops oj = true)
    (h : step P ops C R hs j oj K (a.put oi.dst v) w) : step P ops C R hs j oj (fun a' w' => K (a'.put oi.dst v) w') a w := by
  obtain ⟨h1, h2, h3⟩ := Oper.apart_spec hap
  unfold step at *
  rw [wanted_put oj a oi.dst v h1, execOp_put oj hsj a oi.dst v h1] at h
  split
  · rename_i hw
    rw [if_pos hw] at h
    rcases h with ⟨h0, u, h4, h5⟩ | ⟨h0, u, h4, h5⟩ | ⟨h0, h4⟩ | ⟨h0, u, h4, h5⟩
    · exact .inl ⟨h0, u, h4, by show K _ w; rw [← Act.put_comm a v u h2]; exact h5⟩
    · exact .inr (.inl ⟨h0, u, h4, by show K _ w; rw [← Act.put_comm a v u h2]; exact h5⟩)
    · exact .inr (.inr (.inl ⟨h0, wp_put' (K := fun a' w' => (C w' ∧ R w w') ∧ K a' w') hsj h1 h2 h4⟩))
    · exact .inr (.inr (.inr ⟨h0, u, h4, by show K _ w; rw [← Act.put_comm a v u h2]; exact h5⟩))
  · rename_i hw
    rw [if_neg hw] at h
    show K _ w
    rw [← Act.put_comm a v undef h2]; exact h

theorem swap {i j : Nat} {oi oj : Oper} {a : Act} {w : World} {K : Act → World → Prop} (hr : ∀ w, R w w) (ht : ∀ x y z, R x y → R y z → R x z) (hsi : ∀ cs b, oi.op ≠ .select cs b) (hsj : ∀ cs b, oj.op ≠ .select cs b) (hap : oi.apart ops oj = true)
    (hk : kind hs i oi = 0 ∨ kind hs i oi = 3 ∨ kind hs j oj = 0 ∨ (kind hs i oi = 1 ∧ (kind hs j oj = 1 ∨ kind hs j oj = 3))) (hC : C w)
    (h : step P ops C R hs i oi (step P ops C R hs j oj K) a w) : step P ops C R hs j oj (step P ops C R hs i oi K) a w := by
  obtain ⟨h1, h2, h3⟩ := Oper.apart_spec hap
  have h2' : ∀ d, oj.dst = some d → oi.dst ≠ some d := fun d hd e => h2 d e hd
  by_cases hwi : Region.wanted oi (yielded ops a.tmps) = true
  · unfold step at h
    rw [if_pos hwi] at h
    rcases h with ⟨h0, v, h4, h5⟩ | ⟨h0, v, h4, h5⟩ | ⟨h0, h4⟩ | ⟨h0, v, h4, h5⟩
    · refine step_mono hr hC (step_put hsj hap h5) fun a' w' hC' _ hS hK => ?_
      obtain ⟨e1, e2⟩ := same_exec (ops := ops) hS hsi h3
      unfold step
      rw [e2, if_pos hwi, e1]
      exact .inl ⟨h0, v, h4, hK⟩
    · have h5' : step P ops C R hs j oj K (a.put oi.dst v) w := h5
      have h6 := step_put hsj hap h5'
      unfold step at h6
      by_cases hwj : Region.wanted oj (yielded ops a.tmps) = true
      · rw [if_pos hwj] at h6
        have key : ∀ u, K ((a.put oj.dst u).put oi.dst v) w → step P ops C R hs i oi K (a.put oj.dst u) w := by
          intro u hu
          unfold step
          rw [wanted_put oi a oj.dst u h3, if_pos hwi, execOp_put oi hsi a oj.dst u h3]
          exact .inr (.inl ⟨h0, v, h4, hu⟩)
        have goal : (kind hs j oj = 0 ∧ ∃ u, (∀ w', C w' → (execOp a.eval oj).run P w' = .ok (.value u) w') ∧ step P ops C R hs i oi K (a.put oj.dst u) w) ∨
            (kind hs j oj = 1 ∧ ∃ u, (execOp a.eval oj).run P w = .ok (.value u) w ∧ step P ops C R hs i oi K (a.put oj.dst u) w) ∨
            (kind hs j oj = 2 ∧ oj.wp P a w (fun a' w' => (C w' ∧ R w w') ∧ step P ops C R hs i oi K a' w') NoQ) ∨
            (kind hs j oj = 3 ∧ ∃ u, (∀ w', R w w' → (execOp a.eval oj).run P w' = .ok (.value u) w') ∧ step P ops C R hs i oi K (a.put oj.dst u) w) := by
          rcases h6 with ⟨k0, u, h6, h7⟩ | ⟨k0, u, h6, h7⟩ | ⟨k0, h6⟩ | ⟨k0, u, h6, h7⟩
          · exact .inl ⟨k0, u, h6, key u h7⟩
          · exact .inr (.inl ⟨k0, u, h6, key u h7⟩)
          · omega
          · exact .inr (.inr (.inr ⟨k0, u, h6, key u h7⟩))
        unfold step at goal ⊢
        rw [if_pos hwj]
        exact goal
      · rw [if_neg hwj] at h6
        unfold step
        rw [if_neg hwj, wanted_put oi a oj.dst undef h3, if_pos hwi, execOp_put oi hsi a oj.dst undef h3]
        exact .inr (.inl ⟨h0, v, h4, h6⟩)
    · by_cases hwj : Region.wanted oj (yielded ops a.tmps) = true
      · have kj : kind hs j oj = 0 := by omega
        have h4' := wp_same h4
        obtain ⟨a0, w0, ⟨hC0, hs0⟩, hS0⟩ := wp_some h4'
        obtain ⟨e1, e2⟩ := same_exec (ops := ops) hS0 hsj h1
        rw [e2, if_pos hwj, e1] at hs0
        rcases hs0 with ⟨_, u, h6, _⟩ | ⟨k1, _⟩ | ⟨k1, _⟩ | ⟨k1, _⟩
        · have h7 : oi.wp P a w (fun a' w' => (C w' ∧ R w w') ∧ K (a'.put oj.dst u) w') NoQ := by
            refine Oper.wp_mono (fun a' w' ⟨⟨hC1, hs1⟩, hS1⟩ => ⟨hC1, ?_⟩) h4'
            obtain ⟨e3, e4⟩ := same_exec (ops := ops) hS1 hsj h1
            rw [e4, if_pos hwj, e3] at hs1
            rcases hs1 with ⟨_, u', h8, h9⟩ | ⟨k1, _⟩ | ⟨k1, _⟩ | ⟨k1, _⟩
            · have := (h6 w hC).symm.trans (h8 w hC)
              injection this with this _
              injection this with this
              rw [this]; exact h9
            · omega
            · omega
            · omega
          have h8 : step P ops C R hs i oi K (a.put oj.dst u) w := by
            unfold step
            rw [wanted_put oi a oj.dst u h3, if_pos hwi]
            exact .inr (.inr (.inl ⟨h0, wp_put (K := fun a' w' => (C w' ∧ R w w') ∧ K a' w') hsi h3 h2' h7⟩))
          unfold step at h8 ⊢
          rw [if_pos hwj]
          exact .inl ⟨kj, u, h6, h8⟩
        · omega
        · omega
        · omega
      · have h7 : oi.wp P a w (fun a' w' => (C w' ∧ R w w') ∧ K (a'.put oj.dst undef) w') NoQ := by
          refine Oper.wp_mono (fun a' w' ⟨⟨hC1, hs1⟩, hS1⟩ => ⟨hC1, ?_⟩) (wp_same h4)
          obtain ⟨e3, e4⟩ := same_exec (ops := ops) hS1 hsj h1
          rw [e4, if_neg hwj] at hs1
          exact hs1
        unfold step
        rw [if_neg hwj, wanted_put oi a oj.dst undef h3, if_pos hwi]
        exact .inr (.inr (.inl ⟨h0, wp_put (K := fun a' w' => (C w' ∧ R w w') ∧ K a' w') hsi h3 h2' h7⟩))
    · refine step_mono hr hC (step_put hsj hap h5) fun a' w' hC' hR' hS hK => ?_
      obtain ⟨e1, e2⟩ := same_exec (ops := ops) hS hsi h3
      unfold step
      rw [e2, if_pos hwi, e1]
      exact .inr (.inr (.inr ⟨h0, v, fun w'' hw'' => h4 w'' (ht _ _ _ hR' hw''), hK⟩))
  · have h' := h
    unfold step at h'
    rw [if_neg hwi] at h'
    refine step_mono hr hC (step_put hsj hap h') fun a' w' hC' _ hS hK => ?_
    obtain ⟨e1, e2⟩ := same_exec (ops := ops) hS hsi h3
    unfold step
    rw [e2, if_neg hwi]
    exact hK

/-- the walk over a list of operations' numbers -/
def lexN (P : Program) (ops : Array Oper) (C : World → Prop) (R : World → World → Prop) (hs : List Nat) (Q : Act → World → Prop) : List Nat → Act → World → Prop
  | [], a, w => Q a w
  | i :: L, a, w => match ops[i]? with
    | some o => step P ops C R hs i o (lexN P ops C R hs Q L) a w
    | none => lexN P ops C R hs Q L a w

/-- two operations that may be exchanged -/
def pair (ops : Array Oper) (hs : List Nat) (i j : Nat) : Bool :=
  match ops[i]?, ops[j]? with
  | some oi, some oj => oi.apart ops oj && (kind hs i oi == 0 || kind hs i oi == 3 || kind hs j oj == 0 || (kind hs i oi == 1 && (kind hs j oj == 1 || kind hs j oj == 3)))
  | _, _ => true

theorem pull {Q : Act → World → Prop} {j : Nat} {oj : Oper} (hr : ∀ w, R w w) (ht : ∀ x y z, R x y → R y z → R x z) (hj : ops[j]? = some oj) (hsel : ∀ (j : Nat) (o : Oper) cs b, ops[j]? = some o → o.op ≠ .select cs b) (post : List Nat) :
    ∀ (pre : List Nat) (a : Act) (w : World), (∀ i ∈ pre, pair ops hs i j = true) → C w → lexN P ops C R hs Q (pre ++ j :: post) a w → step P ops C R hs j oj (lexN P ops C R hs Q (pre ++ post)) a w := by
  intro pre
  induction pre with
  | nil =>
    intro a w _ hC h
    simp only [List.nil_append, lexN, hj] at h
    exact h
  | cons i pre ih =>
    intro a w hp hC h
    simp only [List.cons_append, lexN] at h ⊢
    have hpi := hp i (by simp)
    have hp' : ∀ i' ∈ pre, pair ops hs i' j = true := fun i' hi' => hp i' (by simp [hi'])
    cases hi : ops[i]? with
    | none =>
      simp only [hi] at h
      exact step_mono hr hC (ih a w hp' hC h) fun a' w' _ _ _ hK => by simpa only [lexN, hi] using hK
    | some oi =>
      simp only [hi] at h
      have h1 : step P ops C R hs i oi (step P ops C R hs j oj (lexN P ops C R hs Q (pre ++ post))) a w := step_mono hr hC h fun a' w' hC' _ _ hK => ih a' w' hp' hC' hK
      simp only [pair, hi, hj, Bool.and_eq_true, Bool.or_eq_true, beq_iff_eq] at hpi
      have h2 := swap hr ht (hsel i oi · · hi) (hsel j oj · · hj) hpi.1 (by omega) hC h1
      exact step_mono hr hC h2 fun a' w' _ _ _ hK => by simpa only [lexN, hi] using hK

/-- the check, by the kernel -/
def ok (hs : List Nat) (ops : Array Oper) : Bool :=
  let M := masks ops.toList []
  (List.range ops.size).all fun j => match ops[j]? with
    | some oj => noSel oj && (oj.after.all fun e => !Region.binds .any e || decide (e.on < j)) && (List.range j).all fun i => (M.getD j 0).testBit i || pair ops hs i j
    | none => true

theorem any_of_lex {Q : Exit → Act → World → Prop} (hr : ∀ w, R w w) (ht : ∀ x y z, R x y → R y z → R x z) (hok : ok hs ops = true) : ∀ (fuel : Nat) (L : List Nat) (listed : Array Bool) (a : Act) (w : World), C w → L.length = fuel →
    (∀ i, i ∈ L ↔ i < ops.size ∧ listed.getD i true = false) → L.Pairwise (· < ·) → Down ops listed → listed.size = ops.size → lexN P ops C R hs (fun a w => Q .normal a w) L a w → wpAny P .any ops Q fuel listed a w := by
  have hok' : ∀ (j : Nat) (oj : Oper), ops[j]? = some oj → noSel oj = true ∧ (∀ e ∈ oj.after, Region.binds .any e = true → e.on < j) ∧ ∀ i, i < j → ((masks ops.toList []).getD j 0).testBit i = true ∨ pair ops hs i j = true := by
    intro j oj hj
    have hlt : j < ops.size := (Array.getElem?_eq_some_iff.1 hj).1
    have h1 := List.all_eq_true.1 hok j (List.mem_range.2 hlt)
    simp only [hj, Bool.and_eq_true] at h1
    obtain ⟨⟨h2, h3⟩, h4⟩ := h1
    refine ⟨h2, fun e he hb => ?_, fun i hi => ?_⟩
    · have := Array.all_eq_true'.1 h3 e he
      simpa [hb] using this
    · have := List.all_eq_true.1 h4 i (List.mem_range.2 hi)
      simpa using this
  have hsel : ∀ (j : Nat) (o : Oper) cs b, ops[j]? = some o → o.op ≠ .select cs b := by
    intro j o cs b hj he
    have := (hok' j o hj).1
    simp [noSel, he] at this
  intro fuel
  induction fuel with
  | zero =>
    intro L listed a w hC hL hm hs' hD hsz h
    have hnil : L = [] := List.eq_nil_of_length_eq_zero hL
    subst hnil
    refine ⟨?_, h⟩
    cases hr : Region.ready .any ops listed with
    | nil => rfl
    | cons x xs =>
      have hx : x ∈ Region.ready .any ops listed := by rw [hr]; simp
      obtain ⟨h1, o, ho, _⟩ := mem_ready.1 hx
      have : x ∈ ([] : List Nat) := (hm x).2 ⟨(Array.getElem?_eq_some_iff.1 ho).1, h1⟩
      cases this
  | succ fuel ih =>
    intro L listed a w hC hL hm hs' hD hsz h
    refine ⟨fun hr0 => ?_, fun j hj => ?_⟩
    · exfalso
      cases L with
      | nil => simp at hL
      | cons i L =>
        obtain ⟨hi1, hi2⟩ := (hm i).1 (by simp)
        have ho : ops[i]? = some ops[i] := Array.getElem?_eq_getElem hi1
        have hri : i ∈ Region.ready .any ops listed := by
          refine mem_ready.2 ⟨hi2, _, ho, fun e he hb => ?_⟩
          have hlt := (hok' i _ ho).2.1 e he hb
          by_cases hle : listed.getD e.on true = false
          · have hmem : e.on ∈ i :: L := (hm e.on).2 ⟨by omega, hle⟩
            rcases List.mem_cons.1 hmem with h | h
            · omega
            · have := (List.pairwise_cons.1 hs').1 e.on h
              omega
          · have hb2 : e.on < listed.size := by omega
            simp only [Array.getD_eq_getD_getElem?, Array.getElem?_eq_getElem hb2, Option.getD_some] at hle ⊢
            simpa using hle
        rw [hr0] at hri
        cases hri
    · obtain ⟨hj1, oj, hoj, hjr⟩ := mem_ready.1 hj
      have hjlt : j < ops.size := (Array.getElem?_eq_some_iff.1 hoj).1
      have hmem : j ∈ L := (hm j).2 ⟨hjlt, hj1⟩
      obtain ⟨pre, post, rfl⟩ := List.append_of_mem hmem
      have hpre : ∀ i ∈ pre, i < j := by
        intro i hi
        exact (List.pairwise_append.1 hs').2.2 i hi j (by simp)
      have hpost : ∀ i ∈ post, j < i := fun i hi => (List.pairwise_cons.1 (List.pairwise_append.1 hs').2.1).1 i hi
      have hpair : ∀ i ∈ pre, pair ops hs i j = true := by
        intro i hi
        rcases (hok' j oj hoj).2.2 i (hpre i hi) with h1 | h1
        · exfalso
          have hl := masks_sound hD (j + 1) j oj (by omega) hoj hjr i h1
          obtain ⟨hi1, hi2⟩ := (hm i).1 (by simp [hi])
          have hb2 : i < listed.size := by omega
          simp only [Array.getD_eq_getD_getElem?, Array.getElem?_eq_getElem hb2, Option.getD_some] at hl hi2
          rw [hl] at hi2
          cases hi2
        · exact h1
      have h1 := pull hr ht hoj hsel post pre a w hpair hC h
      have hset : ∀ i, (listed.setIfInBounds j true).getD i true = false ↔ (listed.getD i true = false ∧ i ≠ j) := by
        intro i
        by_cases hij : i = j
        · subst hij
          simp [Array.getD_eq_getD_getElem?, Array.getElem?_setIfInBounds]
          split <;> simp_all
        · simp [Array.getD_eq_getD_getElem?, Array.getElem?_setIfInBounds_ne (Ne.symm hij), hij]
      have h2 : step P ops C R hs j oj (wpAny P .any ops Q fuel (listed.setIfInBounds j true)) a w := by
        refine step_mono hr hC h1 fun a' w' hC' _ _ hK => ih (pre ++ post) _ a' w' hC' ?_ ?_ ?_ ?_ (by simp [hsz]) hK
        · simp at hL ⊢; omega
        · intro i
          rw [hset]
          constructor
          · intro hi
            have hi' : i ∈ pre ++ j :: post := by
              rcases List.mem_append.1 hi with h | h
              · simp [h]
              · simp [h]
            obtain ⟨q1, q2⟩ := (hm i).1 hi'
            refine ⟨q1, q2, ?_⟩
            rcases List.mem_append.1 hi with h | h
            · have := hpre i h; omega
            · have := hpost i h; omega
          · rintro ⟨q1, q2, q3⟩
            have := (hm i).2 ⟨q1, q2⟩
            rcases List.mem_append.1 this with h | h
            · simp [h]
            · rcases List.mem_cons.1 h with h | h
              · exact absurd h q3
              · simp [h]
        · have hp := List.pairwise_append.1 hs'
          refine List.pairwise_append.2 ⟨hp.1, (List.pairwise_cons.1 hp.2.1).2, fun x hx y hy => ?_⟩
          have := hpre x hx
          have := hpost y hy
          omega
        · intro j' o' ho' hl' e he hb
          by_cases hjj : j' = j
          · subst hjj
            rw [hoj] at ho'
            injection ho' with ho'
            subst ho'
            exact getD_set_true (hjr e he hb)
          · rw [getD_set_ne false (Ne.symm hjj)] at hl'
            exact getD_set_true (hD j' o' ho' hl' e he hb)
      unfold step at h2
      unfold wpOp
      simp only [hoj]
      split
      · rename_i hw
        rw [if_pos hw] at h2
        left
        rcases h2 with ⟨_, v, h3, h4⟩ | ⟨_, v, h3, h4⟩ | ⟨_, h3⟩ | ⟨_, v, h3, h4⟩
        · unfold Oper.wp; rw [h3 w hC]; exact h4
        · unfold Oper.wp; rw [h3]; exact h4
        · exact Oper.wp_mono (fun _ _ hh => hh.2) (wp_noQ h3)
        · unfold Oper.wp; rw [h3 w (hr w)]; exact h4
      · rename_i hw
        rw [if_neg hw] at h2
        exact h2

/-- the walk over the operations themselves -/
def lex (P : Program) (ops : Array Oper) (C : World → Prop) (R : World → World → Prop) (hs : List Nat) (Q : Act → World → Prop) : Nat → List Oper → Act → World → Prop
  | _, [], a, w => Q a w
  | k, o :: r, a, w => step P ops C R hs k o (lex P ops C R hs Q (k + 1) r) a w

theorem lexN_of_lex {Q : Act → World → Prop} : ∀ (l : List Oper) (k : Nat), (∀ m, l[m]? = ops[k + m]?) → lex P ops C R hs Q k l = lexN P ops C R hs Q (List.range' k l.length) := by
  intro l
  induction l with
  | nil => intro k _; funext a w; simp [lex, lexN]
  | cons o r ih =>
    intro k h
    have h0 : ops[k]? = some o := by simpa using (h 0).symm
    have ih' := ih (k + 1) (fun m => by have := h (m + 1); simpa [Nat.add_assoc, Nat.add_comm 1 m] using this)
    funext a w
    simp only [lex, List.length_cons, List.range'_succ, lexN, h0, ih']

end

/-- THE REGION: one walk in the order of the text serves every order. -/
theorem region {P : Program} {C : World → Prop} {R : World → World → Prop} (hr : ∀ w, R w w) (ht : ∀ x y z, R x y → R y z → R x z) {hs : List Nat} {id : Nat} {l : List Oper} {Q : Exit → Act → World → Prop} {a : Act} {w : World} (hm : P.follows .mixedOrders = true) (hok : ok hs l.toArray = true) (hC : C w.drew)
    (h : lex P l.toArray C R hs (fun a w => Q .normal a w) 0 l a w.drew) : (Code.region id l.toArray true).wp P Q a w := by
  refine wp_region_any hm ?_
  refine any_of_lex (C := C) (R := R) (hs := hs) hr ht hok _ (List.range l.length) _ a _ hC (by simp) ?_ List.pairwise_lt_range ?_ (by simp) ?_
  · intro i
    simp [Array.getD_eq_getD_getElem?, Array.getElem?_replicate]
    intro hi
    simp [hi]
  · intro j o ho hl
    simp [Array.getD_eq_getD_getElem?, Array.getElem?_replicate] at hl
    split at hl <;> simp at hl
  · have := lexN_of_lex (P := P) (ops := l.toArray) (C := C) (R := R) (hs := hs) (Q := fun a w => Q .normal a w) l 0 (fun m => by simp)
    rw [this, ← List.range_eq_range'] at h
    exact h

section
variable {P : Program} {ops : Array Oper} {C : World → Prop} {R : World → World → Prop} {hs : List Nat} {Q : Act → World → Prop} {k : Nat} {o : Oper} {r : List Oper} {a : Act} {w : World}
theorem lex_nil (h : Q a w) : lex P ops C R hs Q k [] a w := h
theorem lex_no (hw : Region.wanted o (yielded ops a.tmps) = false) (h : ∀ K : Act → Prop, (∀ a', lex P ops C R hs Q (k + 1) r a' w → K a') → K (a.put o.dst undef)) : lex P ops C R hs Q k (o :: r) a w := by
  simp only [lex, step, hw, Bool.false_eq_true, if_false]
  exact h _ fun _ h => h
theorem lex_pure {v : Value} (hk : kind hs k o = 0) (hw : Region.wanted o (yielded ops a.tmps) = true) (hr : ∀ w', C w' → (execOp a.eval o).run P w' = .ok (.value v) w')
    (h : ∀ K : Act → Prop, (∀ a', lex P ops C R hs Q (k + 1) r a' w → K a') → K (a.put o.dst v)) : lex P ops C R hs Q k (o :: r) a w := by
  simp only [lex, step, hw, if_true]
  exact .inl ⟨hk, v, hr, h _ fun _ h => h⟩
theorem lex_read {v : Value} (hk : kind hs k o = 1) (hw : Region.wanted o (yielded ops a.tmps) = true) (hr : (execOp a.eval o).run P w = .ok (.value v) w)
    (h : ∀ K : Act → Prop, (∀ a', lex P ops C R hs Q (k + 1) r a' w → K a') → K (a.put o.dst v)) : lex P ops C R hs Q k (o :: r) a w := by
  simp only [lex, step, hw, if_true]
  exact .inr (.inl ⟨hk, v, hr, h _ fun _ h => h⟩)
theorem lex_late {v : Value} (hk : kind hs k o = 3) (hw : Region.wanted o (yielded ops a.tmps) = true) (hr : ∀ w', R w w' → (execOp a.eval o).run P w' = .ok (.value v) w')
    (h : ∀ K : Act → Prop, (∀ a', lex P ops C R hs Q (k + 1) r a' w → K a') → K (a.put o.dst v)) : lex P ops C R hs Q k (o :: r) a w := by
  simp only [lex, step, hw, if_true]
  exact .inr (.inr (.inr ⟨hk, v, hr, h _ fun _ h => h⟩))
theorem lex_eff (hk : kind hs k o = 2) (hw : Region.wanted o (yielded ops a.tmps) = true)
    (h : ∀ K : Act → World → Prop, (∀ a' w', (C w' ∧ R w w') → lex P ops C R hs Q (k + 1) r a' w' → K a' w') → o.wp P a w K NoQ) : lex P ops C R hs Q k (o :: r) a w := by
  simp only [lex, step, hw, if_true]
  exact .inr (.inr (.inl ⟨hk, h _ fun _ _ h1 h2 => ⟨h1, h2⟩⟩))
end
section
variable {P : Program} {ops : Array Oper} {C : World → Prop} {R : World → World → Prop} {hs : List Nat} {Q : Act → World → Prop} {k : Nat} {o : Oper} {r : List Oper} {a : Act} {w : World}
/-- a guard that is not decided yet -/
theorem lex_cases {j : Nat} {d : Tmp} {b want : Bool} (_ : o.guard = some (j, want)) (_ : (ops[j]?).bind (·.dst) = some d) (_ : a.tmps[d]? = some (.bool b))
    (h1 : b = true → ∀ K : Act → Prop, (∀ a', lex P ops C R hs Q k (o :: r) a' w → K a') → K a)
    (h2 : b = false → ∀ K : Act → Prop, (∀ a', lex P ops C R hs Q k (o :: r) a' w → K a') → K a) : lex P ops C R hs Q k (o :: r) a w := by
  cases b
  · exact h2 rfl _ fun _ h => h
  · exact h1 rfl _ fun _ h => h
end
attribute [irreducible] lex
end Lb
end Go.Proofs.YtencbmgjdiillaaDoor
