/- A region that draws its order of evaluation, walked once in the order of the text: where any two operations that the edges leave open commute, every order comes to the same end. Nothing of the program is named here. -/
import Derived.WalkKit
import Derived.Deep.Draws
namespace Go.Proofs.Ytpdhelhngdeoeaa
open Go.RowKit

namespace Lx
def NoQ : Exit → Act → World → Prop := fun _ _ _ => False

/-- 0: yields one value in every world of the class; 1: reads the world and leaves it; 2: all else. hs: the reads that count as 0; 1000 + i in hs: operation i counts as 2. -/
def kind (hs : List Nat) (i : Nat) (o : Oper) : Nat :=
  if hs.contains (1000 + i) then 2 else
  match o.op with
  | .move _ | .assign _ | .pick .. | .nilCheck _ | .binOp .. | .unOp .. | .convert .. | .fieldAddr .. | .field .. | .indexAddr .. | .index .. | .extract .. | .slice .. | .build .. | .makeFunc .. | .makeInterface .. => 0
  | .call { callee := .builtin .len, .. } | .call { callee := .builtin .cap, .. } | .call { callee := .builtin .min, .. } | .call { callee := .builtin .max, .. } => 0
  | .load .. | .lookup .. => if hs.contains i then 0 else 1
  | _ => 2

section
variable {P : Program} {ops : Array Oper} {C : World → Prop} {hs : List Nat}

/-- one operation in the walk -/
def step (P : Program) (ops : Array Oper) (C : World → Prop) (hs : List Nat) (i : Nat) (o : Oper) (K : Act → World → Prop) (a : Act) (w : World) : Prop :=
  if Region.wanted o (yielded ops a.tmps) = true then
    (kind hs i o = 0 ∧ ∃ v, (∀ w', C w' → (execOp a.eval o).run P w' = .ok (.value v) w') ∧ K (a.put o.dst v) w) ∨
    (kind hs i o = 1 ∧ ∃ v, (execOp a.eval o).run P w = .ok (.value v) w ∧ K (a.put o.dst v) w) ∨
    (kind hs i o = 2 ∧ o.wp P a w (fun a' w' => C w' ∧ K a' w') NoQ)
  else K (a.put o.dst undef) w

def Same (o : Oper) (a a' : Act) : Prop := ∃ d u, a' = ({ a with defers := d } : Act).put o.dst u

theorem wp_same {o : Oper} {a : Act} {w : World} {K : Act → World → Prop} (h : o.wp P a w K NoQ) : o.wp P a w (fun a' w' => K a' w' ∧ Same o a a') NoQ := by
  unfold Oper.wp at *
  generalize (execOp a.eval o).run P w = r at *
  cases r with
  | ok n w' =>
    cases n <;> simp only [Oper.upon] at h ⊢ <;>
      first
        | exact h
        | exact ⟨h, _, _, rfl⟩
        | exact Calls.mono h (fun e w'' he => by cases e <;> first | exact ⟨he, _, _, rfl⟩ | exact he)
        | exact Rows.mono h (fun _ _ he => ⟨he, _, _, rfl⟩)
  | halt x w' => cases x <;> simp only [Oper.upon] at h ⊢ <;> exact h

theorem letsOut_no : ¬ LetsOut NoQ := fun ⟨_, _, h⟩ => h

theorem wp_some {o : Oper} {a : Act} {w : World} {K : Act → World → Prop} (h : o.wp P a w K NoQ) : ∃ a' w', K a' w' := by
  unfold Oper.wp at h
  generalize (execOp a.eval o).run P w = r at *
  cases r with
  | ok n w' =>
    cases n <;> simp only [Oper.upon] at h
    case value v => exact ⟨_, _, h⟩
    case skip => exact ⟨_, _, h⟩
    case defer d => exact ⟨_, _, h⟩
    case enter f args =>
      obtain ⟨e, w'', fr, hR, _⟩ := h []
      cases e with
      | returned v => exact ⟨_, _, hR⟩
      | panicked c => exact hR.elim
      | outgrown => exact (letsOut_no hR).elim
    case row r args =>
      obtain ⟨v, w'', hR, _⟩ := h default []
      exact ⟨_, _, hR⟩
  | halt x w' => cases x <;> simp only [Oper.upon] at h <;> exact h.elim

theorem wp_put {o : Oper} {a : Act} {w : World} {K : Act → World → Prop} {x : Option Tmp} {v : Value} (hsel : ∀ cs b, o.op ≠ .select cs b)
    (hl : ∀ d, x = some d → d ∉ o.looksAt ops) (hd : ∀ d, x = some d → o.dst ≠ some d) (h : o.wp P a w (fun a' w' => K (a'.put x v) w') NoQ) : o.wp P (a.put x v) w K NoQ := by
  unfold Oper.wp at *
  rw [execOp_put o hsel a x v hl]
  generalize (execOp a.eval o).run P w = r at *
  cases r with
  | ok n w' =>
    cases n <;> simp only [Oper.upon] at h ⊢ <;>
      first
        | exact h
        | (rw [Act.put_comm a v _ hd]; exact h)
        | (rw [Act.put_defers, Act.put_comm _ v _ hd]; exact h)
        | exact Calls.mono h (fun e w'' he => by cases e <;> first | (simp only [] at he ⊢; rw [Act.put_comm a v _ hd]; exact he) | exact he)
        | exact Rows.mono h (fun _ _ he => by rw [Act.put_comm a v _ hd]; exact he)
  | halt x w' => cases x <;> simp only [Oper.upon] at h ⊢ <;> exact h

theorem wp_put' {o : Oper} {a : Act} {w : World} {K : Act → World → Prop} {x : Option Tmp} {v : Value} (hsel : ∀ cs b, o.op ≠ .select cs b)
    (hl : ∀ d, x = some d → d ∉ o.looksAt ops) (hd : ∀ d, x = some d → o.dst ≠ some d) (h : o.wp P (a.put x v) w K NoQ) : o.wp P a w (fun a' w' => K (a'.put x v) w') NoQ := by
  unfold Oper.wp at *
  rw [execOp_put o hsel a x v hl] at h
  generalize (execOp a.eval o).run P w = r at *
  cases r with
  | ok n w' =>
    cases n <;> simp only [Oper.upon] at h ⊢ <;>
      first
        | exact h
        | (rw [Act.put_comm a v _ hd] at h; exact h)
        | (rw [Act.put_defers, Act.put_comm _ v _ hd] at h; exact h)
        | exact Calls.mono h (fun e w'' he => by cases e <;> first | (simp only [] at he ⊢; rw [Act.put_comm a v _ hd] at he; exact he) | exact he)
        | exact Rows.mono h (fun _ _ he => by rw [Act.put_comm a v _ hd] at he; exact he)
  | halt x w' => cases x <;> simp only [Oper.upon] at h ⊢ <;> exact h

theorem wp_noQ {o : Oper} {a : Act} {w : World} {K : Act → World → Prop} {Q : Exit → Act → World → Prop} (h : o.wp P a w K NoQ) : o.wp P a w K Q := by
  unfold Oper.wp at *
  generalize (execOp a.eval o).run P w = r at *
  cases r with
  | ok n w' =>
    cases n <;> simp only [Oper.upon] at h ⊢ <;>
      first
        | exact h
        | exact h.elim
        | exact Calls.mono h (fun e w'' he => by cases e <;> first | exact he | exact he.elim | exact (letsOut_no he).elim)
  | halt x w' => cases x <;> simp only [Oper.upon] at h ⊢ <;> first | exact h.elim | exact h

theorem step_mono {i : Nat} {o : Oper} {a : Act} {w : World} {K K' : Act → World → Prop} (hC : C w) (h : step P ops C hs i o K a w)
    (hk : ∀ a' w', C w' → Same o a a' → K a' w' → K' a' w') : step P ops C hs i o K' a w := by
  unfold step at *
  split
  · rename_i hw
    rw [if_pos hw] at h
    rcases h with ⟨h0, v, h1, h2⟩ | ⟨h0, v, h1, h2⟩ | ⟨h0, h1⟩
    · exact .inl ⟨h0, v, h1, hk _ _ hC ⟨a.defers, v, rfl⟩ h2⟩
    · exact .inr (.inl ⟨h0, v, h1, hk _ _ hC ⟨a.defers, v, rfl⟩ h2⟩)
    · exact .inr (.inr ⟨h0, Oper.wp_mono (fun a' w' ⟨⟨h1, h2⟩, h3⟩ => ⟨h1, hk _ _ h1 h3 h2⟩) (wp_same h1)⟩)
  · rename_i hw
    rw [if_neg hw] at h
    exact hk _ _ hC ⟨a.defers, undef, rfl⟩ h

theorem same_exec {oi oj : Oper} {a a' : Act} (hs' : Same oj a a') (hsel : ∀ cs b, oi.op ≠ .select cs b) (hl : ∀ d, oj.dst = some d → d ∉ oi.looksAt ops) :
    execOp a'.eval oi = execOp a.eval oi ∧ Region.wanted oi (yielded ops a'.tmps) = Region.wanted oi (yielded ops a.tmps) := by
  obtain ⟨d, u, rfl⟩ := hs'
  refine ⟨?_, ?_⟩
  · rw [execOp_put oi hsel _ _ _ hl]
    rfl
  · rw [wanted_put oi _ _ _ hl]

/-- the operation j in a frame that bears i's value already -/
theorem step_put {j : Nat} {oi oj : Oper} {a : Act} {w : World} {K : Act → World → Prop} {v : Value} (hsj : ∀ cs b, oj.op ≠ .select cs b) (hap : oi.apart ops oj = true)
    (h : step P ops C hs j oj K (a.put oi.dst v) w) : step P ops C hs j oj (fun a' w' => K (a'.put oi.dst v) w') a w := by
  obtain ⟨h1, h2, h3⟩ := Oper.apart_spec hap
  unfold step at *
  rw [wanted_put oj a oi.dst v h1, execOp_put oj hsj a oi.dst v h1] at h
  split
  · rename_i hw
    rw [if_pos hw] at h
    rcases h with ⟨h0, u, h4, h5⟩ | ⟨h0, u, h4, h5⟩ | ⟨h0, h4⟩
    · exact .inl ⟨h0, u, h4, by show K _ w; rw [← Act.put_comm a v u h2]; exact h5⟩
    · exact .inr (.inl ⟨h0, u, h4, by show K _ w; rw [← Act.put_comm a v u h2]; exact h5⟩)
    · exact .inr (.inr ⟨h0, wp_put' (K := fun a' w' => C w' ∧ K a' w') hsj h1 h2 h4⟩)
  · rename_i hw
    rw [if_neg hw] at h
    show K _ w
    rw [← Act.put_comm a v undef h2]; exact h

theorem swap {i j : Nat} {oi oj : Oper} {a : Act} {w : World} {K : Act → World → Prop} (hsi : ∀ cs b, oi.op ≠ .select cs b) (hsj : ∀ cs b, oj.op ≠ .select cs b) (hap : oi.apart ops oj = true)
    (hk : kind hs i oi = 0 ∨ kind hs j oj = 0 ∨ (kind hs i oi = 1 ∧ kind hs j oj = 1)) (hC : C w)
    (h : step P ops C hs i oi (step P ops C hs j oj K) a w) : step P ops C hs j oj (step P ops C hs i oi K) a w := by
  obtain ⟨h1, h2, h3⟩ := Oper.apart_spec hap
  have h2' : ∀ d, oj.dst = some d → oi.dst ≠ some d := fun d hd e => h2 d e hd
  by_cases hwi : Region.wanted oi (yielded ops a.tmps) = true
  · unfold step at h
    rw [if_pos hwi] at h
    rcases h with ⟨h0, v, h4, h5⟩ | ⟨h0, v, h4, h5⟩ | ⟨h0, h4⟩
    · refine step_mono hC (step_put hsj hap h5) fun a' w' hC' hS hK => ?_
      obtain ⟨e1, e2⟩ := same_exec (ops := ops) hS hsi h3
      unfold step
      rw [e2, if_pos hwi, e1]
      exact .inl ⟨h0, v, h4, hK⟩
    · by_cases hwj : Region.wanted oj (yielded ops (a.put oi.dst v).tmps) = true
      · rw [if_pos hwj] at h5
        have hwj' := hwj
        rw [wanted_put oj a oi.dst v h1] at hwj'
        rw [execOp_put oj hsj a oi.dst v h1] at h5
        unfold step
        rw [if_pos hwj']
        have key : ∀ u, K ((a.put oi.dst v).put oj.dst u) w → (if Region.wanted oi (yielded ops (a.put oj.dst u).tmps) = true then
            (kind hs i oi = 0 ∧ ∃ v, (∀ w', C w' → (execOp (a.put oj.dst u).eval oi).run P w' = .ok (.value v) w') ∧ K ((a.put oj.dst u).put oi.dst v) w) ∨
            (kind hs i oi = 1 ∧ ∃ v, (execOp (a.put oj.dst u).eval oi).run P w = .ok (.value v) w ∧ K ((a.put oj.dst u).put oi.dst v) w) ∨
            (kind hs i oi = 2 ∧ oi.wp P (a.put oj.dst u) w (fun a' w' => C w' ∧ K a' w') NoQ) else K ((a.put oj.dst u).put oi.dst undef) w) := by
          intro u hu
          rw [wanted_put oi a oj.dst u h3, if_pos hwi, execOp_put oi hsi a oj.dst u h3]
          exact .inr (.inl ⟨h0, v, h4, by rw [← Act.put_comm a v u h2]; exact hu⟩)
        rcases h5 with ⟨k0, u, h6, h7⟩ | ⟨k0, u, h6, h7⟩ | ⟨k0, h6⟩
        · exact .inl ⟨k0, u, h6, key u h7⟩
        · exact .inr (.inl ⟨k0, u, h6, key u h7⟩)
        · omega
      · rw [if_neg hwj] at h5
        have hwj' := hwj
        rw [wanted_put oj a oi.dst v h1] at hwj'
        unfold step
        rw [if_neg hwj', wanted_put oi a oj.dst undef h3, if_pos hwi, execOp_put oi hsi a oj.dst undef h3]
        exact .inr (.inl ⟨h0, v, h4, by rw [← Act.put_comm a v undef h2]; exact h5⟩)
    · by_cases hwj : Region.wanted oj (yielded ops a.tmps) = true
      · have kj : kind hs j oj = 0 := by omega
        have h4' := wp_same h4
        obtain ⟨a0, w0, ⟨hC0, hs0⟩, hS0⟩ := wp_some h4'
        obtain ⟨e1, e2⟩ := same_exec (ops := ops) hS0 hsj h1
        rw [e2, if_pos hwj, e1] at hs0
        rcases hs0 with ⟨_, u, h6, _⟩ | ⟨k1, _⟩ | ⟨k1, _⟩
        · have h7 : oi.wp P a w (fun a' w' => C w' ∧ K (a'.put oj.dst u) w') NoQ := by
            refine Oper.wp_mono (fun a' w' ⟨⟨hC1, hs1⟩, hS1⟩ => ⟨hC1, ?_⟩) h4'
            obtain ⟨e3, e4⟩ := same_exec (ops := ops) hS1 hsj h1
            rw [e4, if_pos hwj, e3] at hs1
            rcases hs1 with ⟨_, u', h8, h9⟩ | ⟨k1, _⟩ | ⟨k1, _⟩
            · have := (h6 w hC).symm.trans (h8 w hC)
              injection this with this _
              injection this with this
              rw [this]; exact h9
            · omega
            · omega
          have h8 : step P ops C hs i oi K (a.put oj.dst u) w := by
            unfold step
            rw [wanted_put oi a oj.dst u h3, if_pos hwi]
            exact .inr (.inr ⟨h0, wp_put (K := fun a' w' => C w' ∧ K a' w') hsi h3 h2' h7⟩)
          unfold step at h8 ⊢
          rw [if_pos hwj]
          exact .inl ⟨kj, u, h6, h8⟩
        · omega
        · omega
      · have h7 : oi.wp P a w (fun a' w' => C w' ∧ K (a'.put oj.dst undef) w') NoQ := by
          refine Oper.wp_mono (fun a' w' ⟨⟨hC1, hs1⟩, hS1⟩ => ⟨hC1, ?_⟩) (wp_same h4)
          obtain ⟨e3, e4⟩ := same_exec (ops := ops) hS1 hsj h1
          rw [e4, if_neg hwj] at hs1
          exact hs1
        unfold step
        rw [if_neg hwj, wanted_put oi a oj.dst undef h3, if_pos hwi]
        exact .inr (.inr ⟨h0, wp_put (K := fun a' w' => C w' ∧ K a' w') hsi h3 h2' h7⟩)
  · have h' := h
    unfold step at h'
    rw [if_neg hwi] at h'
    refine step_mono hC (step_put hsj hap h') fun a' w' hC' hS hK => ?_
    obtain ⟨e1, e2⟩ := same_exec (ops := ops) hS hsi h3
    unfold step
    rw [e2, if_neg hwi]
    exact hK

/-- the walk over a list of operations' numbers -/
def lexN (P : Program) (ops : Array Oper) (C : World → Prop) (hs : List Nat) (Q : Act → World → Prop) : List Nat → Act → World → Prop
  | [], a, w => Q a w
  | i :: L, a, w => match ops[i]? with
    | some o => step P ops C hs i o (lexN P ops C hs Q L) a w
    | none => lexN P ops C hs Q L a w

/-- two operations that may be exchanged -/
def pair (ops : Array Oper) (hs : List Nat) (i j : Nat) : Bool :=
  match ops[i]?, ops[j]? with
  | some oi, some oj => oi.apart ops oj && (kind hs i oi == 0 || kind hs j oj == 0 || (kind hs i oi == 1 && kind hs j oj == 1))
  | _, _ => true

theorem pull {Q : Act → World → Prop} {j : Nat} {oj : Oper} (hj : ops[j]? = some oj) (hsel : ∀ (j : Nat) (o : Oper) cs b, ops[j]? = some o → o.op ≠ .select cs b) (post : List Nat) :
    ∀ (pre : List Nat) (a : Act) (w : World), (∀ i ∈ pre, pair ops hs i j = true) → C w → lexN P ops C hs Q (pre ++ j :: post) a w → step P ops C hs j oj (lexN P ops C hs Q (pre ++ post)) a w := by
  intro pre
  induction pre with
  | nil =>
    intro a w _ hC h
    simp only [List.nil_append, lexN, hj] at h
    exact h
  | cons i pre ih =>
    intro a w hp hC h
    simp only [List.cons_append, lexN] at h ⊢
    have hpi := hp i (by simp)
    have hp' : ∀ i' ∈ pre, pair ops hs i' j = true := fun i' hi' => hp i' (by simp [hi'])
    cases hi : ops[i]? with
    | none =>
      simp only [hi] at h
      exact step_mono hC (ih a w hp' hC h) fun a' w' _ _ hK => by simpa only [lexN, hi] using hK
    | some oi =>
      simp only [hi] at h
      have h1 : step P ops C hs i oi (step P ops C hs j oj (lexN P ops C hs Q (pre ++ post))) a w := step_mono hC h fun a' w' hC' _ hK => ih a' w' hp' hC' hK
      simp only [pair, hi, hj, Bool.and_eq_true, Bool.or_eq_true, beq_iff_eq] at hpi
      have h2 := swap (hsel i oi · · hi) (hsel j oj · · hj) hpi.1 (by omega) hC h1
      exact step_mono hC h2 fun a' w' _ _ hK => by simpa only [lexN, hi] using hK

/-! ### who waits for whom -/
def maskOf (o : Oper) (acc : List Nat) : Nat := o.after.toList.foldl (fun s e => if Region.binds .any e then s ||| (2 ^ e.on ||| acc.getD e.on 0) else s) 0
def masks : List Oper → List Nat → List Nat
  | [], acc => acc
  | o :: r, acc => masks r (acc ++ [maskOf o acc])

theorem foldl_bits (acc : List Nat) (i : Nat) : ∀ (l : List Edge) (s : Nat), (l.foldl (fun s e => if Region.binds .any e then s ||| (2 ^ e.on ||| acc.getD e.on 0) else s) s).testBit i = true →
    s.testBit i = true ∨ ∃ e ∈ l, Region.binds .any e = true ∧ (i = e.on ∨ (acc.getD e.on 0).testBit i = true) := by
  intro l
  induction l with
  | nil => intro s h; exact .inl h
  | cons e l ih =>
    intro s h
    simp only [List.foldl_cons] at h
    rcases ih _ h with h | ⟨e', he', r⟩
    · split at h
      · rename_i hb
        rw [Nat.testBit_or, Nat.testBit_or, Bool.or_eq_true, Bool.or_eq_true, Nat.testBit_two_pow] at h
        rcases h with h | h | h
        · exact .inl h
        · exact .inr ⟨e, by simp, hb, .inl (of_decide_eq_true h).symm⟩
        · exact .inr ⟨e, by simp, hb, .inr h⟩
      · exact .inl h
    · exact .inr ⟨e', by simp [he'], r⟩

theorem masks_keep : ∀ (l : List Oper) (acc : List Nat) (j : Nat), j < acc.length → (masks l acc)[j]? = acc[j]? := by
  intro l
  induction l with
  | nil => intro acc j _; rfl
  | cons o r ih =>
    intro acc j hj
    rw [masks, ih _ j (by simp; omega), List.getElem?_append_left hj]

theorem masks_at : ∀ (l : List Oper) (acc : List Nat) (m : Nat) (o : Oper), l[m]? = some o → ∃ pre : List Nat, pre.length = acc.length + m ∧ (∀ k, k < pre.length → pre[k]? = (masks l acc)[k]?) ∧ (masks l acc)[acc.length + m]? = some (maskOf o pre) := by
  intro l
  induction l with
  | nil => intro acc m o h; simp at h
  | cons o' r ih =>
    intro acc m o h
    cases m with
    | zero =>
      simp at h
      subst h
      refine ⟨acc, rfl, fun k hk => ?_, ?_⟩
      · rw [masks, masks_keep _ _ _ (by simp; omega), List.getElem?_append_left hk]
      · rw [masks, masks_keep _ _ _ (by simp)]
        simp
    | succ m =>
      simp at h
      obtain ⟨pre, h1, h2, h3⟩ := ih (acc ++ [maskOf o' acc]) m o h
      simp only [List.length_append, List.length_cons, List.length_nil] at h1 h3
      refine ⟨pre, by omega, h2, ?_⟩
      rw [masks, show acc.length + (m + 1) = acc.length + (0 + 1) + m by omega]
      exact h3

/-- what has come up is closed under 'waits for' -/
def Down (ops : Array Oper) (listed : Array Bool) : Prop :=
  ∀ (j : Nat) (o : Oper), ops[j]? = some o → listed.getD j false = true → ∀ e ∈ o.after, Region.binds .any e = true → listed.getD e.on false = true

theorem masks_sound {listed : Array Bool} (hD : Down ops listed) : ∀ (n j : Nat) (o : Oper), j < n → ops[j]? = some o → (∀ e ∈ o.after, Region.binds .any e = true → listed.getD e.on false = true) →
    ∀ i, ((masks ops.toList []).getD j 0).testBit i = true → listed.getD i false = true := by
  intro n
  induction n with
  | zero => intro j o h; omega
  | succ n ih =>
    intro j o hj ho hr i hi
    obtain ⟨pre, h1, h2, h3⟩ := masks_at ops.toList [] j o (by simpa using ho)
    simp only [List.length_nil, Nat.zero_add] at h1 h3
    rw [List.getD_eq_getElem?_getD, h3] at hi
    simp only [Option.getD_some] at hi
    rcases foldl_bits pre i _ _ hi with h | ⟨e, he, hb, h⟩
    · simp at h
    · have he' : e ∈ o.after := by simpa using he
      rcases h with rfl | h
      · exact hr e he' hb
      · by_cases hlt : e.on < pre.length
        · have h4 : ((masks ops.toList []).getD e.on 0).testBit i = true := by
            rw [List.getD_eq_getElem?_getD, ← h2 e.on hlt, ← List.getD_eq_getElem?_getD]; exact h
          have hl := hr e he' hb
          cases hoe : ops[e.on]? with
          | none =>
            have hge : ops.toList.length ≤ e.on := by simpa using hoe
            have hjl : j < ops.toList.length := by
              rcases Nat.lt_or_ge j ops.toList.length with h | h
              · exact h
              · rw [Array.getElem?_eq_none (by simpa using h)] at ho; cases ho
            omega
          | some o' => exact ih e.on o' (by omega) hoe (hD e.on o' hoe hl) i h4
        · rw [List.getD_eq_getElem?_getD, List.getElem?_eq_none (by omega)] at h
          simp at h

def noSel (o : Oper) : Bool := match o.op with | .select .. => false | _ => true

/-- the check, by the kernel -/
def ok (hs : List Nat) (ops : Array Oper) : Bool :=
  let M := masks ops.toList []
  (List.range ops.size).all fun j => match ops[j]? with
    | some oj => noSel oj && (oj.after.all fun e => !Region.binds .any e || decide (e.on < j)) && (List.range j).all fun i => (M.getD j 0).testBit i || pair ops hs i j
    | none => true

theorem any_of_lex {Q : Exit → Act → World → Prop} (hok : ok hs ops = true) : ∀ (fuel : Nat) (L : List Nat) (listed : Array Bool) (a : Act) (w : World), C w → L.length = fuel →
    (∀ i, i ∈ L ↔ i < ops.size ∧ listed.getD i true = false) → L.Pairwise (· < ·) → Down ops listed → listed.size = ops.size → lexN P ops C hs (fun a w => Q .normal a w) L a w → wpAny P .any ops Q fuel listed a w := by
  have hok' : ∀ (j : Nat) (oj : Oper), ops[j]? = some oj → noSel oj = true ∧ (∀ e ∈ oj.after, Region.binds .any e = true → e.on < j) ∧ ∀ i, i < j → ((masks ops.toList []).getD j 0).testBit i = true ∨ pair ops hs i j = true := by
    intro j oj hj
    have hlt : j < ops.size := (Array.getElem?_eq_some_iff.1 hj).1
    have h1 := List.all_eq_true.1 hok j (List.mem_range.2 hlt)
    simp only [hj, Bool.and_eq_true] at h1
    obtain ⟨⟨h2, h3⟩, h4⟩ := h1
    refine ⟨h2, fun e he hb => ?_, fun i hi => ?_⟩
    · have := Array.all_eq_true'.1 h3 e he
      simpa [hb] using this
    · have := List.all_eq_true.1 h4 i (List.mem_range.2 hi)
      simpa using this
  have hsel : ∀ (j : Nat) (o : Oper) cs b, ops[j]? = some o → o.op ≠ .select cs b := by
    intro j o cs b hj he
    have := (hok' j o hj).1
    simp [noSel, he] at this
  intro fuel
  induction fuel with
  | zero =>
    intro L listed a w hC hL hm hs' hD hsz h
    have hnil : L = [] := List.eq_nil_of_length_eq_zero hL
    subst hnil
    refine ⟨?_, h⟩
    cases hr : Region.ready .any ops listed with
    | nil => rfl
    | cons x xs =>
      have hx : x ∈ Region.ready .any ops listed := by rw [hr]; simp
      obtain ⟨h1, o, ho, _⟩ := mem_ready.1 hx
      have : x ∈ ([] : List Nat) := (hm x).2 ⟨(Array.getElem?_eq_some_iff.1 ho).1, h1⟩
      cases this
  | succ fuel ih =>
    intro L listed a w hC hL hm hs' hD hsz h
    refine ⟨fun hr => ?_, fun j hj => ?_⟩
    · exfalso
      cases L with
      | nil => simp at hL
      | cons i L =>
        obtain ⟨hi1, hi2⟩ := (hm i).1 (by simp)
        have ho : ops[i]? = some ops[i] := Array.getElem?_eq_getElem hi1
        have hri : i ∈ Region.ready .any ops listed := by
          refine mem_ready.2 ⟨hi2, _, ho, fun e he hb => ?_⟩
          have hlt := (hok' i _ ho).2.1 e he hb
          by_cases hle : listed.getD e.on true = false
          · have hmem : e.on ∈ i :: L := (hm e.on).2 ⟨by omega, hle⟩
            rcases List.mem_cons.1 hmem with h | h
            · omega
            · have := (List.pairwise_cons.1 hs').1 e.on h
              omega
          · have hb2 : e.on < listed.size := by omega
            simp only [Array.getD_eq_getD_getElem?, Array.getElem?_eq_getElem hb2, Option.getD_some] at hle ⊢
            simpa using hle
        rw [hr] at hri
        cases hri
    · obtain ⟨hj1, oj, hoj, hjr⟩ := mem_ready.1 hj
      have hjlt : j < ops.size := (Array.getElem?_eq_some_iff.1 hoj).1
      have hmem : j ∈ L := (hm j).2 ⟨hjlt, hj1⟩
      obtain ⟨pre, post, rfl⟩ := List.append_of_mem hmem
      have hpre : ∀ i ∈ pre, i < j := by
        intro i hi
        exact (List.pairwise_append.1 hs').2.2 i hi j (by simp)
      have hpost : ∀ i ∈ post, j < i := fun i hi => (List.pairwise_cons.1 (List.pairwise_append.1 hs').2.1).1 i hi
      have hpair : ∀ i ∈ pre, pair ops hs i j = true := by
        intro i hi
        rcases (hok' j oj hoj).2.2 i (hpre i hi) with h1 | h1
        · exfalso
          have hl := masks_sound hD (j + 1) j oj (by omega) hoj hjr i h1
          obtain ⟨hi1, hi2⟩ := (hm i).1 (by simp [hi])
          have hb2 : i < listed.size := by omega
          simp only [Array.getD_eq_getD_getElem?, Array.getElem?_eq_getElem hb2, Option.getD_some] at hl hi2
          rw [hl] at hi2
          cases hi2
        · exact h1
      have h1 := pull hoj hsel post pre a w hpair hC h
      have hset : ∀ i, (listed.setIfInBounds j true).getD i true = false ↔ (listed.getD i true = false ∧ i ≠ j) := by
        intro i
        by_cases hij : i = j
        · subst hij
          simp [Array.getD_eq_getD_getElem?, Array.getElem?_setIfInBounds]
          split <;> simp_all
        · simp [Array.getD_eq_getD_getElem?, Array.getElem?_setIfInBounds_ne (Ne.symm hij), hij]
      have h2 : step P ops C hs j oj (wpAny P .any ops Q fuel (listed.setIfInBounds j true)) a w := by
        refine step_mono hC h1 fun a' w' hC' _ hK => ih (pre ++ post) _ a' w' hC' ?_ ?_ ?_ ?_ (by simp [hsz]) hK
        · simp at hL ⊢; omega
        · intro i
          rw [hset]
          constructor
          · intro hi
            have hi' : i ∈ pre ++ j :: post := by
              rcases List.mem_append.1 hi with h | h
              · simp [h]
              · simp [h]
            obtain ⟨q1, q2⟩ := (hm i).1 hi'
            refine ⟨q1, q2, ?_⟩
            rcases List.mem_append.1 hi with h | h
            · have := hpre i h; omega
            · have := hpost i h; omega
          · rintro ⟨q1, q2, q3⟩
            have := (hm i).2 ⟨q1, q2⟩
            rcases List.mem_append.1 this with h | h
            · simp [h]
            · rcases List.mem_cons.1 h with h | h
              · exact absurd h q3
              · simp [h]
        · have hp := List.pairwise_append.1 hs'
          refine List.pairwise_append.2 ⟨hp.1, (List.pairwise_cons.1 hp.2.1).2, fun x hx y hy => ?_⟩
          have := hpre x hx
          have := hpost y hy
          omega
        · intro j' o' ho' hl' e he hb
          by_cases hjj : j' = j
          · subst hjj
            rw [hoj] at ho'
            injection ho' with ho'
            subst ho'
            exact getD_set_true (hjr e he hb)
          · rw [getD_set_ne false (Ne.symm hjj)] at hl'
            exact getD_set_true (hD j' o' ho' hl' e he hb)
      unfold step at h2
      unfold wpOp
      simp only [hoj]
      split
      · rename_i hw
        rw [if_pos hw] at h2
        left
        rcases h2 with ⟨_, v, h3, h4⟩ | ⟨_, v, h3, h4⟩ | ⟨_, h3⟩
        · unfold Oper.wp; rw [h3 w hC]; exact h4
        · unfold Oper.wp; rw [h3]; exact h4
        · exact Oper.wp_mono (fun _ _ hh => hh.2) (wp_noQ h3)
      · rename_i hw
        rw [if_neg hw] at h2
        exact h2

/-- the walk over the operations themselves -/
def lex (P : Program) (ops : Array Oper) (C : World → Prop) (hs : List Nat) (Q : Act → World → Prop) : Nat → List Oper → Act → World → Prop
  | _, [], a, w => Q a w
  | k, o :: r, a, w => step P ops C hs k o (lex P ops C hs Q (k + 1) r) a w

theorem lexN_of_lex {Q : Act → World → Prop} : ∀ (l : List Oper) (k : Nat), (∀ m, l[m]? = ops[k + m]?) → lex P ops C hs Q k l = lexN P ops C hs Q (List.range' k l.length) := by
  intro l
  induction l with
  | nil => intro k _; funext a w; simp [lex, lexN]
  | cons o r ih =>
    intro k h
    have h0 : ops[k]? = some o := by simpa using (h 0).symm
    have ih' := ih (k + 1) (fun m => by have := h (m + 1); simpa [Nat.add_assoc, Nat.add_comm 1 m] using this)
    funext a w
    simp only [lex, List.length_cons, List.range'_succ, lexN, h0, ih']

end

/-- THE REGION: one walk in the order of the text serves every order. -/
theorem region {P : Program} {C : World → Prop} {hs : List Nat} {id : Nat} {l : List Oper} {Q : Exit → Act → World → Prop} {a : Act} {w : World} (hm : P.follows .mixedOrders = true) (hok : ok hs l.toArray = true) (hC : C w.drew)
    (h : lex P l.toArray C hs (fun a w => Q .normal a w) 0 l a w.drew) : (Code.region id l.toArray true).wp P Q a w := by
  refine wp_region_any hm ?_
  refine any_of_lex (C := C) (hs := hs) hok _ (List.range l.length) _ a _ hC (by simp) ?_ List.pairwise_lt_range ?_ (by simp) ?_
  · intro i
    simp [Array.getD_eq_getD_getElem?, Array.getElem?_replicate]
    intro hi
    simp [hi]
  · intro j o ho hl
    simp [Array.getD_eq_getD_getElem?, Array.getElem?_replicate] at hl
    split at hl <;> simp at hl
  · have := lexN_of_lex (P := P) (ops := l.toArray) (C := C) (hs := hs) (Q := fun a w => Q .normal a w) l 0 (fun m => by simp)
    rw [this, ← List.range_eq_range'] at h
    exact h

section
variable {ops : Array Oper} {o : Oper} {ts : Array Value} {j : Nat} {d : Tmp} {b want : Bool}
theorem w0 (hg : o.guard = none) : Region.wanted o (yielded ops ts) = true := by simp [Region.wanted, hg]
theorem w1 (hg : o.guard = some (j, want)) (hd : (ops[j]?).bind (·.dst) = some d) (ht : ts[d]? = some (.bool b)) (hb : b = want) : Region.wanted o (yielded ops ts) = true := by
  simp [Region.wanted, hg, yielded, hd, ht, hb]
theorem n1 (hg : o.guard = some (j, true)) (hd : (ops[j]?).bind (·.dst) = some d) (ht : ts[d]? = some (.bool b)) (hb : b = false) : Region.wanted o (yielded ops ts) = false := by
  simp [Region.wanted, hg, yielded, hd, ht, hb]
theorem n0 (hg : o.guard = some (j, false)) (hd : (ops[j]?).bind (·.dst) = some d) (ht : ts[d]? = some (.bool b)) (hb : b = true) : Region.wanted o (yielded ops ts) = false := by
  simp [Region.wanted, hg, yielded, hd, ht, hb]
theorem n2 (hg : o.guard = some (j, want)) (hd : (ops[j]?).bind (·.dst) = some d) (ht : ts[d]? = some undef) : Region.wanted o (yielded ops ts) = false := by
  simp [Region.wanted, hg, yielded, hd, ht, undef]
end
section
variable {P : Program} {ops : Array Oper} {C : World → Prop} {hs : List Nat} {Q : Act → World → Prop} {k : Nat} {o : Oper} {r : List Oper} {a : Act} {w : World}
theorem lex_nil (h : Q a w) : lex P ops C hs Q k [] a w := h
theorem lex_no (hw : Region.wanted o (yielded ops a.tmps) = false) (h : ∀ K : Act → Prop, (∀ a', lex P ops C hs Q (k + 1) r a' w → K a') → K (a.put o.dst undef)) : lex P ops C hs Q k (o :: r) a w := by
  simp only [lex, step, hw, Bool.false_eq_true, if_false]
  exact h _ fun _ h => h
theorem lex_pure {v : Value} (hk : kind hs k o = 0) (hw : Region.wanted o (yielded ops a.tmps) = true) (hr : ∀ w', C w' → (execOp a.eval o).run P w' = .ok (.value v) w')
    (h : ∀ K : Act → Prop, (∀ a', lex P ops C hs Q (k + 1) r a' w → K a') → K (a.put o.dst v)) : lex P ops C hs Q k (o :: r) a w := by
  simp only [lex, step, hw, if_true]
  exact .inl ⟨hk, v, hr, h _ fun _ h => h⟩
theorem lex_read {v : Value} (hk : kind hs k o = 1) (hw : Region.wanted o (yielded ops a.tmps) = true) (hr : (execOp a.eval o).run P w = .ok (.value v) w)
    (h : ∀ K : Act → Prop, (∀ a', lex P ops C hs Q (k + 1) r a' w → K a') → K (a.put o.dst v)) : lex P ops C hs Q k (o :: r) a w := by
  simp only [lex, step, hw, if_true]
  exact .inr (.inl ⟨hk, v, hr, h _ fun _ h => h⟩)
theorem lex_eff (hk : kind hs k o = 2) (hw : Region.wanted o (yielded ops a.tmps) = true)
    (h : ∀ K : Act → World → Prop, (∀ a' w', C w' → lex P ops C hs Q (k + 1) r a' w' → K a' w') → o.wp P a w K NoQ) : lex P ops C hs Q k (o :: r) a w := by
  simp only [lex, step, hw, if_true]
  exact .inr (.inr ⟨hk, h _ fun _ _ h1 h2 => ⟨h1, h2⟩⟩)
end
section
variable {P : Program} {ops : Array Oper} {C : World → Prop} {hs : List Nat} {Q : Act → World → Prop} {k : Nat} {o : Oper} {r : List Oper} {a : Act} {w : World}
/-- a guard that is not decided yet -/
theorem lex_cases {j : Nat} {d : Tmp} {b want : Bool} (_ : o.guard = some (j, want)) (_ : (ops[j]?).bind (·.dst) = some d) (_ : a.tmps[d]? = some (.bool b))
    (h1 : b = true → ∀ K : Act → Prop, (∀ a', lex P ops C hs Q k (o :: r) a' w → K a') → K a)
    (h2 : b = false → ∀ K : Act → Prop, (∀ a', lex P ops C hs Q k (o :: r) a' w → K a') → K a) : lex P ops C hs Q k (o :: r) a w := by
  cases b
  · exact h2 rfl _ fun _ h => h
  · exact h1 rfl _ fun _ h => h
end
attribute [irreducible] lex
end Lx
end Go.Proofs.Ytpdhelhngdeoeaa
