/- A region that draws its order of evaluation, in a round of a range over a function: walked once in the order of the text. Nothing of the program is named here. -/
import Derived.Test.YtpdhelhngdeoeaaLex
import Derived.OrdersIn
import Derived.RangeFuncCalls
namespace Go.Proofs.Ytpdhelhngdeoeaa
open Go.RowKit

namespace Lx
/-- an operation that is no defer does in a round what it does elsewhere -/
theorem wpIn_of_wp {P : Program} {l n : Nat} {o : Oper} {a : Act} {w : World} {K : Act → World → Prop} {Q Q' : Exit → Act → World → Prop} (hnd : ∀ c, o.op ≠ .defer c) (hQ : ∀ e a w, Q e a w → e = .normal) (h : o.wp P a w K Q) : o.wpIn (Fence.wide.inRound l) n P a w K Q' := by
  unfold Oper.wpIn
  refine ⟨fun _ _ => trivial, ?_⟩
  rw [Oper.semAt_eq _ _ _ hnd]
  unfold Oper.wp at h
  generalize (execOp a.eval o).run P w = r at *
  cases r with
  | ok x w' =>
    cases x with
    | value v => exact h
    | skip => exact h
    | defer d => exact h
    | enter f args =>
      refine ⟨fun hd => (by cases hd), CallsIn.inRound l (callsIn_wide.2 (Calls.mono h ?_))⟩
      intro e w'' he
      cases e with
      | returned v => exact he
      | panicked c => exact absurd (hQ _ _ _ he) (by simp)
      | outgrown => obtain ⟨a', w3, hq⟩ := he; exact absurd (hQ _ _ _ hq) (by simp)
    | row row args => exact ⟨fun hd => (by cases hd), fun c cs _ => let ⟨v, w2, r, s⟩ := h c cs; ⟨v, w2, r, stepsIn_wide.2 s⟩⟩
    | _ => exact h.elim
  | halt x w' =>
    cases x with
    | panic v => exact absurd (hQ _ _ _ h) (by simp)
    | _ => exact h.elim

theorem anyIn_of_any {P : Program} {l n : Nat} {ops : Array Oper} {Q : Exit → Act → World → Prop} (hnd : ∀ (i : Nat) (o : Oper), ops[i]? = some o → ∀ c, o.op ≠ .defer c) :
    ∀ (fuel : Nat) (listed : Array Bool) (a : Act) (w : World), wpAny P .any ops (fun e a w => e = .normal ∧ Q .normal a w) fuel listed a w → wpAnyIn (Fence.wide.inRound l) n P .any ops Q fuel listed a w := by
  intro fuel
  induction fuel with
  | zero => intro listed a w h; exact ⟨h.1, h.2.2⟩
  | succ fuel ih =>
    intro listed a w h
    refine ⟨fun hr => (h.1 hr).2, fun i hi => ?_⟩
    have h1 := h.2 i hi
    unfold wpOp at h1
    unfold wpOpIn
    cases ho : ops[i]? with
    | none => rw [ho] at h1; exact ih _ _ _ h1
    | some o =>
      rw [ho] at h1
      dsimp only at h1 ⊢
      split
      · rename_i hw
        rw [if_pos hw] at h1
        rcases h1 with h2 | ⟨_, a', w', h2, _⟩
        · exact Oper.wpIn_mono (fun a w => ih _ a w) (wpIn_of_wp (hnd i o ho) (fun e _ _ he => he.1) h2)
        · cases h2
      · rename_i hw
        rw [if_neg hw] at h1
        exact ⟨fun _ _ => trivial, ih _ _ _ h1⟩

def noDefer (l : List Oper) : Bool := l.all fun o => match o.op with | .defer _ => false | _ => true

/-- THE REGION, in a round -/
theorem regionIn {P : Program} {C : World → Prop} {hs : List Nat} {id r n : Nat} {l : List Oper} {Q : Exit → Act → World → Prop} {a : Act} {w : World} (hm : P.follows .mixedOrders = true) (hok : ok hs l.toArray = true) (hd : noDefer l = true) (hC : C w.drew)
    (h : lex P l.toArray C hs (fun a w => Q .normal a w) 0 l a w.drew) : (Code.region id l.toArray true).wpIn (Fence.wide.inRound r) n P Q a w := by
  refine wpIn_region_any hm (anyIn_of_any (fun i o ho c hc => ?_) _ _ _ _ ?_)
  · have hmem : o ∈ l := by have : l[i]? = some o := by simpa using ho
                            exact List.mem_of_getElem? this
    have := List.all_eq_true.1 hd o hmem
    rw [hc] at this
    cases this
  · refine any_of_lex (C := C) (hs := hs) hok _ (List.range l.length) _ a _ hC (by simp) ?_ List.pairwise_lt_range ?_ (by simp) ?_
    · intro i
      simp [Array.getD_eq_getD_getElem?, Array.getElem?_replicate]
      intro hi
      simp [hi]
    · intro j o ho hl
      simp [Array.getD_eq_getD_getElem?, Array.getElem?_replicate] at hl
      split at hl <;> simp at hl
    · have h1 := lexN_of_lex (P := P) (ops := l.toArray) (C := C) (hs := hs) (Q := fun a w => Q .normal a w) l 0 (fun m => by simp)
      rw [h1, ← List.range_eq_range'] at h
      have h2 : (fun a w => (fun e a w => e = Exit.normal ∧ Q Exit.normal a w) Exit.normal a w) = fun a w => Q Exit.normal a w := by
        funext a w; simp
      rw [h2]
      exact h
end Lx
end Go.Proofs.Ytpdhelhngdeoeaa
