/- The reference of layer 17: ValidRules. -/
import Derived.Test.YtpdhelhngdeoeaaRa17
namespace Go.Proofs.Ytpdhelhngdeoeaa
open Go.RowKit

def prevR {α : Type} (l : List α) (k : Nat) : Option α := if k = 0 then none else l[k - 1]?
theorem prevR_zero {α : Type} (l : List α) : prevR l 0 = none := rfl
theorem prevR_succ {α : Type} (l : List α) (k : Nat) : prevR l (k + 1) = l[k]? := by unfold prevR; rw [if_neg (by omega), Nat.add_sub_cancel]
theorem goF_cons {α : Type} (good : α → Bool) (nums : α → List Int) (prev : Option α) (x : α) (r : List α) : goF good nums prev (x :: r) = if good x && (match prev with | none => true | some y => lessL (nums y) (nums x)) then goF good nums (some x) r else false := rfl
theorem goF_bad {α : Type} {good : α → Bool} {nums : α → List Int} {prev : Option α} {x : α} {r : List α} (h : good x = false) : goF good nums prev (x :: r) = false := by rw [goF_cons, h]; simp
theorem goF_first {α : Type} {good : α → Bool} {nums : α → List Int} {x : α} {r : List α} (h : good x = true) : goF good nums none (x :: r) = goF good nums (some x) r := by rw [goF_cons, h]; simp
theorem goF_less {α : Type} {good : α → Bool} {nums : α → List Int} {x y : α} {r : List α} (h : good x = true) (h2 : lessL (nums y) (nums x) = true) : goF good nums (some y) (x :: r) = goF good nums (some x) r := by rw [goF_cons, h]; simp [h2]
theorem goF_not {α : Type} {good : α → Bool} {nums : α → List Int} {x y : α} {r : List α} (h2 : lessL (nums y) (nums x) = false) : goF good nums (some y) (x :: r) = false := by rw [goF_cons]; simp [h2]


/-- the loops of a code, in their order -/
def loopsOf : Code → List Code
  | .loop c => c :: loopsOf c
  | .seq a b => loopsOf a ++ loopsOf b
  | .block _ c => loopsOf c
  | .cond _ a b => loopsOf a ++ loopsOf b
  | _ => []
noncomputable def rvLoop (k : Nat) : Code := ((Try.f26.body.map loopsOf).getD []).getD k .skip
theorem cell_lt {w : World} {a : Addr} {v : Value} (h : w.cell? a = some v) : a.block < w.heap.size := by
  unfold World.cell? at h
  cases hh : w.heap[a.block]? with
  | none => simp [hh] at h
  | some o => exact (Array.getElem?_eq_some_iff.1 hh).1

end Go.Proofs.Ytpdhelhngdeoeaa
