/- Words for memory and lists, used by all texts of this seat. Nothing of the program is named here. -/
import Derived.WalkKit
import Derived.WalkLawsBesides
import Derived.Lib.Hide
namespace Go.Proofs.Ytpdhelhngdeoeaa
open Go.RowKit

/-- The numbers of Go's int. -/
def I64 (n : Int) : Prop := -9223372036854775808 ≤ n ∧ n ≤ 9223372036854775807

/-- A leads to n elements of one cell each, below block B; element k is f (xs[k]). -/
def Row1 {α : Type} (f : α → Value) (w : World) (B : Nat) (A : Option Addr) (n : Nat) (xs : List α) : Prop :=
  xs.length = n ∧ (0 < n → ∃ b off, A = some ⟨b, off, none⟩ ∧ b < B ∧ ∀ k x, xs[k]? = some x → w.cell? ⟨b, off + k, none⟩ = some (f x))

/-- A leads to n elements of sz cells each, below block B; cell j of element k is f (xs[k]) j. -/
def RowS {α : Type} (sz : Nat) (f : α → Nat → Value) (w : World) (B : Nat) (A : Option Addr) (n : Nat) (xs : List α) : Prop :=
  xs.length = n ∧ (0 < n → ∃ b off, A = some ⟨b, off, none⟩ ∧ b < B ∧ ∀ k x, xs[k]? = some x → ∀ j, j < sz → w.cell? ⟨b, off + k * sz + j, none⟩ = some (f x j))

/-- An equation that the walk does not take for a rule. -/
def Eqn {α : Type} (a b : α) : Prop := a = b
theorem Eqn.out {α : Type} {a b : α} (h : Eqn a b) : a = b := h
theorem Eqn.mk {α : Type} {a b : α} (h : a = b) : Eqn a b := h

theorem drop_at {α : Type} {xs : List α} {k : Nat} (h : k < xs.length) : ∃ x, xs[k]? = some x ∧ xs.drop k = x :: xs.drop (k + 1) :=
  ⟨xs[k], List.getElem?_eq_getElem h, List.drop_eq_getElem_cons h⟩

theorem drop_end {α : Type} {xs : List α} {k : Nat} (h : xs.length ≤ k) : xs.drop k = [] := List.drop_eq_nil_of_le h

section
variable {α : Type} {f : α → Value} {g : α → Nat → Value} {sz : Nat} {w w' : World} {B B' : Nat} {A : Option Addr} {n : Nat} {xs : List α}
theorem Row1.below (h : Row1 f w B A n xs) (hb : Below B w w') : Row1 f w' B A n xs :=
  ⟨h.1, fun hn => by
    obtain ⟨b, off, e, hlt, hc⟩ := h.2 hn
    exact ⟨b, off, e, hlt, fun k x hx => (hb.cell (p := ⟨b, off + k, none⟩) hlt).trans (hc k x hx)⟩⟩
theorem RowS.below (h : RowS sz g w B A n xs) (hb : Below B w w') : RowS sz g w' B A n xs :=
  ⟨h.1, fun hn => by
    obtain ⟨b, off, e, hlt, hc⟩ := h.2 hn
    exact ⟨b, off, e, hlt, fun k x hx j hj => (hb.cell (p := ⟨b, off + k * sz + j, none⟩) hlt).trans (hc k x hx j hj)⟩⟩
theorem Row1.up (h : Row1 f w B A n xs) (hB : B ≤ B') : Row1 f w B' A n xs :=
  ⟨h.1, fun hn => by
    obtain ⟨b, off, e, hlt, hc⟩ := h.2 hn
    exact ⟨b, off, e, Nat.lt_of_lt_of_le hlt hB, hc⟩⟩
theorem RowS.up (h : RowS sz g w B A n xs) (hB : B ≤ B') : RowS sz g w B' A n xs :=
  ⟨h.1, fun hn => by
    obtain ⟨b, off, e, hlt, hc⟩ := h.2 hn
    exact ⟨b, off, e, Nat.lt_of_lt_of_le hlt hB, hc⟩⟩
theorem Row1.keep (h : Row1 f w w.heap.size A n xs) (hb : Below w.heap.size w w') : Row1 f w' w'.heap.size A n xs := (h.below hb).up hb.size
theorem RowS.keep (h : RowS sz g w w.heap.size A n xs) (hb : Below w.heap.size w w') : RowS sz g w' w'.heap.size A n xs := (h.below hb).up hb.size
theorem Row1.nil (f : α → Value) (w : World) (B : Nat) (A : Option Addr) : Row1 f w B A 0 [] := ⟨rfl, fun h => absurd h (by omega)⟩
theorem RowS.nil (sz : Nat) (g : α → Nat → Value) (w : World) (B : Nat) (A : Option Addr) : RowS sz g w B A 0 [] := ⟨rfl, fun h => absurd h (by omega)⟩
end

theorem ret_int {k : IntKind} {a b : Int} (h : a = b) : Ending.returned (.int k a) = .returned (.int k b) := by rw [h]
theorem ret_bool {a b : Bool} (h : a = b) : Ending.returned (.bool a) = .returned (.bool b) := by rw [h]

theorem below_drewN {B : Nat} {a w : World} (h : Below B a w) (n : Nat) : Below B a (w.drewN n) := ⟨h.os, h.tape, h.output, h.size, h.block⟩

/-- the cells of a row of structs -/
def flat {α : Type} (sz : Nat) (f : α → Nat → Value) (xs : List α) : List Value := xs.flatMap fun x => (List.range sz).map (f x)

theorem flat_at {α : Type} (sz : Nat) (f : α → Nat → Value) (xs : List α) : ∀ (k : Nat) (x : α), xs[k]? = some x → ∀ j, j < sz → (flat sz f xs)[k * sz + j]? = some (f x j) := by
  unfold flat
  induction xs with
  | nil => intro k x hx; simp at hx
  | cons y ys ih =>
    intro k x hx j hj
    rw [List.flatMap_cons]
    cases k with
    | zero =>
      simp at hx
      subst hx
      rw [List.getElem?_append_left (by simpa using hj)]
      simp [hj]
    | succ k =>
      simp at hx
      rw [List.getElem?_append_right (by simp [Nat.succ_mul]; omega)]
      have := ih k x hx j hj
      rw [show (k + 1) * sz + j - ((List.range sz).map (f y)).length = k * sz + j by simp [Nat.succ_mul]; omega]
      exact this

/-- a slice of structs that the call itself has laid -/
theorem rowS_new {α : Type} (w : World) (sz : Nat) (f : α → Nat → Value) (t : TypeId) (xs : List α) : RowS sz f (w.alloc (.cells (flat sz f xs).toArray t)) (w.heap.size + 1) (some ⟨w.heap.size, 0, none⟩) xs.length xs := by
  refine ⟨rfl, fun _ => ⟨w.heap.size, 0, rfl, by omega, fun k x hx j hj => ?_⟩⟩
  have hh : (w.alloc (.cells (flat sz f xs).toArray t)).heap[w.heap.size]? = some (.cells (flat sz f xs).toArray t (0, 0)) := heap_alloc_new w _
  simp only [World.cell?, hh]
  simpa using flat_at sz f xs k x hx j hj

/-- a slice of one-cell elements that the call itself has laid -/
theorem row1_new {α : Type} (w : World) (f : α → Value) (t : TypeId) (xs : List α) : Row1 f (w.alloc (.cells (xs.map f).toArray t)) (w.heap.size + 1) (some ⟨w.heap.size, 0, none⟩) xs.length xs := by
  refine ⟨rfl, fun _ => ⟨w.heap.size, 0, rfl, by omega, fun k x hx => ?_⟩⟩
  have hh : (w.alloc (.cells (xs.map f).toArray t)).heap[w.heap.size]? = some (.cells (xs.map f).toArray t (0, 0)) := heap_alloc_new w _
  simp only [World.cell?, hh]
  simp [hx]
end Go.Proofs.Ytpdhelhngdeoeaa
