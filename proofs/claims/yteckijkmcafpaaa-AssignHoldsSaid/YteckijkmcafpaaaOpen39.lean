/- How claims, wishes and slots that came in read. -/
import Derived.Test.YteckijkmcafpaaaOpen
import Derived.Test.YteckijkmcafpaaaTy39
import Derived.Test.YteckijkmcafpaaaChecked
import Derived.Test.YteckijkmcafpaaaRows
import Derived.KernelRfl
import Derived.Lib.SmallJoins
namespace Go.Proofs.Yteckijkmcafpaaa
open Go.RowKit Go.ChangeShapes Go.WideShapes Go.ChangeAt Go.Deep Go.Joins

theorem own : ownKnob Try.prog.godebug = none := by kernel_rfl
theorem laidOut : laidOutB Try.prog = true := by kernel_rfl

section
variable {H : Type} {enc : TypeId × Value → H} {w : World} {base b0 : Nat} {spare : Nat → Bool} {held : Bool} {r : Reach}

theorem arg_claims {v : Value} {d : DataW H} {p : List MemPlace} (hv : Value.okWide Try.prog w r b0 22 v) (h : DataW.Trod enc Try.prog w base spare held 22 v d p) :
    ∃ A n c xs, v = .slice A n c ∧ RowS 2 Claim.cell w w.heap.size A n xs ∧ n ≤ 9223372036854775807 := by
  obtain ⟨A, n, c, rfl⟩ := okWide_slice Try.underlying22 hv
  obtain ⟨fuel, hf⟩ := h
  obtain ⟨hn, G, m, h1, h2⟩ := elems_of_trod (sz := 2) Try.underlying22 (by kernel_rfl) (by omega) (by simpa [Value.cells] using hf)
  obtain ⟨xs, hx, _⟩ := rowS_of_elems (w := w) (A := A) Claim.cell (fun _ => True) G (fun i hi => by
    obtain ⟨_, y, hy⟩ := h1 i hi
    obtain ⟨g, hg⟩ := ints_of_struct Try.underlying59 (by kernel_rfl) (by kernel_rfl) (by kernel_rfl) hy
    refine ⟨⟨g 0, g 1⟩, trivial, fun j hj => ?_⟩
    have := (hg j hj).1
    match j, hj with
    | 0, _ => exact this
    | 1, _ => exact this) h2
  exact ⟨A, n, c, xs, rfl, hx, hn⟩
theorem arg_wishes {v : Value} {d : DataW H} {p : List MemPlace} (hv : Value.okWide Try.prog w r b0 23 v) (h : DataW.Trod enc Try.prog w base spare held 23 v d p) :
    ∃ A n c xs, v = .slice A n c ∧ RowS 3 Wish.cell w w.heap.size A n xs ∧ n ≤ 9223372036854775807 := by
  obtain ⟨A, n, c, rfl⟩ := okWide_slice Try.underlying23 hv
  obtain ⟨fuel, hf⟩ := h
  obtain ⟨hn, G, m, h1, h2⟩ := elems_of_trod (sz := 3) Try.underlying23 (by kernel_rfl) (by omega) (by simpa [Value.cells] using hf)
  obtain ⟨xs, hx, _⟩ := rowS_of_elems (w := w) (A := A) Wish.cell (fun _ => True) G (fun i hi => by
    obtain ⟨_, y, hy⟩ := h1 i hi
    obtain ⟨g, hg⟩ := ints_of_struct Try.underlying61 (by kernel_rfl) (by kernel_rfl) (by kernel_rfl) hy
    refine ⟨⟨g 0, g 1, g 2⟩, trivial, fun j hj => ?_⟩
    have := (hg j hj).1
    match j, hj with
    | 0, _ => exact this
    | 1, _ => exact this
    | 2, _ => exact this) h2
  exact ⟨A, n, c, xs, rfl, hx, hn⟩
theorem arg_slots {v : Value} {d : DataW H} {p : List MemPlace} (hv : Value.okWide Try.prog w r b0 35 v) (h : DataW.Trod enc Try.prog w base spare held 35 v d p) :
    ∃ A n c xs, v = .slice A n c ∧ RowS 3 Slot.cell w w.heap.size A n xs ∧ n ≤ 9223372036854775807 := by
  obtain ⟨A, n, c, rfl⟩ := okWide_slice Try.underlying35 hv
  obtain ⟨fuel, hf⟩ := h
  obtain ⟨hn, G, m, h1, h2⟩ := elems_of_trod (sz := 3) Try.underlying35 (by kernel_rfl) (by omega) (by simpa [Value.cells] using hf)
  obtain ⟨xs, hx, _⟩ := rowS_of_elems (w := w) (A := A) Slot.cell (fun _ => True) G (fun i hi => by
    obtain ⟨_, y, hy⟩ := h1 i hi
    obtain ⟨g, hg⟩ := ints_of_struct Try.underlying56 (by kernel_rfl) (by kernel_rfl) (by kernel_rfl) hy
    refine ⟨⟨g 0, g 1, g 2⟩, trivial, fun j hj => ?_⟩
    have := (hg j hj).1
    match j, hj with
    | 0, _ => exact this
    | 1, _ => exact this
    | 2, _ => exact this) h2
  exact ⟨A, n, c, xs, rfl, hx, hn⟩
end
end Go.Proofs.Yteckijkmcafpaaa
