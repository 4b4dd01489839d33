/- How a slice of products and a bidder that came in read. -/
import Derived.Test.YtoafkphcfhbnmaaOpen
import Derived.Test.YtoafkphcfhbnmaaDemB
import Derived.Test.YtoafkphcfhbnmaaChecked
import Derived.KernelRfl
import Derived.Lib.SmallJoins
namespace Go.Proofs.Ytoafkphcfhbnmaa
open Go.RowKit Go.ChangeShapes Go.WideShapes Go.ChangeAt Go.Deep Go.Joins

section
variable {H : Type} {enc : TypeId × Value → H} {w : World} {base b0 : Nat} {spare : Nat → Bool} {held : Bool} {r : Reach}

theorem prods_of_trod {fuel : Nat} {A : Option Addr} {n c : Nat} {x : DataW H × List MemPlace} (hf : DataW.trod enc Try.prog w base spare held fuel 22 [.slice A n c] = some x) :
    n ≤ 9223372036854775807 ∧ ∃ xs : List Prod, RowS 5 Prod.cell w w.heap.size A n xs := by
  obtain ⟨hn, G, m, h1, h2⟩ := elems_of_trod (sz := 5) Try.underlying22 (by kernel_rfl) (by omega) hf
  refine ⟨hn, ?_⟩
  obtain ⟨xs, hx, _⟩ := rowS_of_elems (w := w) (A := A) Prod.cell (fun _ => True) G (fun i hi => by
    obtain ⟨_, y, hy⟩ := h1 i hi
    obtain ⟨g, hg⟩ := ints_of_struct Try.underlying51 (by kernel_rfl) (by kernel_rfl) (by kernel_rfl) hy
    refine ⟨⟨g 0, g 1, g 2, g 3, g 4⟩, trivial, fun j hj => ?_⟩
    have := (hg j hj).1
    match j, hj with
    | 0, _ => exact this
    | 1, _ => exact this
    | 2, _ => exact this
    | 3, _ => exact this
    | 4, _ => exact this) h2
  exact ⟨xs, hx⟩

theorem arg_prods {v : Value} {d : DataW H} {p : List MemPlace} (hv : Value.okWide Try.prog w r b0 22 v) (h : DataW.Trod enc Try.prog w base spare held 22 v d p) :
    ∃ A n c xs, v = .slice A n c ∧ RowS 5 Prod.cell w w.heap.size A n xs ∧ n ≤ 9223372036854775807 := by
  obtain ⟨A, n, c, rfl⟩ := okWide_slice Try.underlying22 hv
  obtain ⟨fuel, hf⟩ := h
  obtain ⟨h1, xs, h2⟩ := prods_of_trod (by simpa [Value.cells] using hf)
  exact ⟨A, n, c, xs, rfl, h2, h1⟩

/-- four cells that read as a bidder -/
theorem bidr_of_cells {fuel : Nat} {cs : List Value} {y : DataW H × List MemPlace} (h : DataW.trod enc Try.prog w base spare held fuel 56 cs = some y) :
    ∃ b : Bidr, (∀ j, j < 4 → cs[j]? = some (b.cell j)) ∧ Row1 intV w w.heap.size b.adr b.len b.blocks ∧ b.len ≤ 9223372036854775807 := by
  obtain ⟨m, hm⟩ := fields_of_trod Try.underlying56 (by kernel_rfl) (by kernel_rfl) h
  obtain ⟨v0, z0, c0, t0⟩ := hm 0 _ rfl
  obtain ⟨v1, z1, c1, t1⟩ := hm 1 _ rfl
  obtain ⟨v2, z2, c2, t2⟩ := hm 2 _ rfl
  obtain ⟨v3, z3, c3, t3⟩ := hm 3 _ rfl
  obtain ⟨a0, e0, _, _⟩ := DataW.trod_int Try.underlying3 t0
  obtain ⟨a1, e1, _, _⟩ := DataW.trod_int Try.underlying3 t1
  obtain ⟨a2, e2, _, _⟩ := DataW.trod_int Try.underlying3 t2
  obtain ⟨A, n, c, e3⟩ := slice_form Try.underlying23 t3
  simp at e0 e1 e2 e3
  subst e0 e1 e2 e3
  obtain ⟨xs, hr, _, hn⟩ := ints_of_trod Try.underlying23 Try.underlying3 (by kernel_rfl) t3
  refine ⟨⟨a0, a1, a2, A, n, c, xs⟩, fun j hj => ?_, hr, hn⟩
  match j, hj with
  | 0, _ => exact c0
  | 1, _ => exact c1
  | 2, _ => exact c2
  | 3, _ => exact c3

theorem arg_bidr {v : Value} {d : DataW H} {p : List MemPlace} (hv : Value.okWide Try.prog w r b0 56 v) (h : DataW.Trod enc Try.prog w base spare held 56 v d p) :
    ∃ b : Bidr, v = b.val ∧ Row1 intV w w.heap.size b.adr b.len b.blocks ∧ b.len ≤ 9223372036854775807 := by
  obtain ⟨cs, rfl, hsz⟩ := okWide_struct Try.underlying56 hv
  obtain ⟨fuel, hf⟩ := h
  obtain ⟨b, h1, h2, h3⟩ := bidr_of_cells (by simpa [Value.cells] using hf)
  refine ⟨b, ?_, h2, h3⟩
  unfold Bidr.val
  congr 1
  have hs4 : cs.size = 4 := hsz.trans (by kernel_rfl)
  apply Array.ext_getElem?
  intro j
  by_cases hj : j < 4
  · have := h1 j hj
    simp at this
    rw [this]
    match j, hj with
    | 0, _ => rfl
    | 1, _ => rfl
    | 2, _ => rfl
    | 3, _ => rfl
  · rw [Array.getElem?_eq_none (by omega), Array.getElem?_eq_none (by simp; omega)]

theorem arg_bidrs {v : Value} {d : DataW H} {p : List MemPlace} (hv : Value.okWide Try.prog w r b0 34 v) (h : DataW.Trod enc Try.prog w base spare held 34 v d p) :
    ∃ A n c xs, v = .slice A n c ∧ BidsAt w w.heap.size A n xs ∧ n ≤ 9223372036854775807 := by
  obtain ⟨A, n, c, rfl⟩ := okWide_slice Try.underlying34 hv
  obtain ⟨fuel, hf⟩ := h
  obtain ⟨hn, G, m, h1, h2⟩ := elems_of_trod (sz := 4) Try.underlying34 (by kernel_rfl) (by omega) (by simpa [Value.cells] using hf)
  obtain ⟨xs, hx, hp⟩ := rowS_of_elems (w := w) (A := A) Bidr.cell (fun b => Row1 intV w w.heap.size b.adr b.len b.blocks) G (fun i hi => by
    obtain ⟨_, y, hy⟩ := h1 i hi
    obtain ⟨b, h3, h4, _⟩ := bidr_of_cells hy
    exact ⟨b, h4, h3⟩) h2
  exact ⟨A, n, c, xs, rfl, ⟨hx, hp⟩, hn⟩
end
end Go.Proofs.Ytoafkphcfhbnmaa
