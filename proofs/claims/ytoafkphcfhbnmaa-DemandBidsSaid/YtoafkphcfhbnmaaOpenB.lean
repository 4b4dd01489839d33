/- How a slice of bids that came in reads. -/
import Derived.Test.YtoafkphcfhbnmaaOpenP
import Derived.Test.YtoafkphcfhbnmaaBids
namespace Go.Proofs.Ytoafkphcfhbnmaa
open Go.RowKit Go.ChangeShapes Go.WideShapes Go.ChangeAt Go.Deep Go.Joins

section
variable {H : Type} {enc : TypeId × Value → H} {w : World} {base b0 : Nat} {spare : Nat → Bool} {held : Bool} {r : Reach}

theorem nat_of_cells {fuel : Nat} {p q : Value} {y : DataW H × List MemPlace} (h : DataW.trod enc Try.prog w base spare held fuel 68 [p, q] = some y) : ∃ b a l c, p = .bool b ∧ q = .slice a l c := by
  obtain ⟨xs, m, _, _, hlen, hxl, hf⟩ := DataW.trod_struct Try.underlying68 h
  have hxl' : xs.length = 2 := hxl
  have h0 : DataW.trod enc Try.prog w base spare held m 4 (List.take (Try.prog.cellsOf 4) (List.drop 0 [p, q])) = xs[0]? := hf 0 _ rfl
  have h1 : DataW.trod enc Try.prog w base spare held m 66 (List.take (Try.prog.cellsOf 66) (List.drop 1 [p, q])) = xs[1]? := hf 1 _ rfl
  rw [List.getElem?_eq_getElem (by omega)] at h0 h1
  rw [show Try.prog.cellsOf 4 = 1 from by kernel_rfl] at h0
  rw [show Try.prog.cellsOf 66 = 1 from by kernel_rfl] at h1
  obtain ⟨b, e0, _⟩ := DataW.trod_bool Try.underlying4 h0
  obtain ⟨a, l, c, e1⟩ := slice_form Try.underlying66 h1
  simp at e0 e1
  exact ⟨b, a, l, c, e0, e1⟩

theorem bid_of_cells {fuel : Nat} {cs : List Value} {y : DataW H × List MemPlace} (h : DataW.trod enc Try.prog w base spare held fuel 72 cs = some y) :
    ∃ b : BidV, ∀ j, j < 7 → cs[j]? = some (b.cell j) := by
  obtain ⟨xs, m, _, _, hlen, hxl, hf⟩ := DataW.trod_struct Try.underlying72 h
  have hlen' : cs.length = 7 := hlen.trans (by kernel_rfl)
  have hxl' : xs.length = 4 := hxl
  match cs, hlen' with
  | [a, b, c, d, e, f, g], _ =>
    have h0 : DataW.trod enc Try.prog w base spare held m 3 (List.take (Try.prog.cellsOf 3) (List.drop 0 [a, b, c, d, e, f, g])) = xs[0]? := hf 0 _ rfl
    have h1 : DataW.trod enc Try.prog w base spare held m 3 (List.take (Try.prog.cellsOf 3) (List.drop 1 [a, b, c, d, e, f, g])) = xs[1]? := hf 1 _ rfl
    have h2 : DataW.trod enc Try.prog w base spare held m 3 (List.take (Try.prog.cellsOf 3) (List.drop 2 [a, b, c, d, e, f, g])) = xs[2]? := hf 2 _ rfl
    have h3 : DataW.trod enc Try.prog w base spare held m 70 (List.take (Try.prog.cellsOf 70) (List.drop 3 [a, b, c, d, e, f, g])) = xs[3]? := hf 3 _ rfl
    rw [List.getElem?_eq_getElem (by omega)] at h0 h1 h2 h3
    rw [show Try.prog.cellsOf 3 = 1 from by kernel_rfl] at h0 h1 h2
    rw [show Try.prog.cellsOf 70 = 4 from by kernel_rfl] at h3
    obtain ⟨n0, e0, _, _⟩ := DataW.trod_int Try.underlying3 h0
    obtain ⟨n1, e1, _, _⟩ := DataW.trod_int Try.underlying3 h1
    obtain ⟨n2, e2, _, _⟩ := DataW.trod_int Try.underlying3 h2
    obtain ⟨zs, m', _, _, _, hzl, hg⟩ := DataW.trod_struct Try.underlying70 h3
    have hzl' : zs.length = 2 := hzl
    have g0 : DataW.trod enc Try.prog w base spare held m' 68 (List.take (Try.prog.cellsOf 68) (List.drop 0 (List.take 4 (List.drop 3 [a, b, c, d, e, f, g])))) = zs[0]? := hg 0 _ rfl
    have g1 : DataW.trod enc Try.prog w base spare held m' 68 (List.take (Try.prog.cellsOf 68) (List.drop 2 (List.take 4 (List.drop 3 [a, b, c, d, e, f, g])))) = zs[1]? := hg 1 _ rfl
    rw [List.getElem?_eq_getElem (by omega)] at g0 g1
    rw [show Try.prog.cellsOf 68 = 2 from by kernel_rfl] at g0 g1
    obtain ⟨q1, a1, l1, c1, rfl, rfl⟩ := nat_of_cells (p := d) (q := e) (by simpa using g0)
    obtain ⟨q2, a2, l2, c2, rfl, rfl⟩ := nat_of_cells (p := f) (q := g) (by simpa using g1)
    simp at e0 e1 e2
    subst e0 e1 e2
    refine ⟨⟨n0, n1, n2, q1, a1, l1, c1, q2, a2, l2, c2⟩, fun j hj => ?_⟩
    match j, hj with
    | 0, _ => rfl
    | 1, _ => rfl
    | 2, _ => rfl
    | 3, _ => rfl
    | 4, _ => rfl
    | 5, _ => rfl
    | 6, _ => rfl

theorem arg_bids {v : Value} {d : DataW H} {p : List MemPlace} (hv : Value.okWide Try.prog w r b0 53 v) (h : DataW.Trod enc Try.prog w base spare held 53 v d p) :
    ∃ A n c xs, v = .slice A n c ∧ RowS 7 BidV.cell w w.heap.size A n xs ∧ n ≤ 9223372036854775807 := by
  obtain ⟨A, n, c, rfl⟩ := okWide_slice Try.underlying53 hv
  obtain ⟨fuel, hf⟩ := h
  obtain ⟨hn, G, m, h1, h2⟩ := elems_of_trod (sz := 7) Try.underlying53 (by kernel_rfl) (by omega) (by simpa [Value.cells] using hf)
  obtain ⟨xs, hx, _⟩ := rowS_of_elems (w := w) (A := A) BidV.cell (fun _ => True) G (fun i hi => by
    obtain ⟨_, y, hy⟩ := h1 i hi
    obtain ⟨b, h3⟩ := bid_of_cells hy
    exact ⟨b, trivial, h3⟩) h2
  exact ⟨A, n, c, xs, rfl, hx, hn⟩
end
end Go.Proofs.Ytoafkphcfhbnmaa
