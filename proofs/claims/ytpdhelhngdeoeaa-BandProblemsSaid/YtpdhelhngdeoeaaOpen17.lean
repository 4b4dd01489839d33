/- How lists of bands or domains, constraints, a problem and choices that came in read. -/
import Derived.Test.YtpdhelhngdeoeaaOpen
import Derived.Test.YtpdhelhngdeoeaaPb26
import Derived.Test.YtpdhelhngdeoeaaChecked
import Derived.KernelRfl
import Derived.Lib.SmallJoins
namespace Go.Proofs.Ytpdhelhngdeoeaa
open Go.RowKit Go.ChangeShapes Go.WideShapes Go.ChangeAt Go.Deep Go.Joins

section
variable {H : Type} {enc : TypeId × Value → H} {w : World} {base b0 : Nat} {spare : Nat → Bool} {held : Bool} {r : Reach}

/-- a choice: a station and a channel -/
def chC (x : Int × Int) : Nat → Value
  | 0 => .int .i64 x.1
  | _ => .int .i64 x.2
theorem rowS_up {α : Type} {sz : Nat} {f : α → Nat → Value} {W : World} {B : Nat} {A : Option Addr} {n : Nat} {xs : List α} (h : RowS sz f W B A n xs) : RowS sz f W B A n xs := h

theorem bands_cells {fuel : Nat} {cs : List Value} {y : DataW H × List MemPlace} (h : DataW.trod enc Try.prog w base spare held fuel 67 cs = some y) :
    ∃ b : Dom, (∀ j, j < 2 → cs[j]? = some (b.cell j)) ∧ Row1 intV w w.heap.size b.adr b.len b.chs ∧ b.len ≤ 9223372036854775807 := by
  obtain ⟨m, hm⟩ := fields_of_trod Try.underlying67 (by kernel_rfl) (by kernel_rfl) h
  obtain ⟨v0, z0, c0, t0⟩ := hm 0 _ rfl
  obtain ⟨v3, z3, c3, t3⟩ := hm 1 _ rfl
  obtain ⟨a0, e0, _, _⟩ := DataW.trod_int Try.underlying3 t0
  obtain ⟨A, n, c, e3⟩ := slice_form Try.underlying38 t3
  simp at e0 e3
  subst e0 e3
  obtain ⟨xs, hr, _, hn⟩ := ints_of_trod Try.underlying38 Try.underlying3 (by kernel_rfl) t3
  refine ⟨⟨a0, A, n, c, xs⟩, fun j hj => ?_, hr, hn⟩
  match j, hj with
  | 0, _ => exact c0
  | 1, _ => exact c3
theorem bands_of_trod {fuel : Nat} {A : Option Addr} {n c : Nat} {x : DataW H × List MemPlace} (hf : DataW.trod enc Try.prog w base spare held fuel 47 [.slice A n c] = some x) :
    n ≤ 9223372036854775807 ∧ ∃ ds : List Dom, DomsAt w w.heap.size A n ds := by
  obtain ⟨hn, G, m, h1, h2⟩ := elems_of_trod (sz := 2) Try.underlying47 (by kernel_rfl) (by omega) hf
  obtain ⟨xs, hx, hp⟩ := rowS_of_elems (w := w) (A := A) Dom.cell (fun b => Row1 intV w w.heap.size b.adr b.len b.chs) G (fun i hi => by
    obtain ⟨_, y, hy⟩ := h1 i hi
    obtain ⟨b, h3, h4, _⟩ := bands_cells hy
    exact ⟨b, h4, h3⟩) h2
  exact ⟨hn, xs, hx, hp⟩
set_option maxRecDepth 100000 in
theorem arg_bands {v : Value} {d : DataW H} {p : List MemPlace} (hv : Value.okWide Try.prog w r b0 47 v) (h : DataW.Trod enc Try.prog w base spare held 47 v d p) :
    ∃ A n c ds, v = .slice A n c ∧ DomsAt w w.heap.size A n ds ∧ n ≤ 9223372036854775807 := by
  obtain ⟨A, n, c, rfl⟩ := okWide_slice Try.underlying47 hv
  obtain ⟨fuel, hf⟩ := h
  obtain ⟨hn, ds, hd⟩ := bands_of_trod (by simpa [Value.cells] using hf)
  exact ⟨A, n, c, ds, rfl, hd, hn⟩

theorem doms_cells {fuel : Nat} {cs : List Value} {y : DataW H × List MemPlace} (h : DataW.trod enc Try.prog w base spare held fuel 71 cs = some y) :
    ∃ b : Dom, (∀ j, j < 2 → cs[j]? = some (b.cell j)) ∧ Row1 intV w w.heap.size b.adr b.len b.chs ∧ b.len ≤ 9223372036854775807 := by
  obtain ⟨m, hm⟩ := fields_of_trod Try.underlying71 (by kernel_rfl) (by kernel_rfl) h
  obtain ⟨v0, z0, c0, t0⟩ := hm 0 _ rfl
  obtain ⟨v3, z3, c3, t3⟩ := hm 1 _ rfl
  obtain ⟨a0, e0, _, _⟩ := DataW.trod_int Try.underlying3 t0
  obtain ⟨A, n, c, e3⟩ := slice_form Try.underlying38 t3
  simp at e0 e3
  subst e0 e3
  obtain ⟨xs, hr, _, hn⟩ := ints_of_trod Try.underlying38 Try.underlying3 (by kernel_rfl) t3
  refine ⟨⟨a0, A, n, c, xs⟩, fun j hj => ?_, hr, hn⟩
  match j, hj with
  | 0, _ => exact c0
  | 1, _ => exact c3
theorem doms_of_trod {fuel : Nat} {A : Option Addr} {n c : Nat} {x : DataW H × List MemPlace} (hf : DataW.trod enc Try.prog w base spare held fuel 55 [.slice A n c] = some x) :
    n ≤ 9223372036854775807 ∧ ∃ ds : List Dom, DomsAt w w.heap.size A n ds := by
  obtain ⟨hn, G, m, h1, h2⟩ := elems_of_trod (sz := 2) Try.underlying55 (by kernel_rfl) (by omega) hf
  obtain ⟨xs, hx, hp⟩ := rowS_of_elems (w := w) (A := A) Dom.cell (fun b => Row1 intV w w.heap.size b.adr b.len b.chs) G (fun i hi => by
    obtain ⟨_, y, hy⟩ := h1 i hi
    obtain ⟨b, h3, h4, _⟩ := doms_cells hy
    exact ⟨b, h4, h3⟩) h2
  exact ⟨hn, xs, hx, hp⟩
set_option maxRecDepth 100000 in
theorem arg_doms {v : Value} {d : DataW H} {p : List MemPlace} (hv : Value.okWide Try.prog w r b0 55 v) (h : DataW.Trod enc Try.prog w base spare held 55 v d p) :
    ∃ A n c ds, v = .slice A n c ∧ DomsAt w w.heap.size A n ds ∧ n ≤ 9223372036854775807 := by
  obtain ⟨A, n, c, rfl⟩ := okWide_slice Try.underlying55 hv
  obtain ⟨fuel, hf⟩ := h
  obtain ⟨hn, ds, hd⟩ := doms_of_trod (by simpa [Value.cells] using hf)
  exact ⟨A, n, c, ds, rfl, hd, hn⟩

theorem pairs_of_trod {fuel : Nat} {A : Option Addr} {n c : Nat} {x : DataW H × List MemPlace} (hf : DataW.trod enc Try.prog w base spare held fuel 48 [.slice A n c] = some x) :
    n ≤ 9223372036854775807 ∧ ∃ xs : List R5, RowS 5 R5.cell w w.heap.size A n xs := by
  obtain ⟨hn, G, m, h1, h2⟩ := elems_of_trod (sz := 5) Try.underlying48 (by kernel_rfl) (by omega) hf
  refine ⟨hn, ?_⟩
  obtain ⟨xs, hx, _⟩ := rowS_of_elems (w := w) (A := A) R5.cell (fun _ => True) G (fun i hi => by
    obtain ⟨_, y, hy⟩ := h1 i hi
    obtain ⟨g, hg⟩ := ints_of_struct Try.underlying69 (by kernel_rfl) (by kernel_rfl) (by kernel_rfl) hy
    refine ⟨⟨g 0, g 1, g 2, g 3, g 4⟩, trivial, fun j hj => ?_⟩
    have := (hg j hj).1
    match j, hj with
    | 0, _ => exact this
    | 1, _ => exact this
    | 2, _ => exact this
    | 3, _ => exact this
    | 4, _ => exact this) h2
  exact ⟨xs, hx⟩

theorem loads_of_trod {fuel : Nat} {A : Option Addr} {n c : Nat} {x : DataW H × List MemPlace} (hf : DataW.trod enc Try.prog w base spare held fuel 49 [.slice A n c] = some x) :
    n ≤ 9223372036854775807 ∧ ∃ xs : List R5, RowS 5 R5.cell w w.heap.size A n xs := by
  obtain ⟨hn, G, m, h1, h2⟩ := elems_of_trod (sz := 5) Try.underlying49 (by kernel_rfl) (by omega) hf
  refine ⟨hn, ?_⟩
  obtain ⟨xs, hx, _⟩ := rowS_of_elems (w := w) (A := A) R5.cell (fun _ => True) G (fun i hi => by
    obtain ⟨_, y, hy⟩ := h1 i hi
    obtain ⟨g, hg⟩ := ints_of_struct Try.underlying87 (by kernel_rfl) (by kernel_rfl) (by kernel_rfl) hy
    refine ⟨⟨g 0, g 1, g 2, g 3, g 4⟩, trivial, fun j hj => ?_⟩
    have := (hg j hj).1
    match j, hj with
    | 0, _ => exact this
    | 1, _ => exact this
    | 2, _ => exact this
    | 3, _ => exact this
    | 4, _ => exact this) h2
  exact ⟨xs, hx⟩

theorem caps_of_trod {fuel : Nat} {A : Option Addr} {n c : Nat} {x : DataW H × List MemPlace} (hf : DataW.trod enc Try.prog w base spare held fuel 50 [.slice A n c] = some x) :
    n ≤ 9223372036854775807 ∧ ∃ xs : List R4, RowS 4 R4.cell w w.heap.size A n xs := by
  obtain ⟨hn, G, m, h1, h2⟩ := elems_of_trod (sz := 4) Try.underlying50 (by kernel_rfl) (by omega) hf
  refine ⟨hn, ?_⟩
  obtain ⟨xs, hx, _⟩ := rowS_of_elems (w := w) (A := A) R4.cell (fun _ => True) G (fun i hi => by
    obtain ⟨_, y, hy⟩ := h1 i hi
    obtain ⟨g, hg⟩ := ints_of_struct Try.underlying89 (by kernel_rfl) (by kernel_rfl) (by kernel_rfl) hy
    refine ⟨⟨g 0, g 1, g 2, g 3⟩, trivial, fun j hj => ?_⟩
    have := (hg j hj).1
    match j, hj with
    | 0, _ => exact this
    | 1, _ => exact this
    | 2, _ => exact this
    | 3, _ => exact this) h2
  exact ⟨xs, hx⟩

theorem agg_of {cs : Array Value} {k : Nat} {f : Nat → Value} (hs : cs.size = k) (h : ∀ j, j < k → cs.toList[j]? = some (f j)) : cs = ((List.range k).map f).toArray := by
  apply Array.ext_getElem?
  intro j
  by_cases hj : j < k
  · have := h j hj
    simp at this
    rw [this]
    simp [hj]
  · rw [Array.getElem?_eq_none (by omega), Array.getElem?_eq_none (by simp; omega)]
/-- three cells that read as constraints -/
theorem rul_cells {fuel : Nat} {cs : List Value} {y : DataW H × List MemPlace} (h : DataW.trod enc Try.prog w base spare held fuel 52 cs = some y) :
    ∃ (s : RulS) (x : Rul), cs[0]? = some (.slice s.a0 s.n0 s.c0) ∧ cs[1]? = some (.slice s.a1 s.n1 s.c1) ∧ cs[2]? = some (.slice s.a2 s.n2 s.c2) ∧ RulAt w w.heap.size s x := by
  obtain ⟨m, hm⟩ := fields_of_trod Try.underlying52 (by kernel_rfl) (by kernel_rfl) h
  obtain ⟨v0, z0, c0, t0⟩ := hm 0 _ rfl
  obtain ⟨v1, z1, c1, t1⟩ := hm 1 _ rfl
  obtain ⟨v2, z2, c2, t2⟩ := hm 2 _ rfl
  obtain ⟨A0, n0, k0, e0⟩ := slice_form Try.underlying48 t0
  obtain ⟨A1, n1, k1, e1⟩ := slice_form Try.underlying49 t1
  obtain ⟨A2, n2, k2, e2⟩ := slice_form Try.underlying50 t2
  simp at e0 e1 e2
  subst e0 e1 e2
  obtain ⟨l0, x0, r0⟩ := pairs_of_trod t0
  obtain ⟨l1, x1, r1⟩ := loads_of_trod t1
  obtain ⟨l2, x2, r2⟩ := caps_of_trod t2
  exact ⟨⟨A0, n0, k0, A1, n1, k1, A2, n2, k2⟩, ⟨x0, x1, x2⟩, c0, c1, c2, r0, r1, r2, l0, l1, l2⟩
set_option maxRecDepth 100000 in
theorem arg_rul {v : Value} {d : DataW H} {p : List MemPlace} (hv : Value.okWide Try.prog w r b0 52 v) (h : DataW.Trod enc Try.prog w base spare held 52 v d p) :
    ∃ (s : RulS) (x : Rul), v = s.val ∧ RulAt w w.heap.size s x := by
  obtain ⟨cs, rfl, hsz⟩ := okWide_struct Try.underlying52 hv
  obtain ⟨fuel, hf⟩ := h
  obtain ⟨s, x, h0, h1, h2, h3⟩ := rul_cells (by simpa [Value.cells] using hf)
  refine ⟨s, x, ?_, h3⟩
  unfold RulS.val
  congr 1
  have hs3 : cs.size = 3 := hsz.trans (by kernel_rfl)
  simp at h0 h1 h2
  apply Array.ext_getElem?
  intro j
  match j with
  | 0 => exact h0
  | 1 => exact h1
  | 2 => exact h2
  | j + 3 => rw [Array.getElem?_eq_none (by omega), Array.getElem?_eq_none (by simp)]
set_option maxRecDepth 100000 in
theorem arg_prb {v : Value} {d : DataW H} {p : List MemPlace} (hv : Value.okWide Try.prog w r b0 57 v) (h : DataW.Trod enc Try.prog w base spare held 57 v d p) :
    ∃ (s : PrbS) (ds : List Dom) (x : Rul), v = s.val ∧ PrbAt w w.heap.size s ds x ∧ s.nd ≤ 9223372036854775807 := by
  obtain ⟨cs, rfl, hsz⟩ := okWide_struct Try.underlying57 hv
  obtain ⟨fuel, hf⟩ := h
  have hs4 : cs.size = 4 := hsz.trans (by kernel_rfl)
  have hf2 : DataW.trod enc Try.prog w base spare held fuel 57 cs.toList = some (d, p) := by simpa [Value.cells] using hf
  obtain ⟨xs, m, _, _, hlen, hxl, hg⟩ := DataW.trod_struct Try.underlying57 hf2
  have hxl' : xs.length = 2 := hxl
  obtain ⟨l, hl⟩ : ∃ l, l = cs.toList := ⟨_, rfl⟩
  have hll : l.length = 4 := by rw [hl]; simpa using hs4
  rw [← hl] at hg hf2
  match l, hll with
  | [a, b, c, e], _ =>
    have h0 : DataW.trod enc Try.prog w base spare held m 55 (List.take (Try.prog.cellsOf 55) (List.drop 0 [a, b, c, e])) = xs[0]? := hg 0 _ rfl
    have h1 : DataW.trod enc Try.prog w base spare held m 52 (List.take (Try.prog.cellsOf 52) (List.drop 1 [a, b, c, e])) = xs[1]? := hg 1 _ rfl
    rw [List.getElem?_eq_getElem (by omega)] at h0 h1
    rw [show Try.prog.cellsOf 55 = 1 from by kernel_rfl] at h0
    rw [show Try.prog.cellsOf 52 = 3 from by kernel_rfl] at h1
    have h0' : DataW.trod enc Try.prog w base spare held m 55 [a] = some xs[0] := h0
    have h1' : DataW.trod enc Try.prog w base spare held m 52 [b, c, e] = some xs[1] := h1
    obtain ⟨A, n, k, ea⟩ := slice_form Try.underlying55 h0'
    simp at ea
    subst ea
    obtain ⟨hn, ds, hd⟩ := doms_of_trod h0'
    obtain ⟨s, x, e0, e1, e2, h3⟩ := rul_cells h1'
    simp at e0 e1 e2
    subst e0 e1 e2
    refine ⟨⟨A, n, k, s⟩, ds, x, ?_, ⟨hd, h3⟩, hn⟩
    unfold PrbS.val
    congr 1
    rw [← Array.toArray_toList (xs := cs), ← hl]

end
end Go.Proofs.Ytpdhelhngdeoeaa
