/- How arguments that came in read, and the laid variables of the rows. -/
import Derived.Test.YtpgomblalmnonaaDoorRows
import Derived.Test.YtpgomblalmnonaaDoorTie
import Derived.Test.YtpgomblalmnonaaDoorCards
import Derived.Test.YtpgomblalmnonaaDoorOpen
import Derived.Test.YtpgomblalmnonaaDoorProd
import Derived.Test.YtpgomblalmnonaaDoorArea33
import Derived.Test.YtpgomblalmnonaaDoorImp33
import Derived.Test.YtpgomblalmnonaaDoorChecked
import Derived.KernelRfl
import Derived.Lay
import Derived.MakeChecks
import Derived.LaidOnce
import Derived.SevenTiedAt
import Derived.Lib.SmallJoins
namespace Go.Proofs.YtpgomblalmnonaaDoor
open Go.RowKit Go.ChangeShapes Go.WideShapes Go.ChangeAt Go.Deep Go.Joins

theorem own : ownKnob Tryd.prog.godebug = none := by kernel_rfl
theorem laidOut : laidOutB Tryd.prog = true := by kernel_rfl
def laid33 : List (String × DataW Unit) := [("math/bits.deBruijn32tab", Rows.laid_math_bits_deBruijn32tab), ("math/bits.deBruijn64tab", Rows.laid_math_bits_deBruijn64tab), ("internal/strconv.uint64pow10", Rows.laid_internal_strconv_uint64pow10)]
theorem laidHold (os : Os) (args : Array Value) : laidMetH Tryd.prog laid33 ((World.laidAll Tryd.prog os laid33).forCall (fun _ _ => 0) ⟨#[], args, []⟩).memory := by
  rw [MakeChecks.laidMetH_plain _ _ _ (by kernel_rfl)]
  exact laidMet_laidAll _ (by kernel_rfl) (by kernel_rfl)

set_option maxRecDepth 100000
section
variable {H : Type} {enc : TypeId × Value → H} {w : World} {base b0 : Nat} {spare : Nat → Bool} {held : Bool} {r : Reach}

theorem arg_prods {v : Value} {d : DataW H} {p : List MemPlace} (hv : Value.okWide Tryd.prog w r b0 33 v) (h : DataW.Trod enc Tryd.prog w base spare held 33 v d p) :
    ∃ A n c xs, v = .slice A n c ∧ RowS 5 Prod.cell w w.heap.size A n xs ∧ n ≤ 9223372036854775807 := by
  obtain ⟨A, n, c, rfl⟩ := okWide_slice Tryd.underlying33 hv
  obtain ⟨fuel, hf⟩ := h
  obtain ⟨hn, G, m, h1, h2⟩ := elems_of_trod (sz := 5) Tryd.underlying33 (by kernel_rfl) (by omega) (by simpa [Value.cells] using hf)
  obtain ⟨xs, hx, _⟩ := rowS_of_elems (w := w) (A := A) Prod.cell (fun _ => True) G (fun i hi => by
    obtain ⟨_, y, hy⟩ := h1 i hi
    obtain ⟨g, hg⟩ := ints_of_struct Tryd.underlying48 (by kernel_rfl) (by kernel_rfl) (by kernel_rfl) hy
    refine ⟨⟨g 0, g 1, g 2, g 3, g 4⟩, trivial, fun j hj => ?_⟩
    have := (hg j hj).1
    match j, hj with
    | 0, _ => exact this
    | 1, _ => exact this
    | 2, _ => exact this
    | 3, _ => exact this
    | 4, _ => exact this) h2
  exact ⟨A, n, c, xs, rfl, hx, hn⟩

theorem arg_areas {v : Value} {d : DataW H} {p : List MemPlace} (hv : Value.okWide Tryd.prog w r b0 29 v) (h : DataW.Trod enc Tryd.prog w base spare held 29 v d p) :
    ∃ A n c xs, v = .slice A n c ∧ RowS 2 Area.cell w w.heap.size A n xs ∧ n ≤ 9223372036854775807 := by
  obtain ⟨A, n, c, rfl⟩ := okWide_slice Tryd.underlying29 hv
  obtain ⟨fuel, hf⟩ := h
  obtain ⟨hn, G, m, h1, h2⟩ := elems_of_trod (sz := 2) Tryd.underlying29 (by kernel_rfl) (by omega) (by simpa [Value.cells] using hf)
  obtain ⟨xs, hx, _⟩ := rowS_of_elems (w := w) (A := A) Area.cell (fun _ => True) G (fun i hi => by
    obtain ⟨_, y, hy⟩ := h1 i hi
    obtain ⟨g, hg⟩ := ints_of_struct Tryd.underlying39 (by kernel_rfl) (by kernel_rfl) (by kernel_rfl) hy
    refine ⟨⟨g 0, g 1⟩, trivial, fun j hj => ?_⟩
    have := (hg j hj).1
    match j, hj with
    | 0, _ => exact this
    | 1, _ => exact this) h2
  exact ⟨A, n, c, xs, rfl, hx, hn⟩

theorem arg_imps {v : Value} {d : DataW H} {p : List MemPlace} (hv : Value.okWide Tryd.prog w r b0 30 v) (h : DataW.Trod enc Tryd.prog w base spare held 30 v d p) :
    ∃ A n c xs, v = .slice A n c ∧ RowS 3 Imp.cell w w.heap.size A n xs ∧ n ≤ 9223372036854775807 := by
  obtain ⟨A, n, c, rfl⟩ := okWide_slice Tryd.underlying30 hv
  obtain ⟨fuel, hf⟩ := h
  obtain ⟨hn, G, m, h1, h2⟩ := elems_of_trod (sz := 3) Tryd.underlying30 (by kernel_rfl) (by omega) (by simpa [Value.cells] using hf)
  obtain ⟨xs, hx, _⟩ := rowS_of_elems (w := w) (A := A) Imp.cell (fun _ => True) G (fun i hi => by
    obtain ⟨_, y, hy⟩ := h1 i hi
    obtain ⟨g, hg⟩ := ints_of_struct Tryd.underlying41 (by kernel_rfl) (by kernel_rfl) (by kernel_rfl) hy
    refine ⟨⟨g 0, g 1, g 2⟩, trivial, fun j hj => ?_⟩
    have := (hg j hj).1
    match j, hj with
    | 0, _ => exact this
    | 1, _ => exact this
    | 2, _ => exact this) h2
  exact ⟨A, n, c, xs, rfl, hx, hn⟩

theorem arg_target {v : Value} {d : DataW H} {p : List MemPlace} (hv : Value.okWide Tryd.prog w r b0 32 v) (h : DataW.Trod enc Tryd.prog w base spare held 32 v d p) :
    ∃ y : Int, v = .agg #[.int .i64 y] ∧ I64 y := by
  obtain ⟨cs, rfl, hsz⟩ := okWide_struct Tryd.underlying32 hv
  obtain ⟨fuel, hf⟩ := h
  have hf' : DataW.trod enc Tryd.prog w base spare held fuel 32 cs.toList = some (d, p) := by simpa [Value.cells] using hf
  obtain ⟨g, hg⟩ := ints_of_struct Tryd.underlying32 (by kernel_rfl) (by kernel_rfl) (by kernel_rfl) hf'
  have hs1 : cs.size = 1 := hsz.trans (by kernel_rfl)
  have h0 := hg 0 (by decide)
  refine ⟨g 0, ?_, h0.2⟩
  congr 1
  apply Array.ext_getElem?
  intro j
  match j with
  | 0 => simpa using h0.1
  | j + 1 => rw [Array.getElem?_eq_none (by omega), Array.getElem?_eq_none (by simp)]

theorem arg_prod {v : Value} {d : DataW H} {p : List MemPlace} (hv : Value.okWide Tryd.prog w r b0 48 v) (h : DataW.Trod enc Tryd.prog w base spare held 48 v d p) :
    ∃ y : Prod, v = y.val ∧ True := by
  obtain ⟨cs, rfl, hsz⟩ := okWide_struct Tryd.underlying48 hv
  obtain ⟨fuel, hf⟩ := h
  have hf' : DataW.trod enc Tryd.prog w base spare held fuel 48 cs.toList = some (d, p) := by simpa [Value.cells] using hf
  obtain ⟨g, hg⟩ := ints_of_struct Tryd.underlying48 (by kernel_rfl) (by kernel_rfl) (by kernel_rfl) hf'
  have hs1 : cs.size = 5 := hsz.trans (by kernel_rfl)
  refine ⟨⟨g 0, g 1, g 2, g 3, g 4⟩, ?_, trivial⟩
  unfold Prod.val
  congr 1
  apply Array.ext_getElem?
  intro j
  by_cases hj : j < 5
  · have := (hg j hj).1
    simp at this
    rw [this]
    match j, hj with
    | 0, _ => rfl
    | 1, _ => rfl
    | 2, _ => rfl
    | 3, _ => rfl
    | 4, _ => rfl
  · rw [Array.getElem?_eq_none (by omega), Array.getElem?_eq_none (by simp; omega)]
end
end Go.Proofs.YtpgomblalmnonaaDoor
