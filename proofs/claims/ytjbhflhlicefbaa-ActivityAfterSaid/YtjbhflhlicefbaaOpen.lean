/- How arguments that came in read: numbers, slices of numbers, slices of structs. Nothing of the program is named here. -/
import Derived.Test.YtjbhflhlicefbaaBase
import Derived.ProofKit
import Derived.OpenShut
import Derived.ShutString
import Derived.ChangeOld
import Derived.Below
import Derived.Deep.Slices
import Derived.Deep.Fields
import Derived.ChangeSame
namespace Go.Proofs.Ytjbhflhlicefbaa
open Go.RowKit Go.ChangeShapes Go.WideShapes Go.ChangeAt Go.Deep

theorem i64_of_wf {n : Int} (h : (Lit.int .i64 n).wf = true) : I64 n := by
  have := bounds_i64 h
  unfold I64; omega

theorem lt_of_cell {w : World} {a : Addr} {v : Value} (h : w.cell? a = some v) : a.block < w.heap.size ∧ a.spot = none := by
  unfold World.cell? at h
  split at h
  · rename_i c e f hh
    refine ⟨?_, ?_⟩
    · rcases Nat.lt_or_ge a.block w.heap.size with h1 | h1
      · exact h1
      · rw [Array.getElem?_eq_none h1] at hh; cases hh
    · split at h
      · cases h
      · rename_i hs; simpa using hs
  · cases h

section
variable {H : Type} {enc : TypeId × Value → H} {P : Program} {w : World} {base b0 : Nat} {spare : Nat → Bool} {held : Bool} {r : Reach}

theorem arg_int {t : TypeId} {v : Value} {d : DataW H} {p : List MemPlace} (ht : P.underlying t = some (.int .i64)) (hv : Value.okWide P w r b0 t v) (h : DataW.Trod enc P w base spare held t v d p) :
    ∃ a, v = .int .i64 a ∧ I64 a := by
  obtain ⟨a, rfl, _, _, wa⟩ := open_int ht hv h
  exact ⟨a, rfl, i64_of_wf wa⟩

theorem ints_of_trod {t e : TypeId} {fuel : Nat} {A : Option Addr} {n c : Nat} {x : DataW H × List MemPlace} (ht : P.underlying t = some (.slice e)) (he : P.underlying e = some (.int .i64)) (hc : P.cellsOf e = 1)
    (hf : DataW.trod enc P w base spare held fuel t [.slice A n c] = some x) : ∃ xs : List Int, Row1 (fun z => .int .i64 z) w w.heap.size A n xs ∧ (∀ z ∈ xs, I64 z) ∧ n ≤ 9223372036854775807 := by
  rcases open_ints ht he hc hf with ⟨hcs, _⟩ | ⟨x, l, c', zs, hcs, _, hl, hm, hz, _, hcell, hwz⟩
  · simp at hcs
    obtain ⟨rfl, rfl, rfl⟩ := hcs
    exact ⟨[], Row1.nil _ _ _ _, (fun _ h => by cases h), by omega⟩
  · simp at hcs
    obtain ⟨rfl, rfl, rfl⟩ := hcs
    have hzl : n ≤ zs.length := by rw [hz]; split <;> omega
    refine ⟨zs.take n, ⟨by rw [List.length_take]; omega, fun hn => ?_⟩, fun z h => i64_of_wf (hwz z (List.mem_of_mem_take h)), by unfold maxLen at hm; omega⟩
    have h0 := hcell 0 (by omega)
    obtain ⟨hlt, hsp⟩ := lt_of_cell h0
    obtain ⟨b, off, spot⟩ := x
    simp only [Addr.add, if_true] at hlt hsp
    subst hsp
    refine ⟨b, off, rfl, hlt, fun k z hk => ?_⟩
    have hkn : k < n := by
      have := (List.getElem?_eq_some_iff.1 hk).1
      rw [List.length_take] at this
      omega
    have h1 := hcell k (by omega)
    rw [List.getElem?_take_of_lt hkn] at hk
    rw [List.getD_eq_getElem?_getD, hk] at h1
    by_cases hk0 : k = 0
    · subst hk0
      simpa [Addr.add] using h1
    · simpa [Addr.add, hk0] using h1

theorem arg_ints {t e : TypeId} {v : Value} {d : DataW H} {p : List MemPlace} (ht : P.underlying t = some (.slice e)) (he : P.underlying e = some (.int .i64)) (hc : P.cellsOf e = 1)
    (hv : Value.okWide P w r b0 t v) (h : DataW.Trod enc P w base spare held t v d p) :
    ∃ A n c xs, v = .slice A n c ∧ Row1 (fun z => .int .i64 z) w w.heap.size A n xs ∧ (∀ z ∈ xs, I64 z) ∧ n ≤ 9223372036854775807 := by
  obtain ⟨A, n, c, rfl⟩ := okWide_slice ht hv
  obtain ⟨fuel, hf⟩ := h
  obtain ⟨xs, h1, h2, h3⟩ := ints_of_trod ht he hc (by simpa [Value.cells] using hf)
  exact ⟨A, n, c, xs, rfl, h1, h2, h3⟩
end
end Go.Proofs.Ytjbhflhlicefbaa
