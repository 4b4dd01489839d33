/- Slices of bytes made strings, in any world that keeps them; Encode's bytes as a string. -/
import Derived.Test.YtencbmgjdiillaaDoorRf3
import Derived.Test.YtencbmgjdiillaaDoorLexB
import Derived.Laws.BytesString
namespace Go.Proofs.YtencbmgjdiillaaDoor
open Go.RowKit

theorem conv_zero (w : World) (A : Option Addr) (c : Nat) : (convert 50 9 (.slice A 0 c)).run Tryd.prog w = .ok (.string ⟨#[]⟩) w := by
  rw [run_convert_bytes_string w 50 9 5 _ 0 c Tryd.underlying50 Tryd.underlying5 Tryd.underlying9]
  cases A <;> simp [Conv.bytesToString, loadCells]
  all_goals rfl
theorem conv_row {w : World} {B : Nat} {A : Option Addr} {n : Nat} (c : Nat) {l : List UInt8} (h : Row1 byV w B A n l) : (convert 50 9 (.slice A n c)).run Tryd.prog w = .ok (.string ⟨l.toArray⟩) w := by
  obtain ⟨hl, h⟩ := h
  subst hl
  cases l with
  | nil => exact conv_zero w A c
  | cons x r =>
    obtain ⟨b, off, rfl, _, hc⟩ := h (by simp)
    refine run_convert_bytes_back w 50 9 5 ⟨b, off, none⟩ c (x :: r) Tryd.underlying50 Tryd.underlying5 Tryd.underlying9 (fun j hj => ?_)
    have h1 := hc j ((x :: r)[j]) (List.getElem?_eq_getElem hj)
    have h2 : (⟨b, off, none⟩ : Addr).add j = ⟨b, off + j, none⟩ := by unfold Addr.add; split <;> simp_all
    rw [h2]
    exact h1

theorem encN_any (S : Nat) (w : World) (hS : Fit S) (hT : Tab w) : Calls Tryd.prog 26 #[sV S] w fun e w' => ∃ A c, e = .returned (.slice A (encF S).length c) ∧ Row1 byV w' w'.heap.size A (encF S).length (encF S) ∧ Below w.heap.size w w' := by
  refine (encode_any S w hS hT).mono ?_
  rintro e w' ⟨v, rfl, h1, h2⟩
  obtain ⟨A, c, rfl, hr⟩ := row1_of_own (f := byV) h1
  exact ⟨A, c, rfl, hr, h2⟩
theorem encMN_any (S : Nat) (A : Option Addr) (n c : Nat) (w : World) (hl : Row1 intV w w.heap.size A n (memI S)) : Calls Tryd.prog 27 #[.slice A n c] w fun e w' => ∃ A c, e = .returned (.slice A (encF S).length c) ∧ Row1 byV w' w'.heap.size A (encF S).length (encF S) ∧ Below w.heap.size w w' := by
  refine (encM_any S A n c w hl).mono ?_
  rintro e w' ⟨v, rfl, h1, h2⟩
  obtain ⟨A, c, rfl, hr⟩ := row1_of_own (f := byV) h1
  exact ⟨A, c, rfl, hr, h2⟩
theorem keep_refl (w : World) : Below w.heap.size w w := Below.refl _ _
theorem keep_trans (x y z : World) (h : Below x.heap.size x y) (h' : Below y.heap.size y z) : Below x.heap.size x z := h.trans (h'.mono h.size)
end Go.Proofs.YtencbmgjdiillaaDoor
