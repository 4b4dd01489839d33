/- The reference's Text at the members of a set. -/
import Derived.Test.YtencbmgjdiillaaDoorRf2
import Derived.Test.YtencbmgjdiillaaDoorTx07
namespace Go.Proofs.YtencbmgjdiillaaDoor
open Go.RowKit

theorem fin_of (l : List Nat) (h : ∀ m ∈ l, m < 512) : ∃ L : List (Fin 512), L.map Fin.val = l := by
  induction l with
  | nil => exact ⟨[], rfl⟩
  | cons x r ih =>
    obtain ⟨L, hL⟩ := ih (fun m hm => h m (by simp [hm]))
    exact ⟨⟨x, h x (by simp)⟩ :: L, by simp [hL]⟩
theorem finI_mem {S : Nat} {L : List (Fin 512)} (h : L.map Fin.val = mem S) : finI L = memI S := by
  unfold finI memI
  rw [← h, List.map_map]
  rfl
theorem textM_any (S : Nat) (A : Option Addr) (n c : Nat) (w : World) (hl : Row1 intV w w.heap.size A n (memI S)) :
    Calls Tryd.prog 25 #[.slice A n c] w (RetPost (.string ⟨(textF S).toArray⟩) w.heap.size w) := by
  obtain ⟨L, hL⟩ := fin_of (mem S) (fun m hm => mem_lt hm)
  have hn : n ≤ 1000 := by have h1 := hl.1; rw [memI_len] at h1; have := mem_len S; omega
  rw [← finI_mem hL] at hl
  have := textR_any A n c w L hn hl
  rw [hL] at this
  exact this
end Go.Proofs.YtencbmgjdiillaaDoor
