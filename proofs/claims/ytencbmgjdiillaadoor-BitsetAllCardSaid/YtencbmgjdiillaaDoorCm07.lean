/- Words for the statements on layer 07. -/
import Derived.Test.YtencbmgjdiillaaDoorDoor07
import Derived.Test.YtencbmgjdiillaaDoorPl07
namespace Go.Proofs.YtencbmgjdiillaaDoor
open Go.RowKit

theorem Row1.allocK {α : Type} {f : α → Value} {w : World} {A : Option Addr} {n : Nat} {xs : List α} (h : Row1 f w w.heap.size A n xs) (o : Obj) : Row1 f (w.alloc o) (w.alloc o).heap.size A n xs := h.keep ((Below.refl _ w).alloc (Nat.le_refl _) o)
theorem Row1.drewK {α : Type} {f : α → Value} {w : World} {A : Option Addr} {n : Nat} {xs : List α} (h : Row1 f w w.heap.size A n xs) : Row1 f w.drew w.drew.heap.size A n xs := h
theorem row1_len {α : Type} {f : α → Value} {w : World} {B : Nat} {A : Option Addr} {n : Nat} {xs : List α} (h : Row1 f w B A n xs) : xs.length = n := h.1
theorem row_one (w : World) (x : Int) : Row1 intV (w.alloc (.cells #[.int .i64 x] 3)) (w.alloc (.cells #[.int .i64 x] 3)).heap.size (some ⟨w.heap.size, 0, none⟩) 1 [x] := row_lit w [x]

def addF (S : Nat) (i : Int) : Nat × Int := if 0 ≤ i ∧ i < 512 then (S ||| 2 ^ i.toNat, 0) else (0, 2)
def remF (S : Nat) (i : Int) : Nat × Int := if 0 ≤ i ∧ i < 512 then (mi S (2 ^ i.toNat), 0) else (0, 2)
theorem add_any (S : Nat) (i : Int) (w : World) : Calls Tryd.prog 30 #[sV S, .int .i64 i] w (RetPost (.tuple #[sV (addF S i).1, .int .i64 (addF S i).2]) w.heap.size w) := by
  unfold addF
  split
  · exact add_in S i w ‹_›
  · exact add_out S i w ‹_›
theorem remove_any (S : Nat) (i : Int) (w : World) : Calls Tryd.prog 31 #[sV S, .int .i64 i] w (RetPost (.tuple #[sV (remF S i).1, .int .i64 (remF S i).2]) w.heap.size w) := by
  unfold remF
  split
  · exact remove_in S i w ‹_›
  · exact remove_out S i w ‹_›
end Go.Proofs.YtencbmgjdiillaaDoor
