/- product.Valid, and the plain law that it answers as the reference. -/
import Derived.Test.YtpgomblalmnonaaDoorOrd
namespace Go.Proofs.YtpgomblalmnonaaDoor
open Go.RowKit

theorem prodValid_any (A : Option Addr) (n c : Nat) (l : List Prod) (w : World) (hn : n ≤ 140) (hl : RowS 5 Prod.cell w w.heap.size A n l) :
    Calls Tryd.prog 18 #[.slice A n c] w (OrdPost (prodValid l) w.heap.size w) := by
  have Hl := Lib.hid hl
  clear hl
  go_enter Tryd.func18, Tryd.ntmps18
  go_wp2_with fail
  refine (ordered_any A n c w.heap.size w.heap.size 70 l _ hn (by exact Hl.out.below ((Below.refl _ _).alloc (Nat.le_refl _) _)) (Nat.le_refl _) (by exact heap_alloc_new _ _)).mono ?_
  rintro e w' ⟨rfl, hb⟩
  go_wp2
  go_ret
  exact ⟨rfl, ((Below.refl _ _).alloc (Nat.le_refl _) _).trans hb⟩
end Go.Proofs.YtpgomblalmnonaaDoor
