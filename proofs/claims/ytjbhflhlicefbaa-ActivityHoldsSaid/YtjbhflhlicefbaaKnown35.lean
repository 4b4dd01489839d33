/- known() of the statements on layer 35 returns true. -/
import Derived.Test.YtjbhflhlicefbaaActF
import Derived.Test.YtjbhflhlicefbaaActC
namespace Go.Proofs.Ytjbhflhlicefbaa
open Go.RowKit

def kx (adr : Option Addr) : Bidr := ⟨0, 10, 0, adr, 1, 1, [2]⟩
def kp : Prod := ⟨0, 1, 5, 3, 0⟩

theorem kroom (a : Option Addr) : roomF [kp] (kx a) 0 = (1, 0) := by kernel_rfl

set_option maxRecDepth 100000 in
set_option maxHeartbeats 1000000 in
theorem known_any (w : World) : Calls Try.prog 11 #[] w (RetPost (.bool true) w.heap.size w) := by
  have h1 : Eqn (v2 (reqF 10 95)) (.tuple #[.int .i64 10, .int .i64 0]) := Eqn.mk (by kernel_rfl)
  have h2 : Eqn (v2 (reqF 10 90)) (.tuple #[.int .i64 9, .int .i64 0]) := Eqn.mk (by kernel_rfl)
  have h3 : Eqn (v3 (keepF 100 1 80 90)) (.tuple #[.int .i64 100, .int .i64 0, .int .i64 0]) := Eqn.mk (by kernel_rfl)
  have h4 : Eqn (v3 (keepF 100 0 80 90)) (.tuple #[.int .i64 88, .int .i64 0, .int .i64 0]) := Eqn.mk (by kernel_rfl)
  have h5 : Eqn (v3 (afterF 100 1 90 [80, 80, 80])) (.tuple #[.int .i64 88, .int .i64 0, .int .i64 0]) := Eqn.mk (by kernel_rfl)
  have h6 : Hid (∀ a, v2 (roomF [kp] (kx a) 0) = .tuple #[.int .i64 1, .int .i64 0]) := fun a => by rw [kroom]; rfl
  go_enter Try.func11, Try.ntmps11
  go_wp2_with fail
  refine (required_any _ _ _).mono ?_
  rw [h1.out]
  rintro e w' ⟨rfl, rfl⟩
  go_wp2_with fail
  refine (required_any _ _ _).mono ?_
  rw [h2.out]
  rintro e w' ⟨rfl, rfl⟩
  go_wp2_with fail
  refine (keep_any _ _ _ _ _).mono ?_
  rw [h3.out]
  rintro e w' ⟨rfl, rfl⟩
  go_wp2_with fail
  refine (keep_any _ _ _ _ _).mono ?_
  rw [h4.out]
  rintro e w' ⟨rfl, rfl⟩
  go_wp2_with fail
  refine (after_any _ _ _ _ _ _ _ [80, 80, 80] (by omega) (by have := row1_new w intE 3 [80, 80, 80]; rw [← World.size_alloc w (.cells ([80, 80, 80].map intE).toArray 3)] at this; exact this)).mono ?_
  rw [h5.out]
  rintro e w' ⟨rfl, rfl⟩
  go_wp2_with fail
  have hb : Hid (Below w.heap.size w (((w.alloc (.cells #[.int .i64 80, .int .i64 80, .int .i64 80] 3)).alloc (.cells #[.int .i64 0, .int .i64 1, .int .i64 5, .int .i64 3, .int .i64 0] 60)).alloc (.cells #[.int .i64 2] 3))) := (((Below.refl _ _).alloc (Nat.le_refl _) _).alloc (by simp) _).alloc (by simp <;> omega) _
  have r1 := rowS_new (w.alloc (.cells #[.int .i64 80, .int .i64 80, .int .i64 80] 3)) 5 Prod.cell 60 [kp]
  rw [show (w.alloc (.cells #[.int .i64 80, .int .i64 80, .int .i64 80] 3)).heap.size = w.heap.size + 1 by simp] at r1
  have r2 := row1_new ((w.alloc (.cells #[.int .i64 80, .int .i64 80, .int .i64 80] 3)).alloc (.cells #[.int .i64 0, .int .i64 1, .int .i64 5, .int .i64 3, .int .i64 0] 60)) intV 3 [2]
  rw [show ((w.alloc (.cells #[.int .i64 80, .int .i64 80, .int .i64 80] 3)).alloc (.cells #[.int .i64 0, .int .i64 1, .int .i64 5, .int .i64 3, .int .i64 0] 60)).heap.size = w.heap.size + 1 + 1 by simp] at r2
  have r3 := (r1.below ((Below.refl _ _).alloc (by simp) (.cells #[.int .i64 2] 3)))
  refine (Room_any _ _ _ _ _ [kp] (kx (some ⟨w.heap.size + 1 + 1, 0, none⟩)) (by omega) (by exact r3.up (by simp)) (by exact r2.up (by simp))).mono ?_
  rw [h6.out]
  rintro e w1 ⟨rfl, hb1⟩
  go_wp2
  go_ret
  exact ⟨rfl, hb.out.trans (hb1.mono (by simp <;> omega))⟩
end Go.Proofs.Ytjbhflhlicefbaa
