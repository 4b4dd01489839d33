/- known() of the statements on layer 33 returns true. -/
import Derived.Test.YtpgomblalmnonaaDoorCtl33
import Derived.Test.YtpgomblalmnonaaDoorFind33
import Derived.Test.YtpgomblalmnonaaDoorName33
import Derived.Test.YtpgomblalmnonaaDoorParse33
import Derived.Test.YtpgomblalmnonaaDoorSameP33
namespace Go.Proofs.YtpgomblalmnonaaDoor
open Go.RowKit

theorem new_prods (w : World) (xs : List Prod) {g : Nat} (hg : g = w.heap.size) : RowS 5 Prod.cell (w.alloc (.cells (flat 5 Prod.cell xs).toArray 48)) (w.alloc (.cells (flat 5 Prod.cell xs).toArray 48)).heap.size (some ⟨g, 0, none⟩) xs.length xs := by
  subst hg
  exact (rowS_new w 5 Prod.cell 48 xs).up (by simp)
theorem new_areas (w : World) (xs : List Area) {g : Nat} (hg : g = w.heap.size) : RowS 2 Area.cell (w.alloc (.cells (flat 2 Area.cell xs).toArray 39)) (w.alloc (.cells (flat 2 Area.cell xs).toArray 39)).heap.size (some ⟨g, 0, none⟩) xs.length xs := by
  subst hg
  exact (rowS_new w 2 Area.cell 39 xs).up (by simp)
theorem new_imps (w : World) (xs : List Imp) {g : Nat} (hg : g = w.heap.size) : RowS 3 Imp.cell (w.alloc (.cells (flat 3 Imp.cell xs).toArray 41)) (w.alloc (.cells (flat 3 Imp.cell xs).toArray 41)).heap.size (some ⟨g, 0, none⟩) xs.length xs := by
  subst hg
  exact (rowS_new w 3 Imp.cell 41 xs).up (by simp)

def ka1 : Area := ⟨3, 120000⟩
def ki1 : Imp := ⟨3, 0, 20⟩
def ki2 : Imp := ⟨3, 1, 60⟩
def kq1 : Prod := ⟨3, 1, 1, 3, 3003⟩
def kq2 : Prod := ⟨3, 2, 1, 3, 1501⟩
theorem k1 : v2 (uniF 120000) = .tuple #[.int .i64 3, .int .i64 0] := by kernel_rfl
theorem k2 : ctlF [ka1] [ki1, ki2] 8 1001 = ([kq1, kq2], 0) := by kernel_rfl
theorem k3 : v2 (worthF [kq1, kq2]) = .tuple #[.int .i64 4504, .int .i64 0] := by kernel_rfl
theorem k4 : v2 (supplyF [kq1, kq2]) = .tuple #[.int .i64 2, .int .i64 0] := by kernel_rfl
theorem k5 : v3 (parseF (ByteArray.mk #[51, 66]).data.toList) = .tuple #[.int .i64 3, .int .i64 2, .int .i64 0] := by kernel_rfl
theorem k6 : v3 (parseF (ByteArray.mk #[48, 51, 66]).data.toList) = .tuple #[.int .i64 0, .int .i64 0, .int .i64 6] := by kernel_rfl
theorem k7 : strOf (nameF kq2.area kq2.cat) = ByteArray.mk #[51, 66] := by kernel_rfl

set_option maxRecDepth 100000 in
set_option maxHeartbeats 4000000 in
theorem known_any (w : World) : Calls Tryd.prog 14 #[] w (RetPost (.bool true) w.heap.size w) := by
  have K1 := Eqn.mk k1
  have K2 := Eqn.mk k2
  have K3 := Eqn.mk k3
  have K4 := Eqn.mk k4
  have K5 := Eqn.mk k5
  have K6 := Eqn.mk k6
  have K7 := Eqn.mk k7
  go_enter Tryd.func14, Tryd.ntmps14
  go_wp2_with fail
  refine (units33_any 120000 _).mono ?_
  rw [K1.out]
  rintro e w1 ⟨rfl, rfl⟩
  have G1 := Lib.hid (new_areas w [ka1] (g := w.heap.size) (by simp))
  have BB := Lib.hid ((Below.refl _ (w.alloc (.cells #[.int .i64 3, .int .i64 120000] 39))).alloc (Nat.le_refl _) (.cells #[.int .i64 3, .int .i64 0, .int .i64 20, .int .i64 3, .int .i64 1, .int .i64 60] 41))
  have B0 := Lib.hid (((Below.refl _ w).alloc (Nat.le_refl _) (.cells #[.int .i64 3, .int .i64 120000] 39)).alloc (by simp <;> omega) (.cells #[.int .i64 3, .int .i64 0, .int .i64 20, .int .i64 3, .int .i64 1, .int .i64 60] 41))
  have G2 := Lib.hid (G1.out.keep BB.out)
  have G3 := Lib.hid (new_imps (w.alloc (.cells #[.int .i64 3, .int .i64 120000] 39)) [ki1, ki2] (g := w.heap.size + 1) (by simp))
  clear G1 BB
  go_wp2_with fail
  refine (catalogue_any _ _ 1 1 2 2 8 1001 _ [ka1] [ki1, ki2] (by omega) (by omega) (by exact G2.out) (by exact G3.out)).mono ?_
  rw [K2.out]
  rintro e w2 ⟨v2, rfl, ho2, hb2⟩
  obtain ⟨A2, c2, rfl, hr2⟩ := own_formS (by omega) ho2
  have R2 : Hid (RowS 5 Prod.cell w2 w2.heap.size A2 2 [kq1, kq2]) := Lib.hid hr2
  have B2 : Hid (Below w.heap.size w w2) := Lib.hid (B0.out.trans (hb2.mono B0.out.size))
  clear ho2 hr2 hb2 G2 G3 B0
  have BA3 := Lib.hid ((Below.refl w2.heap.size w2).alloc (Nat.le_refl _) (.cells #[.int .i64 3, .int .i64 1, .int .i64 1, .int .i64 3, .int .i64 3003, .int .i64 3, .int .i64 2, .int .i64 1, .int .i64 3, .int .i64 1501] 48))
  have G3 := Lib.hid (new_prods w2 [kq1, kq2] (g := w2.heap.size) (by simp))
  go_wp2_with fail
  refine (sameP_any _ _ 2 _ _ _ _ [kq1, kq2] (by omega) (by exact R2.out.keep BA3.out) (by exact G3.out)).mono ?_
  rintro e w3 ⟨rfl, hb3⟩
  have R3 : Hid (RowS 5 Prod.cell w3 w3.heap.size A2 2 [kq1, kq2]) := Lib.hid ((R2.out.keep BA3.out).keep hb3)
  have B3 : Hid (Below w.heap.size w w3) := Lib.hid (B2.out.trans ((BA3.out.trans (hb3.mono BA3.out.size)).mono B2.out.size))
  clear hb3 G3 BA3 B2 R2
  go_wp2_with fail
  refine (worth_any _ 2 _ _ [kq1, kq2] (by omega) (by exact R3.out)).mono ?_
  rw [K3.out]
  rintro e w4 ⟨rfl, hb4⟩
  have R4 := Lib.hid (R3.out.keep hb4)
  have B4 : Hid (Below w.heap.size w w4) := Lib.hid (B3.out.trans (hb4.mono B3.out.size))
  clear hb4 B3 R3
  go_wp2_with fail
  refine (supply_any _ 2 _ _ [kq1, kq2] (by omega) (by exact R4.out)).mono ?_
  rw [K4.out]
  rintro e w5 ⟨rfl, hb5⟩
  have R5 := Lib.hid (R4.out.keep hb5)
  have B5 : Hid (Below w.heap.size w w5) := Lib.hid (B4.out.trans (hb5.mono B4.out.size))
  clear hb5 B4 R4
  go_wp2_with fail
  refine (parse_any _ _ (by decide)).mono ?_
  rw [K5.out]
  rintro e w6 ⟨rfl, hb6⟩
  have R6 := Lib.hid (R5.out.keep hb6)
  have B6 : Hid (Below w.heap.size w w6) := Lib.hid (B5.out.trans (hb6.mono B5.out.size))
  clear hb6 B5 R5
  go_wp2_with fail
  refine (parse_any _ _ (by decide)).mono ?_
  rw [K6.out]
  rintro e w7 ⟨rfl, hb7⟩
  have R7 := Lib.hid (R6.out.keep hb7)
  have B7 : Hid (Below w.heap.size w w7) := Lib.hid (B6.out.trans (hb7.mono B6.out.size))
  clear hb7 B6 R6
  obtain ⟨b, off, rfl, hbl, hc⟩ := R7.out.2 (by omega)
  have c0 := hc 1 kq2 rfl 0 (by omega)
  have c1 := hc 1 kq2 rfl 1 (by omega)
  have c2 := hc 1 kq2 rfl 2 (by omega)
  have c3 := hc 1 kq2 rfl 3 (by omega)
  have c4 := hc 1 kq2 rfl 4 (by omega)
  simp only [Prod.cell, Nat.add_zero, Nat.one_mul] at c0 c1 c2 c3 c4
  clear hc
  go_wp2_with fail
  refine (name_any kq2 _).mono ?_
  rw [K7.out]
  rintro e w8 ⟨rfl, hb8⟩
  go_wp2_with fail
  go_ret
  exact ⟨rfl, B7.out.trans (hb8.mono B7.out.size)⟩
end Go.Proofs.YtpgomblalmnonaaDoor
