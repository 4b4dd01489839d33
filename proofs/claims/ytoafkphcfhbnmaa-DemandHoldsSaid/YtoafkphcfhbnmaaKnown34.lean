/- known() of the statements on layer 34 returns true. -/
import Derived.Test.YtoafkphcfhbnmaaTot
import Derived.Test.YtoafkphcfhbnmaaCarry
import Derived.Test.YtoafkphcfhbnmaaCost
import Derived.Test.YtoafkphcfhbnmaaSame
namespace Go.Proofs.Ytoafkphcfhbnmaa
open Go.RowKit

def kq1 : Prod := ⟨0, 1, 3, 2, 0⟩
def kq2 : Prod := ⟨0, 2, 1, 2, 0⟩
def kq3 : Prod := ⟨0, 1, 1, 2, 0⟩
def kb1 (a : Option Addr) : Bidr := ⟨0, 6, 0, a, 2, 2, [2, 1]⟩
def kb2 (a : Option Addr) : Bidr := ⟨1, 4, 0, a, 2, 2, [2, 0]⟩

/-- a slice of numbers that the call has just laid -/
theorem new_ints (w : World) (xs : List Int) {g : Nat} (hg : g = w.heap.size) : Row1 intV (w.alloc (.cells (xs.map intV).toArray 3)) (w.alloc (.cells (xs.map intV).toArray 3)).heap.size (some ⟨g, 0, none⟩) xs.length xs := by
  subst hg
  exact (row1_new w intV 3 xs).up (by simp)
theorem new_prods (w : World) (xs : List Prod) {g : Nat} (hg : g = w.heap.size) : RowS 5 Prod.cell (w.alloc (.cells (flat 5 Prod.cell xs).toArray 51)) (w.alloc (.cells (flat 5 Prod.cell xs).toArray 51)).heap.size (some ⟨g, 0, none⟩) xs.length xs := by
  subst hg
  exact (rowS_new w 5 Prod.cell 51 xs).up (by simp)
theorem new_bidrs (w : World) (xs : List Bidr) {g : Nat} (hg : g = w.heap.size) (hx : ∀ b ∈ xs, Row1 intV w w.heap.size b.adr b.len b.blocks) : BidsAt (w.alloc (.cells (flat 4 Bidr.cell xs).toArray 56)) (w.alloc (.cells (flat 4 Bidr.cell xs).toArray 56)).heap.size (some ⟨g, 0, none⟩) xs.length xs := by
  subst hg
  exact ⟨(rowS_new w 4 Bidr.cell 56 xs).up (by simp), fun b hb => (hx b hb).keep ((Below.refl _ _).alloc (Nat.le_refl _) _)⟩

theorem k1 : dUnits [kq1, kq2] [2, 1] = .tuple #[.int .i64 6, .int .i64 0] := by kernel_rfl
theorem k2 : v2' (costF [kq1, kq2] [10, 7] [2, 1]) = .tuple #[.int .i64 27, .int .i64 0] := by kernel_rfl
theorem k3 (a b : Option Addr) : totF [kq1, kq2] [kb1 a, kb2 b] = ([4, 1], 0) := by kernel_rfl
theorem k4 : excF [kq1, kq2] [4, 1] = ([1, 0], 0) := by kernel_rfl
theorem k5 : chF [kq1, kq2] [2, 1] 0 1 = ([3, 1], 0) := by kernel_rfl
theorem k6 : chF [kq1, kq2] [2, 1] 0 2 = ([], 3) := by kernel_rfl
theorem k7 : carF [kq1, kq2] [kq3] [2, 1] = ([1], 0) := by kernel_rfl
theorem k8 : sameF [4, 1] [4, 1] = true := by kernel_rfl
theorem k9 : sameF [1, 0] [1, 0] = true := by kernel_rfl
theorem k10 : sameF [3, 1] [3, 1] = true := by kernel_rfl
theorem k11 : sameF [1] [1] = true := by kernel_rfl

set_option maxRecDepth 100000 in
set_option maxHeartbeats 4000000 in
theorem known_any (w : World) : Calls Try.prog 12 #[] w (RetPost (.bool true) w.heap.size w) := by
  have K1 := Eqn.mk k1
  have K2 := Eqn.mk k2
  have K3 := Lib.hid k3
  have K4 := Eqn.mk k4
  have K5 := Eqn.mk k5
  have K6 := Eqn.mk k6
  have K7 := Eqn.mk k7
  have K8 := Eqn.mk k8
  have K9 := Eqn.mk k9
  have K10 := Eqn.mk k10
  have K11 := Eqn.mk k11
  go_enter Try.func12, Try.ntmps12
  have B0 : Hid (Below w.heap.size w (w.alloc (.cells #[.int .i64 0, .int .i64 1, .int .i64 3, .int .i64 2, .int .i64 0, .int .i64 0, .int .i64 2, .int .i64 1, .int .i64 2, .int .i64 0] 51))) := (Below.refl _ _).alloc (Nat.le_refl _) _
  have HL0 : Hid (RowS 5 Prod.cell (w.alloc (.cells #[.int .i64 0, .int .i64 1, .int .i64 3, .int .i64 2, .int .i64 0, .int .i64 0, .int .i64 2, .int .i64 1, .int .i64 2, .int .i64 0] 51)) (w.alloc (.cells #[.int .i64 0, .int .i64 1, .int .i64 3, .int .i64 2, .int .i64 0, .int .i64 0, .int .i64 2, .int .i64 1, .int .i64 2, .int .i64 0] 51)).heap.size (some ⟨w.heap.size, 0, none⟩) 2 [kq1, kq2]) := new_prods w [kq1, kq2] rfl
  have BA1 : Hid (Below (w.alloc (.cells #[.int .i64 0, .int .i64 1, .int .i64 3, .int .i64 2, .int .i64 0, .int .i64 0, .int .i64 2, .int .i64 1, .int .i64 2, .int .i64 0] 51)).heap.size (w.alloc (.cells #[.int .i64 0, .int .i64 1, .int .i64 3, .int .i64 2, .int .i64 0, .int .i64 0, .int .i64 2, .int .i64 1, .int .i64 2, .int .i64 0] 51)) ((w.alloc (.cells #[.int .i64 0, .int .i64 1, .int .i64 3, .int .i64 2, .int .i64 0, .int .i64 0, .int .i64 2, .int .i64 1, .int .i64 2, .int .i64 0] 51)).alloc (.cells #[.int .i64 2, .int .i64 1] 3))) := (Below.refl _ _).alloc (by simp <;> omega) _
  have LA1 := Lib.hid (HL0.out.keep BA1.out)
  have I1 := Lib.hid (new_ints (w.alloc (.cells #[.int .i64 0, .int .i64 1, .int .i64 3, .int .i64 2, .int .i64 0, .int .i64 0, .int .i64 2, .int .i64 1, .int .i64 2, .int .i64 0] 51)) [2, 1] (g := w.heap.size + 1) (by simp))
  go_wp2_with fail
  refine (dUnits_any _ _ 2 2 2 2 _ [kq1, kq2] [2, 1] (by omega) (by exact LA1.out) (by exact I1.out)).mono ?_
  rw [K1.out]
  rintro e w1 ⟨rfl, hb1⟩
  have B1 : Hid (Below w.heap.size w w1) := B0.out.trans ((BA1.out.trans (hb1.mono BA1.out.size)).mono B0.out.size)
  have C1 : Hid (Below (w.alloc (.cells #[.int .i64 0, .int .i64 1, .int .i64 3, .int .i64 2, .int .i64 0, .int .i64 0, .int .i64 2, .int .i64 1, .int .i64 2, .int .i64 0] 51)).heap.size (w.alloc (.cells #[.int .i64 0, .int .i64 1, .int .i64 3, .int .i64 2, .int .i64 0, .int .i64 0, .int .i64 2, .int .i64 1, .int .i64 2, .int .i64 0] 51)) w1) := BA1.out.trans (hb1.mono BA1.out.size)
  have HL1 := Lib.hid (LA1.out.keep hb1)
  clear hb1
  have BA2 : Hid (Below w1.heap.size w1 ((w1.alloc (.cells #[.int .i64 10, .int .i64 7] 3)).alloc (.cells #[.int .i64 2, .int .i64 1] 3))) := ((Below.refl _ _).alloc (by simp <;> omega) _).alloc (by simp <;> omega) _
  have LA2 := Lib.hid (HL1.out.keep BA2.out)
  have I2 := Lib.hid (new_ints w1 [10, 7] (g := w1.heap.size) (by simp))
  have I2 := Lib.hid (I2.out.keep ((Below.refl _ (w1.alloc (.cells #[.int .i64 10, .int .i64 7] 3))).alloc (Nat.le_refl _) (.cells #[.int .i64 2, .int .i64 1] 3)))
  have J2 := Lib.hid (new_ints (w1.alloc (.cells #[.int .i64 10, .int .i64 7] 3)) [2, 1] (g := w1.heap.size + 1) (by simp))
  go_wp2_with fail
  refine (cost_any _ _ _ 2 2 2 2 2 2 _ [kq1, kq2] [10, 7] [2, 1] (by omega) (by omega) (by exact LA2.out) (by exact I2.out) (by exact J2.out)).mono ?_
  rw [K2.out]
  rintro e w2 ⟨rfl, hb2⟩
  have B2 : Hid (Below w.heap.size w w2) := B1.out.trans ((BA2.out.trans (hb2.mono BA2.out.size)).mono B1.out.size)
  have C2 : Hid (Below w1.heap.size w1 w2) := BA2.out.trans (hb2.mono BA2.out.size)
  have HL2 := Lib.hid (LA2.out.keep hb2)
  clear hb2
  have BA3 : Hid (Below w2.heap.size w2 (((w2.alloc (.cells #[.int .i64 2, .int .i64 1] 3)).alloc (.cells #[.int .i64 2, .int .i64 0] 3)).alloc (.cells #[.int .i64 0, .int .i64 6, .int .i64 0, .slice (some ⟨w2.heap.size, 0, none⟩) 2 2, .int .i64 1, .int .i64 4, .int .i64 0, .slice (some ⟨w2.heap.size + 1, 0, none⟩) 2 2] 56))) := (((Below.refl _ _).alloc (by simp <;> omega) _).alloc (by simp <;> omega) _).alloc (by simp <;> omega) _
  have LA3 := Lib.hid (HL2.out.keep BA3.out)
  have I3 := Lib.hid (new_ints w2 [2, 1] (g := w2.heap.size) (by simp))
  have I3 := Lib.hid (I3.out.keep ((Below.refl _ (w2.alloc (.cells #[.int .i64 2, .int .i64 1] 3))).alloc (Nat.le_refl _) (.cells #[.int .i64 2, .int .i64 0] 3)))
  have J3 := Lib.hid (new_ints (w2.alloc (.cells #[.int .i64 2, .int .i64 1] 3)) [2, 0] (g := w2.heap.size + 1) (by simp))
  have G3 := Lib.hid (new_bidrs ((w2.alloc (.cells #[.int .i64 2, .int .i64 1] 3)).alloc (.cells #[.int .i64 2, .int .i64 0] 3)) [kb1 (some ⟨w2.heap.size, 0, none⟩), kb2 (some ⟨w2.heap.size + 1, 0, none⟩)] (g := w2.heap.size + 1 + 1) (by simp) (by intro b hb; simp only [List.mem_cons, List.not_mem_nil, or_false] at hb; rcases hb with rfl | rfl; exact I3.out; exact J3.out))
  go_wp2_with fail
  refine (total_any _ _ 2 2 2 2 _ [kq1, kq2] [kb1 (some ⟨w2.heap.size, 0, none⟩), kb2 (some ⟨w2.heap.size + 1, 0, none⟩)] (by omega) (by omega) (by exact LA3.out) (by exact G3.out)).mono ?_
  rw [K3.out]
  rintro e w3 ⟨v3, rfl, ho3, hb3⟩
  obtain ⟨A3, c3, rfl, hr3, _⟩ := own_form ho3
  have R3 := Lib.hid hr3
  clear ho3 hr3
  have B3 : Hid (Below w.heap.size w w3) := B2.out.trans ((BA3.out.trans (hb3.mono BA3.out.size)).mono B2.out.size)
  have C3 : Hid (Below w2.heap.size w2 w3) := BA3.out.trans (hb3.mono BA3.out.size)
  have HL3 := Lib.hid (LA3.out.keep hb3)
  clear hb3
  have BA4 : Hid (Below w3.heap.size w3 (w3.alloc (.cells #[.int .i64 4, .int .i64 1] 3))) := (Below.refl _ _).alloc (by simp <;> omega) _
  have LA4 := Lib.hid (HL3.out.keep BA4.out)
  have I4 := Lib.hid (new_ints w3 [4, 1] (g := w3.heap.size) (by simp))
  go_wp2_with fail
  refine (excess_any _ _ 2 2 2 2 _ [kq1, kq2] [4, 1] (by omega) (by exact LA4.out) (by exact I4.out)).mono ?_
  rw [K4.out]
  rintro e w4 ⟨v4, rfl, ho4, hb4⟩
  obtain ⟨A4, c4, rfl, hr4, _⟩ := own_form ho4
  have R4 := Lib.hid hr4
  have R3 := Lib.hid (R3.out.keep (BA4.out.trans (hb4.mono BA4.out.size)))
  clear ho4 hr4
  have B4 : Hid (Below w.heap.size w w4) := B3.out.trans ((BA4.out.trans (hb4.mono BA4.out.size)).mono B3.out.size)
  have C4 : Hid (Below w3.heap.size w3 w4) := BA4.out.trans (hb4.mono BA4.out.size)
  have HL4 := Lib.hid (LA4.out.keep hb4)
  clear hb4
  have BA5 : Hid (Below w4.heap.size w4 (w4.alloc (.cells #[.int .i64 4, .int .i64 1] 3))) := (Below.refl _ _).alloc (by simp <;> omega) _
  have LA5 := Lib.hid (HL4.out.keep BA5.out)
  have I5 := Lib.hid (new_ints w4 [4, 1] (g := w4.heap.size) (by simp))
  go_wp2_with fail
  refine (same_any _ _ _ _ _ _ _ (w4.alloc (.cells #[.int .i64 4, .int .i64 1] 3)).heap.size [4, 1] [4, 1] (by simp) (by exact R3.out.keep BA5.out) (by exact I5.out)).mono ?_
  rw [K8.out]
  rintro e w5 ⟨rfl, hb5⟩
  have R4 := Lib.hid (R4.out.keep (BA5.out.trans (hb5.mono BA5.out.size)))
  have B5 : Hid (Below w.heap.size w w5) := B4.out.trans ((BA5.out.trans (hb5.mono BA5.out.size)).mono B4.out.size)
  have C5 : Hid (Below w4.heap.size w4 w5) := BA5.out.trans (hb5.mono BA5.out.size)
  have HL5 := Lib.hid (LA5.out.keep hb5)
  clear hb5
  have BA6 : Hid (Below w5.heap.size w5 (w5.alloc (.cells #[.int .i64 1, .int .i64 0] 3))) := (Below.refl _ _).alloc (by simp <;> omega) _
  have LA6 := Lib.hid (HL5.out.keep BA6.out)
  have I6 := Lib.hid (new_ints w5 [1, 0] (g := w5.heap.size) (by simp))
  go_wp2_with fail
  refine (same_any _ _ _ _ _ _ _ (w5.alloc (.cells #[.int .i64 1, .int .i64 0] 3)).heap.size [1, 0] [1, 0] (by simp) (by exact R4.out.keep BA6.out) (by exact I6.out)).mono ?_
  rw [K9.out]
  rintro e w6 ⟨rfl, hb6⟩
  have B6 : Hid (Below w.heap.size w w6) := B5.out.trans ((BA6.out.trans (hb6.mono BA6.out.size)).mono B5.out.size)
  have C6 : Hid (Below w5.heap.size w5 w6) := BA6.out.trans (hb6.mono BA6.out.size)
  have HL6 := Lib.hid (LA6.out.keep hb6)
  clear hb6
  have BA7 : Hid (Below w6.heap.size w6 (w6.alloc (.cells #[.int .i64 2, .int .i64 1] 3))) := (Below.refl _ _).alloc (by simp <;> omega) _
  have LA7 := Lib.hid (HL6.out.keep BA7.out)
  have I7 := Lib.hid (new_ints w6 [2, 1] (g := w6.heap.size) (by simp))
  go_wp2_with fail
  refine (change_any _ _ 2 2 2 2 0 1 _ [kq1, kq2] [2, 1] (by unfold I64; omega) (by omega) (by exact LA7.out) (by exact I7.out)).mono ?_
  rw [K5.out]
  rintro e w7 ⟨v7, rfl, ho7, hb7⟩
  obtain ⟨A7, c7, rfl, hr7, _⟩ := own_form ho7
  have R7 := Lib.hid hr7
  clear ho7 hr7
  have B7 : Hid (Below w.heap.size w w7) := B6.out.trans ((BA7.out.trans (hb7.mono BA7.out.size)).mono B6.out.size)
  have C7 : Hid (Below w6.heap.size w6 w7) := BA7.out.trans (hb7.mono BA7.out.size)
  have HL7 := Lib.hid (LA7.out.keep hb7)
  clear hb7
  have BA8 : Hid (Below w7.heap.size w7 (w7.alloc (.cells #[.int .i64 2, .int .i64 1] 3))) := (Below.refl _ _).alloc (by simp <;> omega) _
  have LA8 := Lib.hid (HL7.out.keep BA8.out)
  have I8 := Lib.hid (new_ints w7 [2, 1] (g := w7.heap.size) (by simp))
  go_wp2_with fail
  refine (change_any _ _ 2 2 2 2 0 2 _ [kq1, kq2] [2, 1] (by unfold I64; omega) (by omega) (by exact LA8.out) (by exact I8.out)).mono ?_
  rw [K6.out]
  rintro e w8 ⟨v8, rfl, ho8, hb8⟩
  obtain ⟨A8, c8, rfl, hr8, _⟩ := own_form ho8
  have R7 := Lib.hid (R7.out.keep (BA8.out.trans (hb8.mono BA8.out.size)))
  clear ho8 hr8
  have B8 : Hid (Below w.heap.size w w8) := B7.out.trans ((BA8.out.trans (hb8.mono BA8.out.size)).mono B7.out.size)
  have C8 : Hid (Below w7.heap.size w7 w8) := BA8.out.trans (hb8.mono BA8.out.size)
  have HL8 := Lib.hid (LA8.out.keep hb8)
  clear hb8
  have BA9 : Hid (Below w8.heap.size w8 ((w8.alloc (.cells #[.int .i64 0, .int .i64 1, .int .i64 1, .int .i64 2, .int .i64 0] 51)).alloc (.cells #[.int .i64 2, .int .i64 1] 3))) := ((Below.refl _ _).alloc (by simp <;> omega) _).alloc (by simp <;> omega) _
  have LA9 := Lib.hid (HL8.out.keep BA9.out)
  have P9 := Lib.hid (new_prods w8 [kq3] (g := w8.heap.size) rfl)
  have P9 := Lib.hid (P9.out.keep ((Below.refl _ _).alloc (Nat.le_refl _) (.cells #[.int .i64 2, .int .i64 1] 3)))
  have I9 := Lib.hid (new_ints (w8.alloc (.cells #[.int .i64 0, .int .i64 1, .int .i64 1, .int .i64 2, .int .i64 0] 51)) [2, 1] (g := w8.heap.size + 1) (by simp))
  go_wp2_with fail
  refine (carry_any _ _ _ 2 2 2 2 1 1 _ [kq1, kq2] [kq3] [2, 1] (by omega) (by omega) (by exact LA9.out) (by exact P9.out) (by exact I9.out)).mono ?_
  rw [K7.out]
  rintro e w9 ⟨v9, rfl, ho9, hb9⟩
  obtain ⟨A9, c9, rfl, hr9, _⟩ := own_form ho9
  have R9 := Lib.hid hr9
  have R7 := Lib.hid (R7.out.keep (BA9.out.trans (hb9.mono BA9.out.size)))
  clear ho9 hr9
  have B9 : Hid (Below w.heap.size w w9) := B8.out.trans ((BA9.out.trans (hb9.mono BA9.out.size)).mono B8.out.size)
  have C9 : Hid (Below w8.heap.size w8 w9) := BA9.out.trans (hb9.mono BA9.out.size)
  have HL9 := Lib.hid (LA9.out.keep hb9)
  clear hb9
  have BA10 : Hid (Below w9.heap.size w9 (w9.alloc (.cells #[.int .i64 3, .int .i64 1] 3))) := (Below.refl _ _).alloc (by simp <;> omega) _
  have LA10 := Lib.hid (HL9.out.keep BA10.out)
  have I10 := Lib.hid (new_ints w9 [3, 1] (g := w9.heap.size) (by simp))
  go_wp2_with fail
  refine (same_any _ _ _ _ _ _ _ (w9.alloc (.cells #[.int .i64 3, .int .i64 1] 3)).heap.size [3, 1] [3, 1] (by simp) (by exact R7.out.keep BA10.out) (by exact I10.out)).mono ?_
  rw [K10.out]
  rintro e w10 ⟨rfl, hb10⟩
  have R9 := Lib.hid (R9.out.keep (BA10.out.trans (hb10.mono BA10.out.size)))
  have B10 : Hid (Below w.heap.size w w10) := B9.out.trans ((BA10.out.trans (hb10.mono BA10.out.size)).mono B9.out.size)
  have C10 : Hid (Below w9.heap.size w9 w10) := BA10.out.trans (hb10.mono BA10.out.size)
  have HL10 := Lib.hid (LA10.out.keep hb10)
  clear hb10
  have BA11 : Hid (Below w10.heap.size w10 (w10.alloc (.cells #[.int .i64 1] 3))) := (Below.refl _ _).alloc (by simp <;> omega) _
  have LA11 := Lib.hid (HL10.out.keep BA11.out)
  have I11 := Lib.hid (new_ints w10 [1] (g := w10.heap.size) (by simp))
  go_wp2_with fail
  refine (same_any _ _ _ _ _ _ _ (w10.alloc (.cells #[.int .i64 1] 3)).heap.size [1] [1] (by simp) (by exact R9.out.keep BA11.out) (by exact I11.out)).mono ?_
  rw [K11.out]
  rintro e w11 ⟨rfl, hb11⟩
  have B11 : Hid (Below w.heap.size w w11) := B10.out.trans ((BA11.out.trans (hb11.mono BA11.out.size)).mono B10.out.size)
  have C11 : Hid (Below w10.heap.size w10 w11) := BA11.out.trans (hb11.mono BA11.out.size)
  have HL11 := Lib.hid (LA11.out.keep hb11)
  clear hb11
  go_wp2_with fail
  go_ret
  exact ⟨rfl, B11.out⟩
end Go.Proofs.Ytoafkphcfhbnmaa
