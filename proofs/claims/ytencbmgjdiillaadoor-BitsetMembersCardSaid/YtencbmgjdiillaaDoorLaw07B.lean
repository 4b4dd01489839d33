/- BitsetMembers: for any numbers and any number, membership, the set with it and without it, and the next member are as the statement says. -/
import Derived.Test.YtencbmgjdiillaaDoorCm07
namespace Go.Proofs.YtencbmgjdiillaaDoor
open Go.RowKit Go.ChangeShapes Go.WideShapes Go.ChangeAt Go.Deep Go.Joins

set_option maxHeartbeats 2000000 in
theorem members_long (w : World) (hT : Tab w) (A : Option Addr) (n c : Nat) (i : Int) (hn : 60 < n) : Calls Tryd.prog 8 #[.slice A n c, .int .i64 i] w fun e w' => e = .returned (.bool true) ∧ Below w.heap.size w w' := by
  have HK : Hid (∀ W, Below w.heap.size w W → Calls Tryd.prog 12 #[] W (RetPost (.bool true) W.heap.size W)) := Lib.hid (fun W hb => known_any W (hT.keep hb))
  have h1 : (60 : Int) < (n : Int) := by omega
  clear hT hn
  go_enter Tryd.func8, Tryd.ntmps8
  go_wp2_with fail
  have B0 : Hid (Below w.heap.size w w) := Lib.hid (Below.refl _ _)
  refine (HK.out _ B0.out).mono ?_
  rintro e W1 ⟨rfl, hw1⟩
  have C1 := Lib.hid (B0.out.trans (hw1.mono B0.out.size))
  clear hw1
  have B1 := C1
  clear C1
  go_wp2_with fail
  go_ret
  exact ⟨rfl, B1.out⟩

set_option maxHeartbeats 2000000 in
theorem members_bad (w : World) (hT : Tab w) (A : Option Addr) (n c : Nat) (l : List Int) (i : Int) (hn : n ≤ 60) (hl : Row1 intV w w.heap.size A n l) (hA : allowF l = false) : Calls Tryd.prog 8 #[.slice A n c, .int .i64 i] w fun e w' => e = .returned (.bool true) ∧ Below w.heap.size w w' := by
  have HK : Hid (∀ W, Below w.heap.size w W → Calls Tryd.prog 12 #[] W (RetPost (.bool true) W.heap.size W)) := Lib.hid (fun W hb => known_any W (hT.keep hb))
  have h1 : (n : Int) ≤ 60 := by omega
  have HAL := Lib.hid (allowed_any A n c w _ l (by omega) hl)
  rw [hA] at HAL
  clear hT hl hA hn
  go_enter Tryd.func8, Tryd.ntmps8
  go_wp2_with fail
  have B0 : Hid (Below w.heap.size w w) := Lib.hid (Below.refl _ _)
  refine (HAL.out).mono ?_
  rintro e wz ⟨rfl, rfl⟩
  go_wp2_with fail
  refine (HK.out _ B0.out).mono ?_
  rintro e W1 ⟨rfl, hw1⟩
  have C1 := Lib.hid (B0.out.trans (hw1.mono B0.out.size))
  clear hw1
  have B1 := C1
  clear C1
  go_wp2_with fail
  go_ret
  exact ⟨rfl, B1.out⟩

set_option maxRecDepth 100000 in
set_option maxHeartbeats 8000000 in
theorem members_out (w : World) (hT : Tab w) (A : Option Addr) (n c : Nat) (l : List Int) (i : Int) (S : Nat) (hn : n ≤ 60) (hl : Row1 intV w w.heap.size A n l) (hA : allowF l = true) (hS : ofF l = (S, 0)) (hF : Fit S) (hm : ofK l 512 = memI S) (hi : ¬ (0 ≤ i ∧ i < 512)) : Calls Tryd.prog 8 #[.slice A n c, .int .i64 i] w fun e w' => e = .returned (.bool true) ∧ Below w.heap.size w w' := by
  have HT := Lib.hid hT
  have HK : Hid (∀ W, Below w.heap.size w W → Calls Tryd.prog 12 #[] W (RetPost (.bool true) W.heap.size W)) := Lib.hid (fun W hb => known_any W (hT.keep hb))
  have h1 : (n : Int) ≤ 60 := by omega
  have HAL := Lib.hid (allowed_any A n c w _ l (by omega) hl)
  rw [hA] at HAL
  have HSE : Hid (∀ W, Row1 intV W W.heap.size A n l → Calls Tryd.prog 13 #[.slice A n c] W (RetPost (.tuple #[sV S, .bool true]) W.heap.size W)) := Lib.hid (fun W h => by have := set_any A n c W l (by omega) h; rw [hS] at this; exact this)
  have HOF : Hid (∀ W, Row1 intV W W.heap.size A n l → Calls Tryd.prog 14 #[.slice A n c] W (NewInts (memI S) W)) := Lib.hid (fun W h => by have := ofR_any A n c W l (by omega) h; rw [hm] at this; exact this)
  have HADD := Lib.hid (fun W => add_any S i W)
  have HREM := Lib.hid (fun W => remove_any S i W)
  have HHAS := Lib.hid (fun W => has_any S i W)
  have hml : (memI S).length ≤ 512 := by rw [memI_len]; exact mem_len S
  have HIN : Hid (∀ A' c' W, Row1 intV W W.heap.size A' (memI S).length (memI S) → Calls Tryd.prog 33 #[.slice A' (memI S).length c', .int .i64 i] W fun e w' => e = .returned (.bool (hasS S i)) ∧ W = w') := Lib.hid (fun A' c' W h => by have := in_any A' _ c' i W _ (memI S) (by omega) h; rw [inF_memI hF] at this; exact this)
  have HNX := Lib.hid (fun W h => next_any S i W hF h)
  have HNR : Hid (∀ A' c' W, Row1 intV W W.heap.size A' (memI S).length (memI S) → Calls Tryd.prog 24 #[.slice A' (memI S).length c', .int .i64 i] W fun e w' => e = .returned (.int .i64 (nextF S i)) ∧ W = w') := Lib.hid (fun A' c' W h => by have := nextR_any A' _ c' i W _ (memI S) (by omega) h; rw [nextR_memI] at this; exact this)
  have HIS : Hid (∀ A' n' c' W, Tab W → Row1 intV W W.heap.size A' n' (memI S) → Calls Tryd.prog 17 #[sV S, .slice A' n' c'] W (RetPost (.bool true) W.heap.size W)) := Lib.hid (fun A' n' c' W h1 h2 => is_any S A' n' c' W hF h1 h2)
  have ha1 : addF S i = (0, 2) := by unfold addF; rw [if_neg hi]
  have ha2 : remF S i = (0, 2) := by unfold remF; rw [if_neg hi]
  rw [ha1] at HADD
  rw [ha2] at HREM
  dsimp only at HADD HREM
  have hze := z_eq
  rw [sV_zero] at hze
  have R0 := Lib.hid hl
  have hbb : (hasS S i != hasS S i) = false := by simp
  have hnn : (nextF S i != nextF S i) = false := by simp
  generalize hasS S i = hb at *
  generalize nextF S i = nx at *
  unfold sV at HSE HADD HREM HHAS HNX HIS
  simp only [wd_zero] at HADD HREM
  clear hT hl hA hS hF hm ha1 ha2
  by_cases hneg : i < 0
  · have h0 : i < 0 := hneg
    clear hi
    go_enter Tryd.func8, Tryd.ntmps8
    go_wp2_with fail
    have B0 : Hid (Below w.heap.size w w) := Lib.hid (Below.refl _ _)
    refine (HAL.out).mono ?_
    rintro e wz ⟨rfl, rfl⟩
    go_wp2_with fail
    refine (HSE.out _ R0.out).mono ?_
    rintro e W1 ⟨rfl, hw1⟩
    have C1 := Lib.hid (B0.out.trans (hw1.mono B0.out.size))
    have R0' := Lib.hid (R0.out.keep hw1)
    clear hw1
    go_wp2_with fail
    obtain ⟨V1, hV1⟩ : ∃ V, V = W1.alloc (.cells (sL S).toArray 28) := ⟨_, rfl⟩
    have B1 : Hid (Below w.heap.size w V1) := Lib.hid (by rw [hV1]; exact C1.out.alloc (by have := C1.out.size; exact this) _)
    have hs1 : V1.heap.size = W1.heap.size + 1 := by rw [hV1]; simp
    replace R0 := Lib.hid (show Row1 intV V1 V1.heap.size _ _ _ by rw [hV1]; exact R0'.out.allocK _)
    clear R0'
    have X5 : Hid (Blk V1 W1.heap.size 28 (tabL 8 (sC S))) := Lib.hid (by rw [hV1, ← sL_tab]; exact blk_new _ _ _)
    unfold sL at hV1
    rw [← hV1]
    clear hV1 C1 hs1
    refine (HOF.out _ R0.out).mono ?_
    rintro e W2 ⟨v7, rfl, hown7, hw2⟩
    have C2 := Lib.hid (B1.out.trans (hw2.mono B1.out.size))
    have X5' := Lib.hid (X5.out.keep hw2)
    have R0' := Lib.hid (R0.out.keep hw2)
    obtain ⟨A7, c7, rfl, hr7⟩ := row1_of_own hown7
    have R7 := Lib.hid hr7
    clear hown7 hr7
    clear hw2
    have B2 := C2
    replace X5 := X5'
    clear X5'
    replace R0 := R0'
    clear R0'
    clear C2
    clear R0
    obtain ⟨x5_0, x5_1, x5_2, x5_3, x5_4, x5_5, x5_6, x5_7⟩ := X5.out.eight
    go_wp2_with fail
    clear x5_0 x5_1 x5_2 x5_3 x5_4 x5_5 x5_6 x5_7
    refine (HADD.out _).mono ?_
    rintro e W3 ⟨rfl, hw3⟩
    have C3 := Lib.hid (B2.out.trans (hw3.mono B2.out.size))
    have X5' := Lib.hid (X5.out.keep hw3)
    have R7' := Lib.hid (R7.out.keep hw3)
    clear hw3
    obtain ⟨x5_0, x5_1, x5_2, x5_3, x5_4, x5_5, x5_6, x5_7⟩ := X5'.out.eightA
    go_wp2_with fail
    clear x5_0 x5_1 x5_2 x5_3 x5_4 x5_5 x5_6 x5_7
    obtain ⟨V3, hV3⟩ : ∃ V, V = W3.alloc (.cells (sL 0).toArray 28) := ⟨_, rfl⟩
    have B3 : Hid (Below w.heap.size w V3) := Lib.hid (by rw [hV3]; exact C3.out.alloc (by have := C3.out.size; exact this) _)
    have hs3 : V3.heap.size = W3.heap.size + 1 := by rw [hV3]; simp
    replace X5 := Lib.hid (show Blk V3 _ _ _ by rw [hV3]; exact X5'.out.alloc _)
    clear X5'
    replace R7 := Lib.hid (show Row1 intV V3 V3.heap.size _ _ _ by rw [hV3]; exact R7'.out.allocK _)
    clear R7'
    have X8 : Hid (Blk V3 W3.heap.size 28 (tabL 8 (sC 0))) := Lib.hid (by rw [hV3, ← sL_tab]; exact blk_new _ _ _)
    rw [sL_zero] at hV3
    rw [← hV3]
    clear hV3 C3 hs3
    refine (HREM.out _).mono ?_
    rintro e W4 ⟨rfl, hw4⟩
    have C4 := Lib.hid (B3.out.trans (hw4.mono B3.out.size))
    have X5' := Lib.hid (X5.out.keep hw4)
    have X8' := Lib.hid (X8.out.keep hw4)
    have R7' := Lib.hid (R7.out.keep hw4)
    clear hw4
    obtain ⟨x5_0, x5_1, x5_2, x5_3, x5_4, x5_5, x5_6, x5_7⟩ := X5'.out.eightA
    go_wp2_with fail
    clear x5_0 x5_1 x5_2 x5_3 x5_4 x5_5 x5_6 x5_7
    obtain ⟨V4, hV4⟩ : ∃ V, V = W4.alloc (.cells (sL 0).toArray 28) := ⟨_, rfl⟩
    have B4 : Hid (Below w.heap.size w V4) := Lib.hid (by rw [hV4]; exact C4.out.alloc (by have := C4.out.size; exact this) _)
    have hs4 : V4.heap.size = W4.heap.size + 1 := by rw [hV4]; simp
    replace X5 := Lib.hid (show Blk V4 _ _ _ by rw [hV4]; exact X5'.out.alloc _)
    clear X5'
    replace X8 := Lib.hid (show Blk V4 _ _ _ by rw [hV4]; exact X8'.out.alloc _)
    clear X8'
    replace R7 := Lib.hid (show Row1 intV V4 V4.heap.size _ _ _ by rw [hV4]; exact R7'.out.allocK _)
    clear R7'
    have X10 : Hid (Blk V4 W4.heap.size 28 (tabL 8 (sC 0))) := Lib.hid (by rw [hV4, ← sL_tab]; exact blk_new _ _ _)
    rw [sL_zero] at hV4
    rw [← hV4]
    clear hV4 C4 hs4
    refine (HHAS.out _).mono ?_
    rintro e W5 ⟨rfl, hw5⟩
    have C5 := Lib.hid (B4.out.trans (hw5.mono B4.out.size))
    have X5' := Lib.hid (X5.out.keep hw5)
    have X8' := Lib.hid (X8.out.keep hw5)
    have X10' := Lib.hid (X10.out.keep hw5)
    have R7' := Lib.hid (R7.out.keep hw5)
    clear hw5
    have B5 := C5
    replace X5 := X5'
    clear X5'
    replace X8 := X8'
    clear X8'
    replace X10 := X10'
    clear X10'
    replace R7 := R7'
    clear R7'
    clear C5
    go_wp2_with fail
    refine (HIN.out _ _ _ R7.out).mono ?_
    rintro e wz ⟨rfl, rfl⟩
    obtain ⟨x5_0, x5_1, x5_2, x5_3, x5_4, x5_5, x5_6, x5_7⟩ := X5.out.eight
    go_wp2_with fail
    clear x5_0 x5_1 x5_2 x5_3 x5_4 x5_5 x5_6 x5_7
    refine (HNX.out _ (HT.out.keep B5.out)).mono ?_
    rintro e W6 ⟨rfl, hw6⟩
    have C6 := Lib.hid (B5.out.trans (hw6.mono B5.out.size))
    have X5' := Lib.hid (X5.out.keep hw6)
    have X8' := Lib.hid (X8.out.keep hw6)
    have X10' := Lib.hid (X10.out.keep hw6)
    have R7' := Lib.hid (R7.out.keep hw6)
    clear hw6
    have B6 := C6
    replace X5 := X5'
    clear X5'
    replace X8 := X8'
    clear X8'
    replace X10 := X10'
    clear X10'
    replace R7 := R7'
    clear R7'
    clear C6
    go_wp2_with fail
    refine (HNR.out _ _ _ R7.out).mono ?_
    rintro e wz ⟨rfl, rfl⟩
    obtain ⟨x5_0, x5_1, x5_2, x5_3, x5_4, x5_5, x5_6, x5_7⟩ := X5.out.eight
    go_wp2_with fail
    clear x5_0 x5_1 x5_2 x5_3 x5_4 x5_5 x5_6 x5_7
    refine (HIS.out _ _ _ _ (HT.out.keep B6.out) R7.out).mono ?_
    rintro e W7 ⟨rfl, hw7⟩
    have C7 := Lib.hid (B6.out.trans (hw7.mono B6.out.size))
    have X5' := Lib.hid (X5.out.keep hw7)
    have X8' := Lib.hid (X8.out.keep hw7)
    have X10' := Lib.hid (X10.out.keep hw7)
    have R7' := Lib.hid (R7.out.keep hw7)
    clear hw7
    obtain ⟨x8_0, x8_1, x8_2, x8_3, x8_4, x8_5, x8_6, x8_7⟩ := X8'.out.eightA
    simp only [wd_zero] at x8_0 x8_1 x8_2 x8_3 x8_4 x8_5 x8_6 x8_7
    obtain ⟨x10_0, x10_1, x10_2, x10_3, x10_4, x10_5, x10_6, x10_7⟩ := X10'.out.eightA
    simp only [wd_zero] at x10_0 x10_1 x10_2 x10_3 x10_4 x10_5 x10_6 x10_7
    go_wp2_with fail
    clear x8_0 x8_1 x8_2 x8_3 x8_4 x8_5 x8_6 x8_7 x10_0 x10_1 x10_2 x10_3 x10_4 x10_5 x10_6 x10_7
    obtain ⟨V7, hV7⟩ : ∃ V, V = W7.alloc (.cells (sL 0).toArray 28) := ⟨_, rfl⟩
    have B7 : Hid (Below w.heap.size w V7) := Lib.hid (by rw [hV7]; exact C7.out.alloc (by have := C7.out.size; exact this) _)
    have hs7 : V7.heap.size = W7.heap.size + 1 := by rw [hV7]; simp
    replace X5 := Lib.hid (show Blk V7 _ _ _ by rw [hV7]; exact X5'.out.alloc _)
    clear X5'
    replace X8 := Lib.hid (show Blk V7 _ _ _ by rw [hV7]; exact X8'.out.alloc _)
    clear X8'
    replace X10 := Lib.hid (show Blk V7 _ _ _ by rw [hV7]; exact X10'.out.alloc _)
    clear X10'
    replace R7 := Lib.hid (show Row1 intV V7 V7.heap.size _ _ _ by rw [hV7]; exact R7'.out.allocK _)
    clear R7'
    have X12 : Hid (Blk V7 W7.heap.size 28 (tabL 8 (sC 0))) := Lib.hid (by rw [hV7, ← sL_tab]; exact blk_new _ _ _)
    rw [sL_zero] at hV7
    rw [← hV7]
    clear hV7 C7 hs7
    refine (HK.out _ B7.out).mono ?_
    rintro e W8 ⟨rfl, hw8⟩
    have C8 := Lib.hid (B7.out.trans (hw8.mono B7.out.size))
    have X5' := Lib.hid (X5.out.keep hw8)
    have X8' := Lib.hid (X8.out.keep hw8)
    have X10' := Lib.hid (X10.out.keep hw8)
    have X12' := Lib.hid (X12.out.keep hw8)
    have R7' := Lib.hid (R7.out.keep hw8)
    clear hw8
    have B8 := C8
    replace X5 := X5'
    clear X5'
    replace X8 := X8'
    clear X8'
    replace X10 := X10'
    clear X10'
    replace X12 := X12'
    clear X12'
    replace R7 := R7'
    clear R7'
    clear C8
    go_wp2_with fail
    go_ret
    exact ⟨rfl, B8.out⟩
  · have h0 : 511 < i := by omega
    clear hi
    go_enter Tryd.func8, Tryd.ntmps8
    go_wp2_with fail
    have B0 : Hid (Below w.heap.size w w) := Lib.hid (Below.refl _ _)
    refine (HAL.out).mono ?_
    rintro e wz ⟨rfl, rfl⟩
    go_wp2_with fail
    refine (HSE.out _ R0.out).mono ?_
    rintro e W1 ⟨rfl, hw1⟩
    have C1 := Lib.hid (B0.out.trans (hw1.mono B0.out.size))
    have R0' := Lib.hid (R0.out.keep hw1)
    clear hw1
    go_wp2_with fail
    obtain ⟨V1, hV1⟩ : ∃ V, V = W1.alloc (.cells (sL S).toArray 28) := ⟨_, rfl⟩
    have B1 : Hid (Below w.heap.size w V1) := Lib.hid (by rw [hV1]; exact C1.out.alloc (by have := C1.out.size; exact this) _)
    have hs1 : V1.heap.size = W1.heap.size + 1 := by rw [hV1]; simp
    replace R0 := Lib.hid (show Row1 intV V1 V1.heap.size _ _ _ by rw [hV1]; exact R0'.out.allocK _)
    clear R0'
    have X5 : Hid (Blk V1 W1.heap.size 28 (tabL 8 (sC S))) := Lib.hid (by rw [hV1, ← sL_tab]; exact blk_new _ _ _)
    unfold sL at hV1
    rw [← hV1]
    clear hV1 C1 hs1
    refine (HOF.out _ R0.out).mono ?_
    rintro e W2 ⟨v7, rfl, hown7, hw2⟩
    have C2 := Lib.hid (B1.out.trans (hw2.mono B1.out.size))
    have X5' := Lib.hid (X5.out.keep hw2)
    have R0' := Lib.hid (R0.out.keep hw2)
    obtain ⟨A7, c7, rfl, hr7⟩ := row1_of_own hown7
    have R7 := Lib.hid hr7
    clear hown7 hr7
    clear hw2
    have B2 := C2
    replace X5 := X5'
    clear X5'
    replace R0 := R0'
    clear R0'
    clear C2
    clear R0
    obtain ⟨x5_0, x5_1, x5_2, x5_3, x5_4, x5_5, x5_6, x5_7⟩ := X5.out.eight
    go_wp2_with fail
    clear x5_0 x5_1 x5_2 x5_3 x5_4 x5_5 x5_6 x5_7
    refine (HADD.out _).mono ?_
    rintro e W3 ⟨rfl, hw3⟩
    have C3 := Lib.hid (B2.out.trans (hw3.mono B2.out.size))
    have X5' := Lib.hid (X5.out.keep hw3)
    have R7' := Lib.hid (R7.out.keep hw3)
    clear hw3
    obtain ⟨x5_0, x5_1, x5_2, x5_3, x5_4, x5_5, x5_6, x5_7⟩ := X5'.out.eightA
    go_wp2_with fail
    clear x5_0 x5_1 x5_2 x5_3 x5_4 x5_5 x5_6 x5_7
    obtain ⟨V3, hV3⟩ : ∃ V, V = W3.alloc (.cells (sL 0).toArray 28) := ⟨_, rfl⟩
    have B3 : Hid (Below w.heap.size w V3) := Lib.hid (by rw [hV3]; exact C3.out.alloc (by have := C3.out.size; exact this) _)
    have hs3 : V3.heap.size = W3.heap.size + 1 := by rw [hV3]; simp
    replace X5 := Lib.hid (show Blk V3 _ _ _ by rw [hV3]; exact X5'.out.alloc _)
    clear X5'
    replace R7 := Lib.hid (show Row1 intV V3 V3.heap.size _ _ _ by rw [hV3]; exact R7'.out.allocK _)
    clear R7'
    have X8 : Hid (Blk V3 W3.heap.size 28 (tabL 8 (sC 0))) := Lib.hid (by rw [hV3, ← sL_tab]; exact blk_new _ _ _)
    rw [sL_zero] at hV3
    rw [← hV3]
    clear hV3 C3 hs3
    refine (HREM.out _).mono ?_
    rintro e W4 ⟨rfl, hw4⟩
    have C4 := Lib.hid (B3.out.trans (hw4.mono B3.out.size))
    have X5' := Lib.hid (X5.out.keep hw4)
    have X8' := Lib.hid (X8.out.keep hw4)
    have R7' := Lib.hid (R7.out.keep hw4)
    clear hw4
    obtain ⟨x5_0, x5_1, x5_2, x5_3, x5_4, x5_5, x5_6, x5_7⟩ := X5'.out.eightA
    go_wp2_with fail
    clear x5_0 x5_1 x5_2 x5_3 x5_4 x5_5 x5_6 x5_7
    obtain ⟨V4, hV4⟩ : ∃ V, V = W4.alloc (.cells (sL 0).toArray 28) := ⟨_, rfl⟩
    have B4 : Hid (Below w.heap.size w V4) := Lib.hid (by rw [hV4]; exact C4.out.alloc (by have := C4.out.size; exact this) _)
    have hs4 : V4.heap.size = W4.heap.size + 1 := by rw [hV4]; simp
    replace X5 := Lib.hid (show Blk V4 _ _ _ by rw [hV4]; exact X5'.out.alloc _)
    clear X5'
    replace X8 := Lib.hid (show Blk V4 _ _ _ by rw [hV4]; exact X8'.out.alloc _)
    clear X8'
    replace R7 := Lib.hid (show Row1 intV V4 V4.heap.size _ _ _ by rw [hV4]; exact R7'.out.allocK _)
    clear R7'
    have X10 : Hid (Blk V4 W4.heap.size 28 (tabL 8 (sC 0))) := Lib.hid (by rw [hV4, ← sL_tab]; exact blk_new _ _ _)
    rw [sL_zero] at hV4
    rw [← hV4]
    clear hV4 C4 hs4
    refine (HHAS.out _).mono ?_
    rintro e W5 ⟨rfl, hw5⟩
    have C5 := Lib.hid (B4.out.trans (hw5.mono B4.out.size))
    have X5' := Lib.hid (X5.out.keep hw5)
    have X8' := Lib.hid (X8.out.keep hw5)
    have X10' := Lib.hid (X10.out.keep hw5)
    have R7' := Lib.hid (R7.out.keep hw5)
    clear hw5
    have B5 := C5
    replace X5 := X5'
    clear X5'
    replace X8 := X8'
    clear X8'
    replace X10 := X10'
    clear X10'
    replace R7 := R7'
    clear R7'
    clear C5
    go_wp2_with fail
    refine (HIN.out _ _ _ R7.out).mono ?_
    rintro e wz ⟨rfl, rfl⟩
    obtain ⟨x5_0, x5_1, x5_2, x5_3, x5_4, x5_5, x5_6, x5_7⟩ := X5.out.eight
    go_wp2_with fail
    clear x5_0 x5_1 x5_2 x5_3 x5_4 x5_5 x5_6 x5_7
    refine (HNX.out _ (HT.out.keep B5.out)).mono ?_
    rintro e W6 ⟨rfl, hw6⟩
    have C6 := Lib.hid (B5.out.trans (hw6.mono B5.out.size))
    have X5' := Lib.hid (X5.out.keep hw6)
    have X8' := Lib.hid (X8.out.keep hw6)
    have X10' := Lib.hid (X10.out.keep hw6)
    have R7' := Lib.hid (R7.out.keep hw6)
    clear hw6
    have B6 := C6
    replace X5 := X5'
    clear X5'
    replace X8 := X8'
    clear X8'
    replace X10 := X10'
    clear X10'
    replace R7 := R7'
    clear R7'
    clear C6
    go_wp2_with fail
    refine (HNR.out _ _ _ R7.out).mono ?_
    rintro e wz ⟨rfl, rfl⟩
    obtain ⟨x5_0, x5_1, x5_2, x5_3, x5_4, x5_5, x5_6, x5_7⟩ := X5.out.eight
    go_wp2_with fail
    clear x5_0 x5_1 x5_2 x5_3 x5_4 x5_5 x5_6 x5_7
    refine (HIS.out _ _ _ _ (HT.out.keep B6.out) R7.out).mono ?_
    rintro e W7 ⟨rfl, hw7⟩
    have C7 := Lib.hid (B6.out.trans (hw7.mono B6.out.size))
    have X5' := Lib.hid (X5.out.keep hw7)
    have X8' := Lib.hid (X8.out.keep hw7)
    have X10' := Lib.hid (X10.out.keep hw7)
    have R7' := Lib.hid (R7.out.keep hw7)
    clear hw7
    obtain ⟨x8_0, x8_1, x8_2, x8_3, x8_4, x8_5, x8_6, x8_7⟩ := X8'.out.eightA
    simp only [wd_zero] at x8_0 x8_1 x8_2 x8_3 x8_4 x8_5 x8_6 x8_7
    obtain ⟨x10_0, x10_1, x10_2, x10_3, x10_4, x10_5, x10_6, x10_7⟩ := X10'.out.eightA
    simp only [wd_zero] at x10_0 x10_1 x10_2 x10_3 x10_4 x10_5 x10_6 x10_7
    go_wp2_with fail
    clear x8_0 x8_1 x8_2 x8_3 x8_4 x8_5 x8_6 x8_7 x10_0 x10_1 x10_2 x10_3 x10_4 x10_5 x10_6 x10_7
    obtain ⟨V7, hV7⟩ : ∃ V, V = W7.alloc (.cells (sL 0).toArray 28) := ⟨_, rfl⟩
    have B7 : Hid (Below w.heap.size w V7) := Lib.hid (by rw [hV7]; exact C7.out.alloc (by have := C7.out.size; exact this) _)
    have hs7 : V7.heap.size = W7.heap.size + 1 := by rw [hV7]; simp
    replace X5 := Lib.hid (show Blk V7 _ _ _ by rw [hV7]; exact X5'.out.alloc _)
    clear X5'
    replace X8 := Lib.hid (show Blk V7 _ _ _ by rw [hV7]; exact X8'.out.alloc _)
    clear X8'
    replace X10 := Lib.hid (show Blk V7 _ _ _ by rw [hV7]; exact X10'.out.alloc _)
    clear X10'
    replace R7 := Lib.hid (show Row1 intV V7 V7.heap.size _ _ _ by rw [hV7]; exact R7'.out.allocK _)
    clear R7'
    have X12 : Hid (Blk V7 W7.heap.size 28 (tabL 8 (sC 0))) := Lib.hid (by rw [hV7, ← sL_tab]; exact blk_new _ _ _)
    rw [sL_zero] at hV7
    rw [← hV7]
    clear hV7 C7 hs7
    refine (HK.out _ B7.out).mono ?_
    rintro e W8 ⟨rfl, hw8⟩
    have C8 := Lib.hid (B7.out.trans (hw8.mono B7.out.size))
    have X5' := Lib.hid (X5.out.keep hw8)
    have X8' := Lib.hid (X8.out.keep hw8)
    have X10' := Lib.hid (X10.out.keep hw8)
    have X12' := Lib.hid (X12.out.keep hw8)
    have R7' := Lib.hid (R7.out.keep hw8)
    clear hw8
    have B8 := C8
    replace X5 := X5'
    clear X5'
    replace X8 := X8'
    clear X8'
    replace X10 := X10'
    clear X10'
    replace X12 := X12'
    clear X12'
    replace R7 := R7'
    clear R7'
    clear C8
    go_wp2_with fail
    go_ret
    exact ⟨rfl, B8.out⟩

set_option maxRecDepth 100000 in
set_option maxHeartbeats 8000000 in
theorem members_in (w : World) (hT : Tab w) (A : Option Addr) (n c : Nat) (l : List Int) (i : Int) (S : Nat) (hn : n ≤ 60) (hl : Row1 intV w w.heap.size A n l) (hA : allowF l = true) (hS : ofF l = (S, 0)) (hF : Fit S) (hm : ofK l 512 = memI S) (hi0 : 0 ≤ i) (hi1 : i < 512) : Calls Tryd.prog 8 #[.slice A n c, .int .i64 i] w fun e w' => e = .returned (.bool true) ∧ Below w.heap.size w w' := by
  have HT := Lib.hid hT
  have HK : Hid (∀ W, Below w.heap.size w W → Calls Tryd.prog 12 #[] W (RetPost (.bool true) W.heap.size W)) := Lib.hid (fun W hb => known_any W (hT.keep hb))
  have h1 : (n : Int) ≤ 60 := by omega
  have HAL := Lib.hid (allowed_any A n c w _ l (by omega) hl)
  rw [hA] at HAL
  have HSE : Hid (∀ W, Row1 intV W W.heap.size A n l → Calls Tryd.prog 13 #[.slice A n c] W (RetPost (.tuple #[sV S, .bool true]) W.heap.size W)) := Lib.hid (fun W h => by have := set_any A n c W l (by omega) h; rw [hS] at this; exact this)
  have HOF : Hid (∀ W, Row1 intV W W.heap.size A n l → Calls Tryd.prog 14 #[.slice A n c] W (NewInts (memI S) W)) := Lib.hid (fun W h => by have := ofR_any A n c W l (by omega) h; rw [hm] at this; exact this)
  have HADD := Lib.hid (fun W => add_any S i W)
  have HREM := Lib.hid (fun W => remove_any S i W)
  have HHAS := Lib.hid (fun W => has_any S i W)
  have hml : (memI S).length ≤ 512 := by rw [memI_len]; exact mem_len S
  have HIN : Hid (∀ A' c' W, Row1 intV W W.heap.size A' (memI S).length (memI S) → Calls Tryd.prog 33 #[.slice A' (memI S).length c', .int .i64 i] W fun e w' => e = .returned (.bool (hasS S i)) ∧ W = w') := Lib.hid (fun A' c' W h => by have := in_any A' _ c' i W _ (memI S) (by omega) h; rw [inF_memI hF] at this; exact this)
  have HNX := Lib.hid (fun W h => next_any S i W hF h)
  have HNR : Hid (∀ A' c' W, Row1 intV W W.heap.size A' (memI S).length (memI S) → Calls Tryd.prog 24 #[.slice A' (memI S).length c', .int .i64 i] W fun e w' => e = .returned (.int .i64 (nextF S i)) ∧ W = w') := Lib.hid (fun A' c' W h => by have := nextR_any A' _ c' i W _ (memI S) (by omega) h; rw [nextR_memI] at this; exact this)
  have HIS : Hid (∀ A' n' c' W, Tab W → Row1 intV W W.heap.size A' n' (memI S) → Calls Tryd.prog 17 #[sV S, .slice A' n' c'] W (RetPost (.bool true) W.heap.size W)) := Lib.hid (fun A' n' c' W h1 h2 => is_any S A' n' c' W hF h1 h2)
  have ha1 : addF S i = (S ||| 2 ^ i.toNat, 0) := by unfold addF; rw [if_pos ⟨hi0, hi1⟩]
  have ha2 : remF S i = (mi S (2 ^ i.toNat), 0) := by unfold remF; rw [if_pos ⟨hi0, hi1⟩]
  rw [ha1] at HADD
  rw [ha2] at HREM
  dsimp only at HADD HREM
  have hii : ((i.toNat : Nat) : Int) = i := by omega
  have hU1 : ofK (memI S ++ [i]) 512 = memI (S ||| 2 ^ i.toNat) := by have := orbit_law (i := i.toNat) hF; rwa [hii] at this
  have hU2 : partF [i] false (memI S) = memI (mi S (2 ^ i.toNat)) := by have := mibit_law (S := S) (i := i.toNat); rwa [hii] at this
  have HF1 := Lib.hid (orbit_lt hF (show i.toNat < 512 by omega))
  have HF2 := Lib.hid (mi_lt (2 ^ i.toNat) hF)
  generalize S ||| 2 ^ i.toNat = U1 at *
  generalize mi S (2 ^ i.toNat) = U2 at *
  have HUN : Hid (∀ A' c' B' d' W, Row1 intV W W.heap.size A' (memI S).length (memI S) → Row1 intV W W.heap.size B' 1 [i] → Calls Tryd.prog 35 #[.slice A' (memI S).length c', .slice B' 1 d'] W (NewInts (memI U1) W)) := Lib.hid (fun A' c' B' d' W h1 h2 => by have := unionR_any A' B' _ c' 1 d' W (memI S) [i] (by omega) (by omega) h1 h2; rw [hU1] at this; exact this)
  have HPA : Hid (∀ A' c' B' d' W, Row1 intV W W.heap.size A' (memI S).length (memI S) → Row1 intV W W.heap.size B' 1 [i] → Calls Tryd.prog 36 #[.slice A' (memI S).length c', .slice B' 1 d', .bool false] W (NewInts (memI U2) W)) := Lib.hid (fun A' c' B' d' W h1 h2 => by have := part_any A' B' _ c' 1 d' false W (memI S) [i] (by omega) (by omega) h1 h2; rw [hU2] at this; exact this)
  have HI1 : Hid (∀ A' n' c' W, Tab W → Row1 intV W W.heap.size A' n' (memI U1) → Calls Tryd.prog 17 #[sV U1, .slice A' n' c'] W (RetPost (.bool true) W.heap.size W)) := Lib.hid (fun A' n' c' W h1 h2 => is_any U1 A' n' c' W HF1.out h1 h2)
  have HI2 : Hid (∀ A' n' c' W, Tab W → Row1 intV W W.heap.size A' n' (memI U2) → Calls Tryd.prog 17 #[sV U2, .slice A' n' c'] W (RetPost (.bool true) W.heap.size W)) := Lib.hid (fun A' n' c' W h1 h2 => is_any U2 A' n' c' W HF2.out h1 h2)
  have R0 := Lib.hid hl
  have hbb : (hasS S i != hasS S i) = false := by simp
  have hnn : (nextF S i != nextF S i) = false := by simp
  generalize hasS S i = hb at *
  generalize nextF S i = nx at *
  unfold sV at HSE HADD HREM HHAS HNX HIS HI1 HI2
  have h5 : ¬ 511 < i := by omega
  clear hT hl hA hS hF hm ha1 ha2 hU1 hU2 hii
  go_enter Tryd.func8, Tryd.ntmps8
  go_wp2_with fail
  have B0 : Hid (Below w.heap.size w w) := Lib.hid (Below.refl _ _)
  refine (HAL.out).mono ?_
  rintro e wz ⟨rfl, rfl⟩
  go_wp2_with fail
  refine (HSE.out _ R0.out).mono ?_
  rintro e W1 ⟨rfl, hw1⟩
  have C1 := Lib.hid (B0.out.trans (hw1.mono B0.out.size))
  have R0' := Lib.hid (R0.out.keep hw1)
  clear hw1
  go_wp2_with fail
  obtain ⟨V1, hV1⟩ : ∃ V, V = W1.alloc (.cells (sL S).toArray 28) := ⟨_, rfl⟩
  have B1 : Hid (Below w.heap.size w V1) := Lib.hid (by rw [hV1]; exact C1.out.alloc (by have := C1.out.size; exact this) _)
  have hs1 : V1.heap.size = W1.heap.size + 1 := by rw [hV1]; simp
  replace R0 := Lib.hid (show Row1 intV V1 V1.heap.size _ _ _ by rw [hV1]; exact R0'.out.allocK _)
  clear R0'
  have X5 : Hid (Blk V1 W1.heap.size 28 (tabL 8 (sC S))) := Lib.hid (by rw [hV1, ← sL_tab]; exact blk_new _ _ _)
  unfold sL at hV1
  rw [← hV1]
  clear hV1 C1 hs1
  refine (HOF.out _ R0.out).mono ?_
  rintro e W2 ⟨v7, rfl, hown7, hw2⟩
  have C2 := Lib.hid (B1.out.trans (hw2.mono B1.out.size))
  have X5' := Lib.hid (X5.out.keep hw2)
  have R0' := Lib.hid (R0.out.keep hw2)
  obtain ⟨A7, c7, rfl, hr7⟩ := row1_of_own hown7
  have R7 := Lib.hid hr7
  clear hown7 hr7
  clear hw2
  have B2 := C2
  replace X5 := X5'
  clear X5'
  replace R0 := R0'
  clear R0'
  clear C2
  clear R0
  obtain ⟨x5_0, x5_1, x5_2, x5_3, x5_4, x5_5, x5_6, x5_7⟩ := X5.out.eight
  go_wp2_with fail
  clear x5_0 x5_1 x5_2 x5_3 x5_4 x5_5 x5_6 x5_7
  refine (HADD.out _).mono ?_
  rintro e W3 ⟨rfl, hw3⟩
  have C3 := Lib.hid (B2.out.trans (hw3.mono B2.out.size))
  have X5' := Lib.hid (X5.out.keep hw3)
  have R7' := Lib.hid (R7.out.keep hw3)
  clear hw3
  obtain ⟨x5_0, x5_1, x5_2, x5_3, x5_4, x5_5, x5_6, x5_7⟩ := X5'.out.eightA
  go_wp2_with fail
  clear x5_0 x5_1 x5_2 x5_3 x5_4 x5_5 x5_6 x5_7
  obtain ⟨V3, hV3⟩ : ∃ V, V = W3.alloc (.cells (sL U1).toArray 28) := ⟨_, rfl⟩
  have B3 : Hid (Below w.heap.size w V3) := Lib.hid (by rw [hV3]; exact C3.out.alloc (by have := C3.out.size; exact this) _)
  have hs3 : V3.heap.size = W3.heap.size + 1 := by rw [hV3]; simp
  replace X5 := Lib.hid (show Blk V3 _ _ _ by rw [hV3]; exact X5'.out.alloc _)
  clear X5'
  replace R7 := Lib.hid (show Row1 intV V3 V3.heap.size _ _ _ by rw [hV3]; exact R7'.out.allocK _)
  clear R7'
  have X8 : Hid (Blk V3 W3.heap.size 28 (tabL 8 (sC U1))) := Lib.hid (by rw [hV3, ← sL_tab]; exact blk_new _ _ _)
  unfold sL at hV3
  rw [← hV3]
  clear hV3 C3 hs3
  refine (HREM.out _).mono ?_
  rintro e W4 ⟨rfl, hw4⟩
  have C4 := Lib.hid (B3.out.trans (hw4.mono B3.out.size))
  have X5' := Lib.hid (X5.out.keep hw4)
  have X8' := Lib.hid (X8.out.keep hw4)
  have R7' := Lib.hid (R7.out.keep hw4)
  clear hw4
  obtain ⟨x5_0, x5_1, x5_2, x5_3, x5_4, x5_5, x5_6, x5_7⟩ := X5'.out.eightA
  go_wp2_with fail
  clear x5_0 x5_1 x5_2 x5_3 x5_4 x5_5 x5_6 x5_7
  obtain ⟨V4, hV4⟩ : ∃ V, V = W4.alloc (.cells (sL U2).toArray 28) := ⟨_, rfl⟩
  have B4 : Hid (Below w.heap.size w V4) := Lib.hid (by rw [hV4]; exact C4.out.alloc (by have := C4.out.size; exact this) _)
  have hs4 : V4.heap.size = W4.heap.size + 1 := by rw [hV4]; simp
  replace X5 := Lib.hid (show Blk V4 _ _ _ by rw [hV4]; exact X5'.out.alloc _)
  clear X5'
  replace X8 := Lib.hid (show Blk V4 _ _ _ by rw [hV4]; exact X8'.out.alloc _)
  clear X8'
  replace R7 := Lib.hid (show Row1 intV V4 V4.heap.size _ _ _ by rw [hV4]; exact R7'.out.allocK _)
  clear R7'
  have X10 : Hid (Blk V4 W4.heap.size 28 (tabL 8 (sC U2))) := Lib.hid (by rw [hV4, ← sL_tab]; exact blk_new _ _ _)
  unfold sL at hV4
  rw [← hV4]
  clear hV4 C4 hs4
  refine (HHAS.out _).mono ?_
  rintro e W5 ⟨rfl, hw5⟩
  have C5 := Lib.hid (B4.out.trans (hw5.mono B4.out.size))
  have X5' := Lib.hid (X5.out.keep hw5)
  have X8' := Lib.hid (X8.out.keep hw5)
  have X10' := Lib.hid (X10.out.keep hw5)
  have R7' := Lib.hid (R7.out.keep hw5)
  clear hw5
  have B5 := C5
  replace X5 := X5'
  clear X5'
  replace X8 := X8'
  clear X8'
  replace X10 := X10'
  clear X10'
  replace R7 := R7'
  clear R7'
  clear C5
  go_wp2_with fail
  refine (HIN.out _ _ _ R7.out).mono ?_
  rintro e wz ⟨rfl, rfl⟩
  obtain ⟨x5_0, x5_1, x5_2, x5_3, x5_4, x5_5, x5_6, x5_7⟩ := X5.out.eight
  go_wp2_with fail
  clear x5_0 x5_1 x5_2 x5_3 x5_4 x5_5 x5_6 x5_7
  refine (HNX.out _ (HT.out.keep B5.out)).mono ?_
  rintro e W6 ⟨rfl, hw6⟩
  have C6 := Lib.hid (B5.out.trans (hw6.mono B5.out.size))
  have X5' := Lib.hid (X5.out.keep hw6)
  have X8' := Lib.hid (X8.out.keep hw6)
  have X10' := Lib.hid (X10.out.keep hw6)
  have R7' := Lib.hid (R7.out.keep hw6)
  clear hw6
  have B6 := C6
  replace X5 := X5'
  clear X5'
  replace X8 := X8'
  clear X8'
  replace X10 := X10'
  clear X10'
  replace R7 := R7'
  clear R7'
  clear C6
  go_wp2_with fail
  refine (HNR.out _ _ _ R7.out).mono ?_
  rintro e wz ⟨rfl, rfl⟩
  obtain ⟨x5_0, x5_1, x5_2, x5_3, x5_4, x5_5, x5_6, x5_7⟩ := X5.out.eight
  go_wp2_with fail
  clear x5_0 x5_1 x5_2 x5_3 x5_4 x5_5 x5_6 x5_7
  refine (HIS.out _ _ _ _ (HT.out.keep B6.out) R7.out).mono ?_
  rintro e W7 ⟨rfl, hw7⟩
  have C7 := Lib.hid (B6.out.trans (hw7.mono B6.out.size))
  have X5' := Lib.hid (X5.out.keep hw7)
  have X8' := Lib.hid (X8.out.keep hw7)
  have X10' := Lib.hid (X10.out.keep hw7)
  have R7' := Lib.hid (R7.out.keep hw7)
  clear hw7
  go_wp2_with fail
  obtain ⟨V7, hV7⟩ : ∃ V, V = W7.alloc (.cells (sL 0).toArray 28) := ⟨_, rfl⟩
  have B7 : Hid (Below w.heap.size w V7) := Lib.hid (by rw [hV7]; exact C7.out.alloc (by have := C7.out.size; exact this) _)
  have hs7 : V7.heap.size = W7.heap.size + 1 := by rw [hV7]; simp
  replace X5 := Lib.hid (show Blk V7 _ _ _ by rw [hV7]; exact X5'.out.alloc _)
  clear X5'
  replace X8 := Lib.hid (show Blk V7 _ _ _ by rw [hV7]; exact X8'.out.alloc _)
  clear X8'
  replace X10 := Lib.hid (show Blk V7 _ _ _ by rw [hV7]; exact X10'.out.alloc _)
  clear X10'
  replace R7 := Lib.hid (show Row1 intV V7 V7.heap.size _ _ _ by rw [hV7]; exact R7'.out.allocK _)
  clear R7'
  have X12 : Hid (Blk V7 W7.heap.size 28 (tabL 8 (sC 0))) := Lib.hid (by rw [hV7, ← sL_tab]; exact blk_new _ _ _)
  rw [sL_zero] at hV7
  rw [← hV7]
  clear hV7 C7 hs7
  clear X5 X12
  obtain ⟨V, hVV⟩ : ∃ V : World, V = V7 := ⟨_, rfl⟩
  have D0 := Lib.hid (show Below w.heap.size w V7.drew from B7.out.drew)
  have Y8 := Lib.hid X8.out.drew
  have Y10 := Lib.hid X10.out.drew
  have Q7 := Lib.hid R7.out.drewK
  clear hVV
  refine Lx.region (C := fun w' => (w'.cell? ⟨W3.heap.size, 0, none⟩ = some (.int .u64 (wd U1 0)) ∧ w'.cell? ⟨W3.heap.size, 1, none⟩ = some (.int .u64 (wd U1 1)) ∧ w'.cell? ⟨W3.heap.size, 2, none⟩ = some (.int .u64 (wd U1 2)) ∧ w'.cell? ⟨W3.heap.size, 3, none⟩ = some (.int .u64 (wd U1 3)) ∧ w'.cell? ⟨W3.heap.size, 4, none⟩ = some (.int .u64 (wd U1 4)) ∧ w'.cell? ⟨W3.heap.size, 5, none⟩ = some (.int .u64 (wd U1 5)) ∧ w'.cell? ⟨W3.heap.size, 6, none⟩ = some (.int .u64 (wd U1 6)) ∧ w'.cell? ⟨W3.heap.size, 7, none⟩ = some (.int .u64 (wd U1 7))) ∧ (w'.cell? ⟨W4.heap.size, 0, none⟩ = some (.int .u64 (wd U2 0)) ∧ w'.cell? ⟨W4.heap.size, 1, none⟩ = some (.int .u64 (wd U2 1)) ∧ w'.cell? ⟨W4.heap.size, 2, none⟩ = some (.int .u64 (wd U2 2)) ∧ w'.cell? ⟨W4.heap.size, 3, none⟩ = some (.int .u64 (wd U2 3)) ∧ w'.cell? ⟨W4.heap.size, 4, none⟩ = some (.int .u64 (wd U2 4)) ∧ w'.cell? ⟨W4.heap.size, 5, none⟩ = some (.int .u64 (wd U2 5)) ∧ w'.cell? ⟨W4.heap.size, 6, none⟩ = some (.int .u64 (wd U2 6)) ∧ w'.cell? ⟨W4.heap.size, 7, none⟩ = some (.int .u64 (wd U2 7)))) (hs := [7, 15]) (by kernel_rfl) (by kernel_rfl) (by exact ⟨Y8.out.eight, Y10.out.eight⟩) ?_
  repeat' (first
    | (refine Lx.lex_no (Lx.n1 rfl rfl rfl (by with_reducible rfl)) (fun K hK => ?_); go_simp; refine hK _ ?_; clear hK K)
    | (refine Lx.lex_no (Lx.n0 rfl rfl rfl (by with_reducible rfl)) (fun K hK => ?_); go_simp; refine hK _ ?_; clear hK K)
    | (refine Lx.lex_no (Lx.n2 rfl rfl rfl) (fun K hK => ?_); go_simp; refine hK _ ?_; clear hK K)
    | (refine Lx.lex_pure (v := ?_) rfl (by first | exact Lx.w0 rfl | exact Lx.w1 rfl rfl rfl (by with_reducible rfl)) ?_ (fun K hK => ?_); rotate_left 1; (intro w' hCw; (try dsimp only at hCw); go_simp; done); go_simp; refine hK _ ?_; clear hK K)
    | (refine Lx.lex_pure (v := ?_) rfl (by first | exact Lx.w0 rfl | exact Lx.w1 rfl rfl rfl (by with_reducible rfl)) ?_ (fun K hK => ?_); rotate_left 1; (intro w' hCw; (try dsimp only at hCw); go_simp; with_reducible rfl); go_simp; refine hK _ ?_; clear hK K)
    | (refine Lx.lex_read (v := ?_) rfl (by first | exact Lx.w0 rfl | exact Lx.w1 rfl rfl rfl (by with_reducible rfl)) ?_ (fun K hK => ?_); rotate_left 1; (go_simp; done); go_simp; refine hK _ ?_; clear hK K)
    | (refine Lx.lex_read (v := ?_) rfl (by first | exact Lx.w0 rfl | exact Lx.w1 rfl rfl rfl (by with_reducible rfl)) ?_ (fun K hK => ?_); rotate_left 1; (go_simp; with_reducible rfl); go_simp; refine hK _ ?_; clear hK K)
    | (refine Lx.lex_eff rfl (by first | exact Lx.w0 rfl | exact Lx.w1 rfl rfl rfl (by with_reducible rfl)) (fun K hK => ?_); go_simp; (first | (go_at_call 35; refine (HUN.out _ _ _ _ _ (Q7.out.allocK _) (row_one _ i)).mono ?_; rintro e Z1 ⟨vu, rfl, uo, hw⟩; have D1 := Lib.hid ((D0.out.alloc D0.out.size _).trans (hw.mono ((D0.out.alloc D0.out.size _)).size)); replace Y8 := Lib.hid ((Y8.out.alloc (.cells #[.int .i64 i] 3)).keep hw); replace Y10 := Lib.hid ((Y10.out.alloc (.cells #[.int .i64 i] 3)).keep hw); replace Q7 := Lib.hid ((Q7.out.allocK (.cells #[.int .i64 i] 3)).keep hw); clear HUN; obtain ⟨uA, uc, rfl, ur⟩ := row1_of_own uo; have Ru := Lib.hid ur; clear uo ur; clear hw D0) | (go_at_call 17; refine (HI1.out _ _ _ _ (HT.out.keep D1.out) Ru.out).mono ?_; rintro e Z2 ⟨rfl, hw⟩; have D2 := Lib.hid (D1.out.trans (hw.mono (D1.out).size)); replace Y8 := Lib.hid (Y8.out.keep hw); replace Y10 := Lib.hid (Y10.out.keep hw); replace Q7 := Lib.hid (Q7.out.keep hw); clear HI1 Ru; clear hw D1) | (go_at_call 36; refine (HPA.out _ _ _ _ _ (Q7.out.allocK _) (row_one _ i)).mono ?_; rintro e Z3 ⟨vp, rfl, po, hw⟩; have D3 := Lib.hid ((D2.out.alloc D2.out.size _).trans (hw.mono ((D2.out.alloc D2.out.size _)).size)); replace Y8 := Lib.hid ((Y8.out.alloc (.cells #[.int .i64 i] 3)).keep hw); replace Y10 := Lib.hid ((Y10.out.alloc (.cells #[.int .i64 i] 3)).keep hw); replace Q7 := Lib.hid ((Q7.out.allocK (.cells #[.int .i64 i] 3)).keep hw); clear HPA; obtain ⟨pA, pc, rfl, pr⟩ := row1_of_own po; have Rp := Lib.hid pr; clear po pr; clear hw D2) | (go_at_call 17; refine (HI2.out _ _ _ _ (HT.out.keep D3.out) Rp.out).mono ?_; rintro e Z4 ⟨rfl, hw⟩; have D4 := Lib.hid (D3.out.trans (hw.mono (D3.out).size)); replace Y8 := Lib.hid (Y8.out.keep hw); replace Y10 := Lib.hid (Y10.out.keep hw); replace Q7 := Lib.hid (Q7.out.keep hw); clear HI2 Rp; clear hw D3) | (go_at_call 12; refine (HK.out _ D4.out).mono ?_; rintro e Z5 ⟨rfl, hw⟩; have D5 := Lib.hid (D4.out.trans (hw.mono (D4.out).size)); replace Y8 := Lib.hid (Y8.out.keep hw); replace Y10 := Lib.hid (Y10.out.keep hw); replace Q7 := Lib.hid (Q7.out.keep hw); clear hw D4) | skip); refine hK _ _ (by first | exact ⟨Y8.out.eight, Y10.out.eight⟩ | exact ⟨(Y8.out.alloc _).eight, (Y10.out.alloc _).eight⟩) ?_; clear hK K)
    | (refine Lx.lex_cases rfl rfl rfl (fun hgd K hK => ?_) (fun hgd K hK => ?_) <;> (try simp only [decide_eq_true_eq, decide_eq_false_iff_not] at hgd) <;> (first | (exfalso; omega) | (go_simp; refine hK _ ?_; clear hK K))))
  all_goals (refine Lx.lex_nil ?_)
  go_wp2_with fail
  go_ret
  exact ⟨rfl, D5.out⟩

theorem bitsetMembers_walk (w : World) (hT : Tab w) (A : Option Addr) (n c : Nat) (l : List Int) (hl : Row1 intV w w.heap.size A n l) (_ : ∀ z ∈ l, I64 z) (_ : n ≤ 9223372036854775807) (i : Int) (_ : I64 i) : Calls Tryd.prog 8 #[.slice A n c, .int .i64 i] w fun e w' => e = .returned (.bool true) ∧ Below w.heap.size w w' := by
  by_cases hn : n ≤ 60
  · cases hA : allowF l with
    | false => exact members_bad w hT A n c l i hn hl hA
    | true =>
      obtain ⟨S, h1, h2, h3, _⟩ := of_good hA
      by_cases hi : 0 ≤ i ∧ i < 512
      · exact members_in w hT A n c l i S hn hl hA h1 h2 h3 hi.1 hi.2
      · exact members_out w hT A n c l i S hn hl hA h1 h2 h3 hi
  · exact members_long w hT A n c i (by omega)

set_option maxRecDepth 100000 in
theorem bitsetMembers_lifted (os : Os) (started : os.Started) (H : Type) (enc : TypeId × Value → H) :
    ReturnsInHanded {} Tryd.checked os 8 .any (fun w args => (Rows.bitsetMembersSpec.pre enc Tryd.prog Tryd.f8 [] false w args ∧ laidMetH Tryd.prog laid07 w) ∧ sizedMet enc Tryd.prog Tryd.f8 (OpenSpec.ofChange Rows.bitsetMembersSpec) false w args) (Rows.bitsetMembersSpec.post enc Tryd.prog Tryd.f8 false true false false) := by
  refine handed_laid (C := Tryd.checked) (laid := laid07) own started (by kernel_rfl) Tryd.func8
    (ChangeSpec.witness_shaped (enc := enc) (C := Tryd.checked) (os := os) (X := fun w _ => laidMetH Tryd.prog laid07 w) false (World.laidAll Tryd.prog os laid07) #[.slice none 0 0, .int .i64 0] 8 (World.laidAll_os _ _ _) (World.shaped_of_ZipB (by kernel_rfl) (by kernel_rfl)) (by kernel_rfl) (by kernel_rfl) (by kernel_rfl) (laidHold os _)) ?_
  intro W base args ds gs before hval0 hW hL hsh
  have hTab := tab_of hL hsh
  have hval : ∀ (j : Nat) t v, Tryd.f8.params[j]? = some t → args[j]? = some v → Value.okWide Tryd.prog W .any base t v := hval0
  have hW' := hW
  obtain ⟨p, q, hA0, hV, rfl, hfz, hnd⟩ := hW
  have hA : DataW.TrodAll enc Tryd.prog W 0 (fun _ => true) true Tryd.f8.params.toList args.toList ds p := hA0
  rw [Tryd.params8] at hA hval
  obtain ⟨v0, vs0, d0, ds0, p0, q0, hargs, rfl, rfl, h0, r0⟩ := trodAll_cons hA
  obtain ⟨v1, vs1, d1, ds1, p1, q1, rfl, rfl, rfl, h1, r1⟩ := trodAll_cons r0
  obtain ⟨rfl, rfl, rfl⟩ := trodAll_nil r1
  obtain rfl : args = #[v0, v1] := by cases args; simp_all
  obtain ⟨rfl, rfl⟩ := trodVars_none hV
  have k0 := h0
  have lt0 : ∀ x ∈ p0, x.block < W.heap.size := by obtain ⟨m, hm⟩ := k0; exact DataW.trod_lt m _ _ _ hm
  have k1 := h1
  have lt1 : ∀ x ∈ p1, x.block < W.heap.size := by obtain ⟨m, hm⟩ := k1; exact DataW.trod_lt m _ _ _ hm
  obtain ⟨A0, n0, c0, xs0, rfl, R0, b0, m0⟩ := arg_ints Tryd.underlying22 Tryd.underlying3 (by kernel_rfl) (hval 0 22 _ rfl rfl) h0
  obtain ⟨x1, rfl, b1⟩ := arg_int Tryd.underlying3 (hval 1 3 _ rfl rfl) h1
  clear hA0 hval0
  refine (bitsetMembers_walk W hTab A0 n0 c0 xs0 R0 b0 m0 x1 b1).mono fun e W' ⟨he, bel⟩ => ?_
  subst he
  exact ⟨_, rfl, _, _, _, [], _, [], hW', trodAll_mk1 (shut_bool Tryd.underlying4 _), (trodAll_cons_mk (Below.trod laidOut (by kernel_rfl) (of_decide_eq_true (by kernel_rfl)) k0 bel lt0) (trodAll_cons_mk (Below.trod laidOut (by kernel_rfl) (of_decide_eq_true (by kernel_rfl)) k1 bel lt1) trodAll_mk0)), rfl, bel.frame _, fun h => by cases h⟩

theorem bitsetMembers_over : Rows.bitsetMembersRow.holds Tryd.pinned (OpenSpec.ofChange Rows.bitsetMembersSpec) :=
  OpenClaim.holds_of_wide 8 Tryd.f8 rfl rfl rfl rfl rfl rfl rfl ⟨rfl, rfl, rfl, rfl, rfl⟩ rfl rfl rfl rfl rfl (by kernel_rfl) Tryd.func8 (by kernel_rfl)
    (of_decide_eq_true (by kernel_rfl)) (by unfold Func.isWrapper; first | (rw [if_pos (by decide +kernel)]; kernel_rfl) | (rw [if_neg (by decide +kernel)]; exact ⟨rfl, rfl⟩))
    (fun os started H enc _ => bitsetMembers_lifted os started H enc)

theorem bitsetMembersCard_holds : Rows.BitsetMembersCardSaid :=
  Claim7.holds_tied_plain_at .later [] [.data, .data, .data] true (true, "39aa42fe034a2cbedf78232cde6b0da1e7f2e4be5808576f250df2ef6185728f") false
    bitsetMembers_over (fun _ h => by cases h) (by kernel_rfl) (fun _ h => by cases h) bitsetMembers_row_tie rfl ⟨rfl, rfl⟩ (by kernel_rfl) rfl
    (fun f fn hf hfn => by
      obtain rfl : f = 8 := Option.some.inj ((show Tryd.prog.funcNamed "bandplan/bandplanlaw07.BitsetMembers" = some 8 by kernel_rfl).symm.trans hf) |>.symm
      obtain rfl : fn = Tryd.f8 := (Option.some.inj (Tryd.func8.symm.trans hfn)).symm
      exact ⟨by kernel_rfl, fun j t ht => by
        rw [Tryd.params8] at ht
        rcases j with _ | j
        · obtain rfl : t = 22 := by simpa using ht.symm
          exact (show Tryd.prog.wantsStandIn 22 = false by kernel_rfl)
        rcases j with _ | j
        · obtain rfl : t = 3 := by simpa using ht.symm
          exact (show Tryd.prog.wantsStandIn 3 = false by kernel_rfl)
        · simp at ht⟩)
    (by kernel_rfl)
#print axioms bitsetMembersCard_holds
end Go.Proofs.YtencbmgjdiillaaDoor
