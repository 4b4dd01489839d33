/- BitsetPairs: for any two lists of numbers, unions, intersections, differences, subsets and the equality of their sets are as the statement says. -/
import Derived.Test.YtencbmgjdiillaaDoorCn07
namespace Go.Proofs.YtencbmgjdiillaaDoor
open Go.RowKit Go.ChangeShapes Go.WideShapes Go.ChangeAt Go.Deep Go.Joins

set_option maxHeartbeats 2000000 in
theorem pairs_long (w : World) (hT : Tab w) (A B : Option Addr) (n c m d : Nat) (hn : 60 < n) : Calls Tryd.prog 9 #[.slice A n c, .slice B m d] w fun e w' => e = .returned (.bool true) ∧ Below w.heap.size w w' := by
  have HK : Hid (∀ W, Below w.heap.size w W → Calls Tryd.prog 12 #[] W (RetPost (.bool true) W.heap.size W)) := Lib.hid (fun W hb => known_any W (hT.keep hb))
  have h1 : (60 : Int) < (n : Int) := by omega
  clear hT hn
  go_enter Tryd.func9, Tryd.ntmps9
  go_wp2_with fail
  have B0 : Hid (Below w.heap.size w w) := Lib.hid (Below.refl _ _)
  refine (HK.out _ B0.out).mono ?_
  rintro e W1 ⟨rfl, hw1⟩
  have C1 := Lib.hid (B0.out.trans (hw1.mono B0.out.size))
  clear hw1
  have B1 := C1
  clear C1
  go_wp2_with fail
  go_ret
  exact ⟨rfl, B1.out⟩

set_option maxHeartbeats 2000000 in
theorem pairs_long2 (w : World) (hT : Tab w) (A B : Option Addr) (n c m d : Nat) (hn : n ≤ 60) (hm : 60 < m) : Calls Tryd.prog 9 #[.slice A n c, .slice B m d] w fun e w' => e = .returned (.bool true) ∧ Below w.heap.size w w' := by
  have HK : Hid (∀ W, Below w.heap.size w W → Calls Tryd.prog 12 #[] W (RetPost (.bool true) W.heap.size W)) := Lib.hid (fun W hb => known_any W (hT.keep hb))
  have h1 : (n : Int) ≤ 60 := by omega
  have h2 : (60 : Int) < (m : Int) := by omega
  clear hT hn hm
  go_enter Tryd.func9, Tryd.ntmps9
  go_wp2_with fail
  have B0 : Hid (Below w.heap.size w w) := Lib.hid (Below.refl _ _)
  refine (HK.out _ B0.out).mono ?_
  rintro e W1 ⟨rfl, hw1⟩
  have C1 := Lib.hid (B0.out.trans (hw1.mono B0.out.size))
  clear hw1
  have B1 := C1
  clear C1
  go_wp2_with fail
  go_ret
  exact ⟨rfl, B1.out⟩

set_option maxHeartbeats 2000000 in
theorem pairs_bad (w : World) (hT : Tab w) (A B : Option Addr) (n c m d : Nat) (a : List Int) (hn : n ≤ 60) (hm : m ≤ 60) (ha : Row1 intV w w.heap.size A n a) (hA : allowF a = false) : Calls Tryd.prog 9 #[.slice A n c, .slice B m d] w fun e w' => e = .returned (.bool true) ∧ Below w.heap.size w w' := by
  have HK : Hid (∀ W, Below w.heap.size w W → Calls Tryd.prog 12 #[] W (RetPost (.bool true) W.heap.size W)) := Lib.hid (fun W hb => known_any W (hT.keep hb))
  have h1 : (n : Int) ≤ 60 := by omega
  have h2 : (m : Int) ≤ 60 := by omega
  have HAL := Lib.hid (allowed_any A n c w _ a (by omega) ha)
  rw [hA] at HAL
  clear hT hn hm ha hA
  go_enter Tryd.func9, Tryd.ntmps9
  go_wp2_with fail
  have B0 : Hid (Below w.heap.size w w) := Lib.hid (Below.refl _ _)
  refine (HAL.out).mono ?_
  rintro e wz ⟨rfl, rfl⟩
  go_wp2_with fail
  refine (HK.out _ B0.out).mono ?_
  rintro e W1 ⟨rfl, hw1⟩
  have C1 := Lib.hid (B0.out.trans (hw1.mono B0.out.size))
  clear hw1
  have B1 := C1
  clear C1
  go_wp2_with fail
  go_ret
  exact ⟨rfl, B1.out⟩

set_option maxHeartbeats 2000000 in
theorem pairs_bad2 (w : World) (hT : Tab w) (A B : Option Addr) (n c m d : Nat) (a b : List Int) (hn : n ≤ 60) (hm : m ≤ 60) (ha : Row1 intV w w.heap.size A n a) (hb : Row1 intV w w.heap.size B m b) (hA : allowF a = true) (hB : allowF b = false) : Calls Tryd.prog 9 #[.slice A n c, .slice B m d] w fun e w' => e = .returned (.bool true) ∧ Below w.heap.size w w' := by
  have HK : Hid (∀ W, Below w.heap.size w W → Calls Tryd.prog 12 #[] W (RetPost (.bool true) W.heap.size W)) := Lib.hid (fun W hb => known_any W (hT.keep hb))
  have h1 : (n : Int) ≤ 60 := by omega
  have h2 : (m : Int) ≤ 60 := by omega
  have HAL := Lib.hid (allowed_any A n c w _ a (by omega) ha)
  have HBL := Lib.hid (allowed_any B m d w _ b (by omega) hb)
  rw [hA] at HAL
  rw [hB] at HBL
  clear hT hn hm ha hA hb hB
  go_enter Tryd.func9, Tryd.ntmps9
  go_wp2_with fail
  have B0 : Hid (Below w.heap.size w w) := Lib.hid (Below.refl _ _)
  refine (HAL.out).mono ?_
  rintro e wz ⟨rfl, rfl⟩
  go_wp2_with fail
  refine (HBL.out).mono ?_
  rintro e wz ⟨rfl, rfl⟩
  go_wp2_with fail
  refine (HK.out _ B0.out).mono ?_
  rintro e W1 ⟨rfl, hw1⟩
  have C1 := Lib.hid (B0.out.trans (hw1.mono B0.out.size))
  clear hw1
  have B1 := C1
  clear C1
  go_wp2_with fail
  go_ret
  exact ⟨rfl, B1.out⟩

set_option maxRecDepth 100000 in
set_option maxHeartbeats 8000000 in
theorem pairs_main (w : World) (hT : Tab w) (A B : Option Addr) (n c m d : Nat) (a b : List Int) (S T : Nat) (hn : n ≤ 60) (hm : m ≤ 60) (ha : Row1 intV w w.heap.size A n a) (hb : Row1 intV w w.heap.size B m b) (hA : allowF a = true) (hB : allowF b = true)
    (hS : ofF a = (S, 0)) (hF : Fit S) (hk : ofK a 512 = memI S) (hS' : ofF b = (T, 0)) (hF' : Fit T) (hk' : ofK b 512 = memI T) : Calls Tryd.prog 9 #[.slice A n c, .slice B m d] w fun e w' => e = .returned (.bool true) ∧ Below w.heap.size w w' := by
  have HT := Lib.hid hT
  have HK : Hid (∀ W, Below w.heap.size w W → Calls Tryd.prog 12 #[] W (RetPost (.bool true) W.heap.size W)) := Lib.hid (fun W hb => known_any W (hT.keep hb))
  have h1 : (n : Int) ≤ 60 := by omega
  have h2 : (m : Int) ≤ 60 := by omega
  have HAL := Lib.hid (allowed_any A n c w _ a (by omega) ha)
  have HBL := Lib.hid (allowed_any B m d w _ b (by omega) hb)
  rw [hA] at HAL
  rw [hB] at HBL
  have HS1 : Hid (∀ W, Row1 intV W W.heap.size A n a → Calls Tryd.prog 13 #[.slice A n c] W (RetPost (.tuple #[sV S, .bool true]) W.heap.size W)) := Lib.hid (fun W h => by have := set_any A n c W a (by omega) h; rw [hS] at this; exact this)
  have HS2 : Hid (∀ W, Row1 intV W W.heap.size B m b → Calls Tryd.prog 13 #[.slice B m d] W (RetPost (.tuple #[sV T, .bool true]) W.heap.size W)) := Lib.hid (fun W h => by have := set_any B m d W b (by omega) h; rw [hS'] at this; exact this)
  have HO1 : Hid (∀ W, Row1 intV W W.heap.size A n a → Calls Tryd.prog 14 #[.slice A n c] W (NewInts (memI S) W)) := Lib.hid (fun W h => by have := ofR_any A n c W a (by omega) h; rw [hk] at this; exact this)
  have HO2 : Hid (∀ W, Row1 intV W W.heap.size B m b → Calls Tryd.prog 14 #[.slice B m d] W (NewInts (memI T) W)) := Lib.hid (fun W h => by have := ofR_any B m d W b (by omega) h; rw [hk'] at this; exact this)
  have hml : (memI S).length ≤ 512 := by rw [memI_len]; exact mem_len S
  have hml' : (memI T).length ≤ 512 := by rw [memI_len]; exact mem_len T
  have HU := Lib.hid (fun W => union_any S T W)
  have HN := Lib.hid (fun W => inter_any S T W)
  have HM := Lib.hid (fun W => minus_any S T W)
  have HSB := Lib.hid (fun W => subset_any S T hF W)
  have HUR : Hid (∀ A' c' B' d' W, Row1 intV W W.heap.size A' (memI S).length (memI S) → Row1 intV W W.heap.size B' (memI T).length (memI T) → Calls Tryd.prog 35 #[.slice A' (memI S).length c', .slice B' (memI T).length d'] W (NewInts (memI (S ||| T)) W)) := Lib.hid (fun A' c' B' d' W h1 h2 => by have := unionR_any A' B' _ c' _ d' W (memI S) (memI T) (by omega) (by omega) h1 h2; rw [union_law hF hF'] at this; exact this)
  have HPT : Hid (∀ A' c' B' d' W, Row1 intV W W.heap.size A' (memI S).length (memI S) → Row1 intV W W.heap.size B' (memI T).length (memI T) → Calls Tryd.prog 36 #[.slice A' (memI S).length c', .slice B' (memI T).length d', .bool true] W (NewInts (memI (S &&& T)) W)) := Lib.hid (fun A' c' B' d' W h1 h2 => by have := part_any A' B' _ c' _ d' true W (memI S) (memI T) (by omega) (by omega) h1 h2; rw [inter_law hF'] at this; exact this)
  have HPF : Hid (∀ A' c' B' d' W, Row1 intV W W.heap.size A' (memI S).length (memI S) → Row1 intV W W.heap.size B' (memI T).length (memI T) → Calls Tryd.prog 36 #[.slice A' (memI S).length c', .slice B' (memI T).length d', .bool false] W (NewInts (memI (mi S T)) W)) := Lib.hid (fun A' c' B' d' W h1 h2 => by have := part_any A' B' _ c' _ d' false W (memI S) (memI T) (by omega) (by omega) h1 h2; rw [minus_law hF'] at this; exact this)
  have HPG := HPF
  have HI1 : Hid (∀ A' n' c' W, Tab W → Row1 intV W W.heap.size A' n' (memI (S ||| T)) → Calls Tryd.prog 17 #[sV (S ||| T), .slice A' n' c'] W (RetPost (.bool true) W.heap.size W)) := Lib.hid (fun A' n' c' W h1 h2 => is_any (S ||| T) A' n' c' W (or_lt hF hF') h1 h2)
  have HI2 : Hid (∀ A' n' c' W, Tab W → Row1 intV W W.heap.size A' n' (memI (S &&& T)) → Calls Tryd.prog 17 #[sV (S &&& T), .slice A' n' c'] W (RetPost (.bool true) W.heap.size W)) := Lib.hid (fun A' n' c' W h1 h2 => is_any (S &&& T) A' n' c' W (and_lt T hF) h1 h2)
  have HI3 : Hid (∀ A' n' c' W, Tab W → Row1 intV W W.heap.size A' n' (memI (mi S T)) → Calls Tryd.prog 17 #[sV (mi S T), .slice A' n' c'] W (RetPost (.bool true) W.heap.size W)) := Lib.hid (fun A' n' c' W h1 h2 => is_any (mi S T) A' n' c' W (mi_lt T hF) h1 h2)
  have HI4 : Hid (∀ A' n' c' W, Tab W → Row1 intV W W.heap.size A' n' (memI (S)) → Calls Tryd.prog 17 #[sV (S), .slice A' n' c'] W (RetPost (.bool true) W.heap.size W)) := Lib.hid (fun A' n' c' W h1 h2 => is_any (S) A' n' c' W (hF) h1 h2)
  have HI5 : Hid (∀ A' n' c' W, Tab W → Row1 intV W W.heap.size A' n' (memI (T)) → Calls Tryd.prog 17 #[sV (T), .slice A' n' c'] W (RetPost (.bool true) W.heap.size W)) := Lib.hid (fun A' n' c' W h1 h2 => is_any (T) A' n' c' W (hF') h1 h2)
  have HX1 : Hid (∀ A' n' c' W, Row1 intV W W.heap.size A' n' (memI S) → Calls Tryd.prog 25 #[.slice A' n' c'] W (RetPost (.string ⟨(textF S).toArray⟩) W.heap.size W)) := Lib.hid (fun A' n' c' W h => textM_any S A' n' c' W h)
  have HX2 : Hid (∀ A' n' c' W, Row1 intV W W.heap.size A' n' (memI T) → Calls Tryd.prog 25 #[.slice A' n' c'] W (RetPost (.string ⟨(textF T).toArray⟩) W.heap.size W)) := Lib.hid (fun A' n' c' W h => textM_any T A' n' c' W h)
  have heq := fun w => set_eql w S T hF hF'
  have htx : (textF S == textF T) = decide (S = T) := by
    by_cases h : S = T
    · subst h; simp
    · have : ¬ textF S = textF T := fun e => h (text_inj hF hF' e)
      simp [h, this]
  have hsub : (((memI (mi S T)).length : Int) == 0) = decide (mi S T = 0) := by
    have h3 := mem_nil (mi_lt T hF)
    rw [memI_len]
    by_cases h : mi S T = 0
    · rw [h3.2 h]; simp [h]
    · have : ¬ (mem (mi S T)).length = 0 := fun e => h (h3.1 e)
      simp [h, this]
  generalize decide (S = T) = eb at *
  generalize decide (mi S T = 0) = sb at *
  have hee : (eb == eb) = true := by simp
  have hss : (sb == sb) = true := by simp
  generalize S ||| T = U1 at *
  generalize S &&& T = U2 at *
  generalize mi S T = U3 at *
  generalize textF S = TS at *
  generalize textF T = TT at *
  have R0 := Lib.hid ha
  have R1 := Lib.hid hb
  unfold sV at HS1 HS2 HU HN HM HSB HI1 HI2 HI3 HI4 HI5 heq
  clear hT ha hb hA hB hS hF hk hS' hF' hk' hml hml' hn hm
  go_enter Tryd.func9, Tryd.ntmps9
  go_wp2_with fail
  have B0 : Hid (Below w.heap.size w w) := Lib.hid (Below.refl _ _)
  refine (HAL.out).mono ?_
  rintro e wz ⟨rfl, rfl⟩
  go_wp2_with fail
  refine (HBL.out).mono ?_
  rintro e wz ⟨rfl, rfl⟩
  go_wp2_with fail
  refine (HS1.out _ R0.out).mono ?_
  rintro e W1 ⟨rfl, hw1⟩
  have C1 := Lib.hid (B0.out.trans (hw1.mono B0.out.size))
  have R0' := Lib.hid (R0.out.keep hw1)
  have R1' := Lib.hid (R1.out.keep hw1)
  clear hw1
  go_wp2_with fail
  obtain ⟨V1, hV1⟩ : ∃ V, V = W1.alloc (.cells (sL S).toArray 28) := ⟨_, rfl⟩
  have B1 : Hid (Below w.heap.size w V1) := Lib.hid (by rw [hV1]; exact C1.out.alloc (by have := C1.out.size; exact this) _)
  have hs1 : V1.heap.size = W1.heap.size + 1 := by rw [hV1]; simp
  replace R0 := Lib.hid (show Row1 intV V1 V1.heap.size _ _ _ by rw [hV1]; exact R0'.out.allocK _)
  clear R0'
  replace R1 := Lib.hid (show Row1 intV V1 V1.heap.size _ _ _ by rw [hV1]; exact R1'.out.allocK _)
  clear R1'
  have X5 : Hid (Blk V1 W1.heap.size 28 (tabL 8 (sC S))) := Lib.hid (by rw [hV1, ← sL_tab]; exact blk_new _ _ _)
  unfold sL at hV1
  rw [← hV1]
  clear hV1 C1 hs1
  refine (HS2.out _ R1.out).mono ?_
  rintro e W2 ⟨rfl, hw2⟩
  have C2 := Lib.hid (B1.out.trans (hw2.mono B1.out.size))
  have X5' := Lib.hid (X5.out.keep hw2)
  have R0' := Lib.hid (R0.out.keep hw2)
  have R1' := Lib.hid (R1.out.keep hw2)
  clear hw2
  go_wp2_with fail
  obtain ⟨V2, hV2⟩ : ∃ V, V = W2.alloc (.cells (sL T).toArray 28) := ⟨_, rfl⟩
  have B2 : Hid (Below w.heap.size w V2) := Lib.hid (by rw [hV2]; exact C2.out.alloc (by have := C2.out.size; exact this) _)
  have hs2 : V2.heap.size = W2.heap.size + 1 := by rw [hV2]; simp
  replace X5 := Lib.hid (show Blk V2 _ _ _ by rw [hV2]; exact X5'.out.alloc _)
  clear X5'
  replace R0 := Lib.hid (show Row1 intV V2 V2.heap.size _ _ _ by rw [hV2]; exact R0'.out.allocK _)
  clear R0'
  replace R1 := Lib.hid (show Row1 intV V2 V2.heap.size _ _ _ by rw [hV2]; exact R1'.out.allocK _)
  clear R1'
  have X7 : Hid (Blk V2 W2.heap.size 28 (tabL 8 (sC T))) := Lib.hid (by rw [hV2, ← sL_tab]; exact blk_new _ _ _)
  unfold sL at hV2
  rw [← hV2]
  clear hV2 C2 hs2
  refine (HO1.out _ R0.out).mono ?_
  rintro e W3 ⟨v9, rfl, hown9, hw3⟩
  have C3 := Lib.hid (B2.out.trans (hw3.mono B2.out.size))
  have X5' := Lib.hid (X5.out.keep hw3)
  have X7' := Lib.hid (X7.out.keep hw3)
  have R0' := Lib.hid (R0.out.keep hw3)
  have R1' := Lib.hid (R1.out.keep hw3)
  obtain ⟨A9, c9, rfl, hr9⟩ := row1_of_own hown9
  have R9 := Lib.hid hr9
  clear hown9 hr9
  clear hw3
  have B3 := C3
  replace X5 := X5'
  clear X5'
  replace X7 := X7'
  clear X7'
  replace R0 := R0'
  clear R0'
  replace R1 := R1'
  clear R1'
  clear C3
  clear R0
  go_wp2_with fail
  refine (HO2.out _ R1.out).mono ?_
  rintro e W4 ⟨v10, rfl, hown10, hw4⟩
  have C4 := Lib.hid (B3.out.trans (hw4.mono B3.out.size))
  have X5' := Lib.hid (X5.out.keep hw4)
  have X7' := Lib.hid (X7.out.keep hw4)
  have R1' := Lib.hid (R1.out.keep hw4)
  have R9' := Lib.hid (R9.out.keep hw4)
  obtain ⟨A10, c10, rfl, hr10⟩ := row1_of_own hown10
  have R10 := Lib.hid hr10
  clear hown10 hr10
  clear hw4
  have B4 := C4
  replace X5 := X5'
  clear X5'
  replace X7 := X7'
  clear X7'
  replace R1 := R1'
  clear R1'
  replace R9 := R9'
  clear R9'
  clear C4
  clear R1
  obtain ⟨x5_0, x5_1, x5_2, x5_3, x5_4, x5_5, x5_6, x5_7⟩ := X5.out.eight
  obtain ⟨x7_0, x7_1, x7_2, x7_3, x7_4, x7_5, x7_6, x7_7⟩ := X7.out.eight
  go_wp2_with fail
  clear x5_0 x5_1 x5_2 x5_3 x5_4 x5_5 x5_6 x5_7 x7_0 x7_1 x7_2 x7_3 x7_4 x7_5 x7_6 x7_7
  refine (HU.out _).mono ?_
  rintro e W5 ⟨rfl, hw5⟩
  have C5 := Lib.hid (B4.out.trans (hw5.mono B4.out.size))
  have X5' := Lib.hid (X5.out.keep hw5)
  have X7' := Lib.hid (X7.out.keep hw5)
  have R9' := Lib.hid (R9.out.keep hw5)
  have R10' := Lib.hid (R10.out.keep hw5)
  clear hw5
  have B5 := C5
  replace X5 := X5'
  clear X5'
  replace X7 := X7'
  clear X7'
  replace R9 := R9'
  clear R9'
  replace R10 := R10'
  clear R10'
  clear C5
  go_wp2_with fail
  refine (HUR.out _ _ _ _ _ R9.out R10.out).mono ?_
  rintro e W6 ⟨vz, rfl, hownz, hw6⟩
  have C6 := Lib.hid (B5.out.trans (hw6.mono B5.out.size))
  have X5' := Lib.hid (X5.out.keep hw6)
  have X7' := Lib.hid (X7.out.keep hw6)
  have R9' := Lib.hid (R9.out.keep hw6)
  have R10' := Lib.hid (R10.out.keep hw6)
  obtain ⟨Az, cz, rfl, hrz⟩ := row1_of_own hownz
  have RZ := Lib.hid hrz
  clear hownz hrz
  clear hw6
  have B6 := C6
  replace X5 := X5'
  clear X5'
  replace X7 := X7'
  clear X7'
  replace R9 := R9'
  clear R9'
  replace R10 := R10'
  clear R10'
  clear C6
  go_wp2_with fail
  refine (HI1.out _ _ _ _ (HT.out.keep B6.out) RZ.out).mono ?_
  rintro e W7 ⟨rfl, hw7⟩
  have C7 := Lib.hid (B6.out.trans (hw7.mono B6.out.size))
  have X5' := Lib.hid (X5.out.keep hw7)
  have X7' := Lib.hid (X7.out.keep hw7)
  have R9' := Lib.hid (R9.out.keep hw7)
  have R10' := Lib.hid (R10.out.keep hw7)
  have RZ' := Lib.hid (RZ.out.keep hw7)
  clear hw7
  have B7 := C7
  replace X5 := X5'
  clear X5'
  replace X7 := X7'
  clear X7'
  replace R9 := R9'
  clear R9'
  replace R10 := R10'
  clear R10'
  replace RZ := RZ'
  clear RZ'
  clear C7
  clear RZ
  obtain ⟨x5_0, x5_1, x5_2, x5_3, x5_4, x5_5, x5_6, x5_7⟩ := X5.out.eight
  obtain ⟨x7_0, x7_1, x7_2, x7_3, x7_4, x7_5, x7_6, x7_7⟩ := X7.out.eight
  go_wp2_with fail
  clear x5_0 x5_1 x5_2 x5_3 x5_4 x5_5 x5_6 x5_7 x7_0 x7_1 x7_2 x7_3 x7_4 x7_5 x7_6 x7_7
  refine (HN.out _).mono ?_
  rintro e W8 ⟨rfl, hw8⟩
  have C8 := Lib.hid (B7.out.trans (hw8.mono B7.out.size))
  have X5' := Lib.hid (X5.out.keep hw8)
  have X7' := Lib.hid (X7.out.keep hw8)
  have R9' := Lib.hid (R9.out.keep hw8)
  have R10' := Lib.hid (R10.out.keep hw8)
  clear hw8
  have B8 := C8
  replace X5 := X5'
  clear X5'
  replace X7 := X7'
  clear X7'
  replace R9 := R9'
  clear R9'
  replace R10 := R10'
  clear R10'
  clear C8
  go_wp2_with fail
  refine (HPT.out _ _ _ _ _ R9.out R10.out).mono ?_
  rintro e W9 ⟨vz, rfl, hownz, hw9⟩
  have C9 := Lib.hid (B8.out.trans (hw9.mono B8.out.size))
  have X5' := Lib.hid (X5.out.keep hw9)
  have X7' := Lib.hid (X7.out.keep hw9)
  have R9' := Lib.hid (R9.out.keep hw9)
  have R10' := Lib.hid (R10.out.keep hw9)
  obtain ⟨Az, cz, rfl, hrz⟩ := row1_of_own hownz
  have RZ := Lib.hid hrz
  clear hownz hrz
  clear hw9
  have B9 := C9
  replace X5 := X5'
  clear X5'
  replace X7 := X7'
  clear X7'
  replace R9 := R9'
  clear R9'
  replace R10 := R10'
  clear R10'
  clear C9
  go_wp2_with fail
  refine (HI2.out _ _ _ _ (HT.out.keep B9.out) RZ.out).mono ?_
  rintro e W10 ⟨rfl, hw10⟩
  have C10 := Lib.hid (B9.out.trans (hw10.mono B9.out.size))
  have X5' := Lib.hid (X5.out.keep hw10)
  have X7' := Lib.hid (X7.out.keep hw10)
  have R9' := Lib.hid (R9.out.keep hw10)
  have R10' := Lib.hid (R10.out.keep hw10)
  have RZ' := Lib.hid (RZ.out.keep hw10)
  clear hw10
  have B10 := C10
  replace X5 := X5'
  clear X5'
  replace X7 := X7'
  clear X7'
  replace R9 := R9'
  clear R9'
  replace R10 := R10'
  clear R10'
  replace RZ := RZ'
  clear RZ'
  clear C10
  clear RZ
  obtain ⟨x5_0, x5_1, x5_2, x5_3, x5_4, x5_5, x5_6, x5_7⟩ := X5.out.eight
  obtain ⟨x7_0, x7_1, x7_2, x7_3, x7_4, x7_5, x7_6, x7_7⟩ := X7.out.eight
  go_wp2_with fail
  clear x5_0 x5_1 x5_2 x5_3 x5_4 x5_5 x5_6 x5_7 x7_0 x7_1 x7_2 x7_3 x7_4 x7_5 x7_6 x7_7
  refine (HM.out _).mono ?_
  rintro e W11 ⟨rfl, hw11⟩
  have C11 := Lib.hid (B10.out.trans (hw11.mono B10.out.size))
  have X5' := Lib.hid (X5.out.keep hw11)
  have X7' := Lib.hid (X7.out.keep hw11)
  have R9' := Lib.hid (R9.out.keep hw11)
  have R10' := Lib.hid (R10.out.keep hw11)
  clear hw11
  have B11 := C11
  replace X5 := X5'
  clear X5'
  replace X7 := X7'
  clear X7'
  replace R9 := R9'
  clear R9'
  replace R10 := R10'
  clear R10'
  clear C11
  go_wp2_with fail
  refine (HPF.out _ _ _ _ _ R9.out R10.out).mono ?_
  rintro e W12 ⟨vz, rfl, hownz, hw12⟩
  have C12 := Lib.hid (B11.out.trans (hw12.mono B11.out.size))
  have X5' := Lib.hid (X5.out.keep hw12)
  have X7' := Lib.hid (X7.out.keep hw12)
  have R9' := Lib.hid (R9.out.keep hw12)
  have R10' := Lib.hid (R10.out.keep hw12)
  obtain ⟨Az, cz, rfl, hrz⟩ := row1_of_own hownz
  have RZ := Lib.hid hrz
  clear hownz hrz
  clear hw12
  have B12 := C12
  replace X5 := X5'
  clear X5'
  replace X7 := X7'
  clear X7'
  replace R9 := R9'
  clear R9'
  replace R10 := R10'
  clear R10'
  clear C12
  go_wp2_with fail
  refine (HI3.out _ _ _ _ (HT.out.keep B12.out) RZ.out).mono ?_
  rintro e W13 ⟨rfl, hw13⟩
  have C13 := Lib.hid (B12.out.trans (hw13.mono B12.out.size))
  have X5' := Lib.hid (X5.out.keep hw13)
  have X7' := Lib.hid (X7.out.keep hw13)
  have R9' := Lib.hid (R9.out.keep hw13)
  have R10' := Lib.hid (R10.out.keep hw13)
  have RZ' := Lib.hid (RZ.out.keep hw13)
  clear hw13
  have B13 := C13
  replace X5 := X5'
  clear X5'
  replace X7 := X7'
  clear X7'
  replace R9 := R9'
  clear R9'
  replace R10 := R10'
  clear R10'
  replace RZ := RZ'
  clear RZ'
  clear C13
  clear RZ
  go_wp2_with fail
  have D0 := Lib.hid (show Below w.heap.size w W13.drew from B13.out.drew)
  have Y5 := Lib.hid X5.out.drew
  have Y7 := Lib.hid X7.out.drew
  have Q9 := Lib.hid R9.out.drewK
  have Q10 := Lib.hid R10.out.drewK
  refine Lx.region (C := fun w' => (w'.cell? ⟨W1.heap.size, 0, none⟩ = some (.int .u64 (wd S 0)) ∧ w'.cell? ⟨W1.heap.size, 1, none⟩ = some (.int .u64 (wd S 1)) ∧ w'.cell? ⟨W1.heap.size, 2, none⟩ = some (.int .u64 (wd S 2)) ∧ w'.cell? ⟨W1.heap.size, 3, none⟩ = some (.int .u64 (wd S 3)) ∧ w'.cell? ⟨W1.heap.size, 4, none⟩ = some (.int .u64 (wd S 4)) ∧ w'.cell? ⟨W1.heap.size, 5, none⟩ = some (.int .u64 (wd S 5)) ∧ w'.cell? ⟨W1.heap.size, 6, none⟩ = some (.int .u64 (wd S 6)) ∧ w'.cell? ⟨W1.heap.size, 7, none⟩ = some (.int .u64 (wd S 7))) ∧ (w'.cell? ⟨W2.heap.size, 0, none⟩ = some (.int .u64 (wd T 0)) ∧ w'.cell? ⟨W2.heap.size, 1, none⟩ = some (.int .u64 (wd T 1)) ∧ w'.cell? ⟨W2.heap.size, 2, none⟩ = some (.int .u64 (wd T 2)) ∧ w'.cell? ⟨W2.heap.size, 3, none⟩ = some (.int .u64 (wd T 3)) ∧ w'.cell? ⟨W2.heap.size, 4, none⟩ = some (.int .u64 (wd T 4)) ∧ w'.cell? ⟨W2.heap.size, 5, none⟩ = some (.int .u64 (wd T 5)) ∧ w'.cell? ⟨W2.heap.size, 6, none⟩ = some (.int .u64 (wd T 6)) ∧ w'.cell? ⟨W2.heap.size, 7, none⟩ = some (.int .u64 (wd T 7)))) (hs := [0, 1, 10, 11, 21, 26]) (by kernel_rfl) (by kernel_rfl) (by exact ⟨Y5.out.eight, Y7.out.eight⟩) ?_
  repeat' (first
    | (refine Lx.lex_no (Lx.n1 rfl rfl rfl (by with_reducible rfl)) (fun K hK => ?_); go_simp; refine hK _ ?_; clear hK K)
    | (refine Lx.lex_no (Lx.n0 rfl rfl rfl (by with_reducible rfl)) (fun K hK => ?_); go_simp; refine hK _ ?_; clear hK K)
    | (refine Lx.lex_no (Lx.n2 rfl rfl rfl) (fun K hK => ?_); go_simp; refine hK _ ?_; clear hK K)
    | (refine Lx.lex_pure (v := ?_) rfl (by first | exact Lx.w0 rfl | exact Lx.w1 rfl rfl rfl (by with_reducible rfl)) ?_ (fun K hK => ?_); rotate_left 1; (intro w' hCw; (try dsimp only at hCw); go_simp; done); go_simp; refine hK _ ?_; clear hK K)
    | (refine Lx.lex_pure (v := ?_) rfl (by first | exact Lx.w0 rfl | exact Lx.w1 rfl rfl rfl (by with_reducible rfl)) ?_ (fun K hK => ?_); rotate_left 1; (intro w' hCw; (try dsimp only at hCw); go_simp; with_reducible rfl); go_simp; refine hK _ ?_; clear hK K)
    | (refine Lx.lex_read (v := ?_) rfl (by first | exact Lx.w0 rfl | exact Lx.w1 rfl rfl rfl (by with_reducible rfl)) ?_ (fun K hK => ?_); rotate_left 1; (go_simp; done); go_simp; refine hK _ ?_; clear hK K)
    | (refine Lx.lex_read (v := ?_) rfl (by first | exact Lx.w0 rfl | exact Lx.w1 rfl rfl rfl (by with_reducible rfl)) ?_ (fun K hK => ?_); rotate_left 1; (go_simp; with_reducible rfl); go_simp; refine hK _ ?_; clear hK K)
    | (refine Lx.lex_eff rfl (by first | exact Lx.w0 rfl | exact Lx.w1 rfl rfl rfl (by with_reducible rfl)) (fun K hK => ?_); go_simp; (first | (go_at_call 40; refine (HSB.out _).mono ?_; rintro e Z1 ⟨rfl, hw⟩; have D1 := Lib.hid (D0.out.trans (hw.mono D0.out.size)); replace Y5 := Lib.hid (Y5.out.keep hw); replace Y7 := Lib.hid (Y7.out.keep hw); replace Q9 := Lib.hid (Q9.out.keep hw); replace Q10 := Lib.hid (Q10.out.keep hw); clear HSB; clear hw D0) | (go_at_call 36; refine (HPG.out _ _ _ _ _ Q9.out Q10.out).mono ?_; rintro e Z2 ⟨vp, rfl, po, hw⟩; have D2 := Lib.hid (D1.out.trans (hw.mono D1.out.size)); replace Y5 := Lib.hid (Y5.out.keep hw); replace Y7 := Lib.hid (Y7.out.keep hw); replace Q9 := Lib.hid (Q9.out.keep hw); replace Q10 := Lib.hid (Q10.out.keep hw); clear HPG; obtain ⟨pA, pc, rfl, pr⟩ := row1_of_own po; clear po pr; clear hw D1) | (go_at_call 25; refine (HX1.out _ _ _ _ Q9.out).mono ?_; rintro e Z3 ⟨rfl, hw⟩; have D3 := Lib.hid (D2.out.trans (hw.mono D2.out.size)); replace Y5 := Lib.hid (Y5.out.keep hw); replace Y7 := Lib.hid (Y7.out.keep hw); replace Q9 := Lib.hid (Q9.out.keep hw); replace Q10 := Lib.hid (Q10.out.keep hw); clear HX1; clear hw D2) | (go_at_call 25; refine (HX2.out _ _ _ _ Q10.out).mono ?_; rintro e Z4 ⟨rfl, hw⟩; have D4 := Lib.hid (D3.out.trans (hw.mono D3.out.size)); replace Y5 := Lib.hid (Y5.out.keep hw); replace Y7 := Lib.hid (Y7.out.keep hw); replace Q9 := Lib.hid (Q9.out.keep hw); replace Q10 := Lib.hid (Q10.out.keep hw); clear HX2; clear hw D3) | (go_at_call 17; refine (HI4.out _ _ _ _ (HT.out.keep D4.out) Q9.out).mono ?_; rintro e Z5 ⟨rfl, hw⟩; have D5 := Lib.hid (D4.out.trans (hw.mono D4.out.size)); replace Y5 := Lib.hid (Y5.out.keep hw); replace Y7 := Lib.hid (Y7.out.keep hw); replace Q9 := Lib.hid (Q9.out.keep hw); replace Q10 := Lib.hid (Q10.out.keep hw); clear HI4; clear hw D4) | (go_at_call 17; refine (HI5.out _ _ _ _ (HT.out.keep D5.out) Q10.out).mono ?_; rintro e Z6 ⟨rfl, hw⟩; have D6 := Lib.hid (D5.out.trans (hw.mono D5.out.size)); replace Y5 := Lib.hid (Y5.out.keep hw); replace Y7 := Lib.hid (Y7.out.keep hw); replace Q9 := Lib.hid (Q9.out.keep hw); replace Q10 := Lib.hid (Q10.out.keep hw); clear HI5; clear hw D5) | (go_at_call 12; refine (HK.out _ D6.out).mono ?_; rintro e Z7 ⟨rfl, hw⟩; have D7 := Lib.hid (D6.out.trans (hw.mono D6.out.size)); replace Y5 := Lib.hid (Y5.out.keep hw); replace Y7 := Lib.hid (Y7.out.keep hw); replace Q9 := Lib.hid (Q9.out.keep hw); replace Q10 := Lib.hid (Q10.out.keep hw); clear hw D6) | skip); refine hK _ _ (by exact ⟨Y5.out.eight, Y7.out.eight⟩) ?_; clear hK K)
    | (refine Lx.lex_cases rfl rfl rfl (fun hgd K hK => ?_) (fun hgd K hK => ?_) <;> (try simp only [decide_eq_true_eq, decide_eq_false_iff_not] at hgd) <;> (first | (exfalso; omega) | (go_simp; refine hK _ ?_; clear hK K))))
  all_goals (refine Lx.lex_nil ?_)
  go_wp2_with fail
  go_ret
  exact ⟨rfl, D7.out⟩

theorem bitsetPairs_walk (w : World) (hT : Tab w) (A : Option Addr) (n c : Nat) (a : List Int) (ha : Row1 intV w w.heap.size A n a) (_ : ∀ z ∈ a, I64 z) (_ : n ≤ 9223372036854775807) (B : Option Addr) (m d : Nat) (b : List Int) (hb : Row1 intV w w.heap.size B m b) (_ : ∀ z ∈ b, I64 z) (_ : m ≤ 9223372036854775807) : Calls Tryd.prog 9 #[.slice A n c, .slice B m d] w fun e w' => e = .returned (.bool true) ∧ Below w.heap.size w w' := by
  by_cases hn : n ≤ 60
  · by_cases hm : m ≤ 60
    · cases hA : allowF a with
      | false => exact pairs_bad w hT A B n c m d a hn hm ha hA
      | true =>
        cases hB : allowF b with
        | false => exact pairs_bad2 w hT A B n c m d a b hn hm ha hb hA hB
        | true =>
          obtain ⟨S, h1, h2, h3, _⟩ := of_good hA
          obtain ⟨T, h4, h5, h6, _⟩ := of_good hB
          exact pairs_main w hT A B n c m d a b S T hn hm ha hb hA hB h1 h2 h3 h4 h5 h6
    · exact pairs_long2 w hT A B n c m d hn (by omega)
  · exact pairs_long w hT A B n c m d (by omega)

set_option maxRecDepth 100000 in
theorem bitsetPairs_lifted (os : Os) (started : os.Started) (H : Type) (enc : TypeId × Value → H) :
    ReturnsInHanded {} Tryd.checked os 9 .any (fun w args => (Rows.bitsetPairsSpec.pre enc Tryd.prog Tryd.f9 [] false w args ∧ laidMetH Tryd.prog laid07 w) ∧ sizedMet enc Tryd.prog Tryd.f9 (OpenSpec.ofChange Rows.bitsetPairsSpec) false w args) (Rows.bitsetPairsSpec.post enc Tryd.prog Tryd.f9 false true false false) := by
  refine handed_laid (C := Tryd.checked) (laid := laid07) own started (by kernel_rfl) Tryd.func9
    (ChangeSpec.witness_shaped (enc := enc) (C := Tryd.checked) (os := os) (X := fun w _ => laidMetH Tryd.prog laid07 w) false (World.laidAll Tryd.prog os laid07) #[.slice none 0 0, .slice none 0 0] 8 (World.laidAll_os _ _ _) (World.shaped_of_ZipB (by kernel_rfl) (by kernel_rfl)) (by kernel_rfl) (by kernel_rfl) (by kernel_rfl) (laidHold os _)) ?_
  intro W base args ds gs before hval0 hW hL hsh
  have hTab := tab_of hL hsh
  have hval : ∀ (j : Nat) t v, Tryd.f9.params[j]? = some t → args[j]? = some v → Value.okWide Tryd.prog W .any base t v := hval0
  have hW' := hW
  obtain ⟨p, q, hA0, hV, rfl, hfz, hnd⟩ := hW
  have hA : DataW.TrodAll enc Tryd.prog W 0 (fun _ => true) true Tryd.f9.params.toList args.toList ds p := hA0
  rw [Tryd.params9] at hA hval
  obtain ⟨v0, vs0, d0, ds0, p0, q0, hargs, rfl, rfl, h0, r0⟩ := trodAll_cons hA
  obtain ⟨v1, vs1, d1, ds1, p1, q1, rfl, rfl, rfl, h1, r1⟩ := trodAll_cons r0
  obtain ⟨rfl, rfl, rfl⟩ := trodAll_nil r1
  obtain rfl : args = #[v0, v1] := by cases args; simp_all
  obtain ⟨rfl, rfl⟩ := trodVars_none hV
  have k0 := h0
  have lt0 : ∀ x ∈ p0, x.block < W.heap.size := by obtain ⟨m, hm⟩ := k0; exact DataW.trod_lt m _ _ _ hm
  have k1 := h1
  have lt1 : ∀ x ∈ p1, x.block < W.heap.size := by obtain ⟨m, hm⟩ := k1; exact DataW.trod_lt m _ _ _ hm
  obtain ⟨A0, n0, c0, xs0, rfl, R0, b0, m0⟩ := arg_ints Tryd.underlying22 Tryd.underlying3 (by kernel_rfl) (hval 0 22 _ rfl rfl) h0
  obtain ⟨A1, n1, c1, xs1, rfl, R1, b1, m1⟩ := arg_ints Tryd.underlying22 Tryd.underlying3 (by kernel_rfl) (hval 1 22 _ rfl rfl) h1
  clear hA0 hval0
  refine (bitsetPairs_walk W hTab A0 n0 c0 xs0 R0 b0 m0 A1 n1 c1 xs1 R1 b1 m1).mono fun e W' ⟨he, bel⟩ => ?_
  subst he
  exact ⟨_, rfl, _, _, _, [], _, [], hW', trodAll_mk1 (shut_bool Tryd.underlying4 _), (trodAll_cons_mk (Below.trod laidOut (by kernel_rfl) (of_decide_eq_true (by kernel_rfl)) k0 bel lt0) (trodAll_cons_mk (Below.trod laidOut (by kernel_rfl) (of_decide_eq_true (by kernel_rfl)) k1 bel lt1) trodAll_mk0)), rfl, bel.frame _, fun h => by cases h⟩

theorem bitsetPairs_over : Rows.bitsetPairsRow.holds Tryd.pinned (OpenSpec.ofChange Rows.bitsetPairsSpec) :=
  OpenClaim.holds_of_wide 9 Tryd.f9 rfl rfl rfl rfl rfl rfl rfl ⟨rfl, rfl, rfl, rfl, rfl⟩ rfl rfl rfl rfl rfl (by kernel_rfl) Tryd.func9 (by kernel_rfl)
    (of_decide_eq_true (by kernel_rfl)) (by unfold Func.isWrapper; first | (rw [if_pos (by decide +kernel)]; kernel_rfl) | (rw [if_neg (by decide +kernel)]; exact ⟨rfl, rfl⟩))
    (fun os started H enc _ => bitsetPairs_lifted os started H enc)

theorem bitsetPairsCard_holds : Rows.BitsetPairsCardSaid :=
  Claim7.holds_tied_plain_at .later [] [.data, .data, .data] true (true, "39aa42fe034a2cbedf78232cde6b0da1e7f2e4be5808576f250df2ef6185728f") false
    bitsetPairs_over (fun _ h => by cases h) (by kernel_rfl) (fun _ h => by cases h) bitsetPairs_row_tie rfl ⟨rfl, rfl⟩ (by kernel_rfl) rfl
    (fun f fn hf hfn => by
      obtain rfl : f = 9 := Option.some.inj ((show Tryd.prog.funcNamed "bandplan/bandplanlaw07.BitsetPairs" = some 9 by kernel_rfl).symm.trans hf) |>.symm
      obtain rfl : fn = Tryd.f9 := (Option.some.inj (Tryd.func9.symm.trans hfn)).symm
      exact ⟨by kernel_rfl, fun j t ht => by
        rw [Tryd.params9] at ht
        rcases j with _ | j
        · obtain rfl : t = 22 := by simpa using ht.symm
          exact (show Tryd.prog.wantsStandIn 22 = false by kernel_rfl)
        rcases j with _ | j
        · obtain rfl : t = 22 := by simpa using ht.symm
          exact (show Tryd.prog.wantsStandIn 22 = false by kernel_rfl)
        · simp at ht⟩)
    (by kernel_rfl)
#print axioms bitsetPairsCard_holds
end Go.Proofs.YtencbmgjdiillaaDoor
