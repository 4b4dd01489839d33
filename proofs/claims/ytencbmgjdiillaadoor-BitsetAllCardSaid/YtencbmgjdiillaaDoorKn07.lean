/- known() of the statements on layer 07 returns true. -/
import Derived.Test.YtencbmgjdiillaaDoorKnown07
namespace Go.Proofs.YtencbmgjdiillaaDoor
open Go.RowKit

theorem ka1 : ofF [5, 0, 5] = (33, 0) := by kernel_rfl
def bigE : Nat := 511
def big : Nat := 2 ^ bigE
theorem ka2 : ofF [511] = (big, 0) := by kernel_rfl
theorem ka3 : ofF [512] = (0, 2) := by kernel_rfl
theorem ka4 : ofF [-1] = (0, 2) := by kernel_rfl
theorem ka5 : textF 33 = [123, 48, 44, 53, 125] := by decide +kernel
theorem ka6 : (mem 33).length = 2 := by decide +kernel
theorem ka7 : encF 33 = [33] := by decide +kernel
theorem ka8 : (encF big).length = 64 := by decide +kernel
theorem ka9 : nextF 33 1 = 5 ∧ nextF 33 6 = -1 ∧ nextF 33 0 = 0 ∧ nextF 33 (-9) = 0 ∧ nextF 0 0 = -1 := by decide +kernel
theorem kb1 : textF 0 = [123, 125] := by decide +kernel
theorem kb2 : (encF 0).length = 0 := by decide +kernel
theorem kb3 : parseF [123, 53, 44, 48, 125] = (0, 6) := by decide +kernel
theorem kb4 : parseF [123, 48, 49, 125] = (0, 6) := by decide +kernel
theorem kb5 : parseF [123, 125] = (0, 0) := by decide +kernel
theorem kf1 : Fit 33 := fit_of_lt (n := 6) (by decide) (by decide)
theorem kf2 : Fit big := fun i hi => by unfold big; rw [bit_tb]; unfold bigE; simp; omega

theorem row_lit (w : World) (l : List Int) : Row1 intV (w.alloc (.cells (l.map intV).toArray 3)) (w.alloc (.cells (l.map intV).toArray 3)).heap.size (some ⟨w.heap.size, 0, none⟩) l.length l := by
  have := row1_new w intV 3 l
  rwa [World.size_alloc]

/-- what known() needs of the two sets -/
structure KFacts (S1 S2 : Nat) : Prop where
  f1 : Fit S1
  f2 : Fit S2
  o1 : ∀ A c W, Row1 intV W W.heap.size A 3 [5, 0, 5] → Calls Tryd.prog 21 #[.slice A 3 c] W (RetPost (.tuple #[sV S1, .int .i64 0]) W.heap.size W)
  o2 : ∀ A c W, Row1 intV W W.heap.size A 1 [511] → Calls Tryd.prog 21 #[.slice A 1 c] W (RetPost (.tuple #[sV S2, .int .i64 0]) W.heap.size W)
  t1 : ∀ W, Tab W → Calls Tryd.prog 20 #[sV S1] W (RetPost (.string ⟨#[123, 48, 44, 53, 125]⟩) W.heap.size W)
  l1 : ∀ W, Calls Tryd.prog 41 #[sV S1] W (RetPost (.int .i64 2) W.heap.size W)
  e1 : ∀ W, Tab W → Calls Tryd.prog 26 #[sV S1] W fun e w' => ∃ g c, e = .returned (.slice (some ⟨g, 0, none⟩) 1 c) ∧ (convert 50 9 (.slice (some ⟨g, 0, none⟩) 1 c)).run Tryd.prog w' = .ok (.string ⟨#[33]⟩) w' ∧ Below W.heap.size W w'
  e2 : ∀ W, Tab W → Calls Tryd.prog 26 #[sV S2] W fun e w' => ∃ A c, e = .returned (.slice A 64 c) ∧ Below W.heap.size W w'
  n1 : ∀ W, Tab W → Calls Tryd.prog 34 #[sV S1, .int .i64 1] W (RetPost (.int .i64 5) W.heap.size W)
  n2 : ∀ W, Tab W → Calls Tryd.prog 34 #[sV S1, .int .i64 6] W (RetPost (.int .i64 (-1)) W.heap.size W)
  n3 : ∀ W, Tab W → Calls Tryd.prog 34 #[sV S1, .int .i64 (-9)] W (RetPost (.int .i64 0) W.heap.size W)
  m1 : ∀ W, Tab W → Calls Tryd.prog 23 #[sV S1] W (RetPost (.int .i64 0) W.heap.size W)

theorem own_one {w : World} {base e size n : Nat} {v : Value} {xs : List Value} (h : w.ownsRow base e size v (n + 1) xs) : ∃ g cap, v = .slice (some ⟨g, 0, none⟩) (n + 1) cap := by
  rcases h.2 with ⟨_, h2⟩ | ⟨g, cap, cur, rfl, _⟩
  · omega
  · exact ⟨g, cap, rfl⟩

theorem kfacts : ∃ S1 S2, KFacts S1 S2 := by
  refine ⟨33, big, kf1, kf2, ?_, ?_, ?_, ?_, ?_, ?_, ?_, ?_, ?_, ?_⟩
  · intro A c W h
    have := of_any A 3 c W [5, 0, 5] (by decide) h
    rw [ka1] at this
    exact this
  · intro A c W h
    have := of_any A 1 c W [511] (by decide) h
    rw [ka2] at this
    exact this
  · intro W h
    have := text_any 33 W kf1 h
    rw [ka5] at this
    exact this
  · intro W
    have := len_any 33 W
    rw [ka6] at this
    exact this
  · intro W h
    refine (encode_any 33 W kf1 h).mono ?_
    rintro e w' ⟨v, rfl, h1, h2⟩
    rw [ka7] at h1
    obtain ⟨g, cap, rfl⟩ := own_one h1
    exact ⟨g, cap, rfl, conv_own h1, h2⟩
  · intro W h
    refine (encode_any big W kf2 h).mono ?_
    rintro e w' ⟨v, rfl, h1, h2⟩
    rw [ka8] at h1
    obtain ⟨A, cap, rfl⟩ := own_slice h1
    exact ⟨A, cap, rfl, h2⟩
  · intro W h
    have := next_any 33 1 W kf1 h
    rw [ka9.1] at this
    exact this
  · intro W h
    have := next_any 33 6 W kf1 h
    rw [ka9.2.1] at this
    exact this
  · intro W h
    have := next_any 33 (-9) W kf1 h
    rw [ka9.2.2.2.1] at this
    exact this
  · intro W h
    have := min_any 33 W kf1 h
    rw [ka9.2.2.1] at this
    exact this

theorem z_of1 (A : Option Addr) (c : Nat) (W : World) (h : Row1 intV W W.heap.size A 1 [512]) : Calls Tryd.prog 21 #[.slice A 1 c] W (RetPost (.tuple #[sV 0, .int .i64 2]) W.heap.size W) := by
  have := of_any A 1 c W [512] (by decide) h
  rwa [ka3] at this
theorem z_of2 (A : Option Addr) (c : Nat) (W : World) (h : Row1 intV W W.heap.size A 1 [-1]) : Calls Tryd.prog 21 #[.slice A 1 c] W (RetPost (.tuple #[sV 0, .int .i64 2]) W.heap.size W) := by
  have := of_any A 1 c W [-1] (by decide) h
  rwa [ka4] at this
theorem z_min (W : World) (h : Tab W) : Calls Tryd.prog 23 #[sV 0] W (RetPost (.int .i64 (-1)) W.heap.size W) := by
  have := min_any 0 W fit_zero h
  rwa [ka9.2.2.2.2] at this
theorem z_text (W : World) (h : Tab W) : Calls Tryd.prog 20 #[sV 0] W (RetPost (.string ⟨#[123, 125]⟩) W.heap.size W) := by
  have := text_any 0 W fit_zero h
  rw [kb1] at this
  exact this
theorem z_enc (W : World) (h : Tab W) : Calls Tryd.prog 26 #[sV 0] W fun e w' => ∃ A c, e = .returned (.slice A 0 c) ∧ Below W.heap.size W w' := by
  refine (encode_any 0 W fit_zero h).mono ?_
  rintro e w' ⟨v, rfl, h1, h2⟩
  rw [kb2] at h1
  obtain ⟨A, cap, rfl⟩ := own_slice h1
  exact ⟨A, cap, rfl, h2⟩
theorem z_parse1 (W : World) (h : Tab W) : Calls Tryd.prog 18 #[.string ⟨#[123, 53, 44, 48, 125]⟩] W (RetPost (.tuple #[sV 0, .int .i64 6]) W.heap.size W) := by
  have := parse_any [123, 53, 44, 48, 125] W (by decide) h
  rw [kb3] at this
  exact this
theorem z_parse2 (W : World) (h : Tab W) : Calls Tryd.prog 18 #[.string ⟨#[123, 48, 49, 125]⟩] W (RetPost (.tuple #[sV 0, .int .i64 6]) W.heap.size W) := by
  have := parse_any [123, 48, 49, 125] W (by decide) h
  rw [kb4] at this
  exact this
theorem z_parse3 (W : World) (h : Tab W) : Calls Tryd.prog 18 #[.string ⟨#[123, 125]⟩] W (RetPost (.tuple #[sV 0, .int .i64 0]) W.heap.size W) := by
  have := parse_any [123, 125] W (by decide) h
  rw [kb5] at this
  exact this
theorem z_eq (w : World) : (binOp .eql 28 (sV 0) (sV 0)).run Tryd.prog w = .ok (.bool true) w := by have := set_eql w 0 0 fit_zero fit_zero; simpa using this

set_option maxRecDepth 100000 in
set_option maxHeartbeats 8000000 in
theorem known_any (w : World) (hT : Tab w) : Calls Tryd.prog 12 #[] w (RetPost (.bool true) w.heap.size w) := by
  obtain ⟨S1, S2, K⟩ := kfacts
  have HK := Lib.hid K
  have HT := Lib.hid hT
  have HO1 := Lib.hid K.o1
  have HO2 := Lib.hid K.o2
  have HT1 := Lib.hid K.t1
  have HL1 := Lib.hid K.l1
  have HE1 := Lib.hid K.e1
  have HE2 := Lib.hid K.e2
  have HN1 := Lib.hid K.n1
  have HN2 := Lib.hid K.n2
  have HN3 := Lib.hid K.n3
  have HM1 := Lib.hid K.m1
  have HZ1 := Lib.hid z_of1
  have HZ2 := Lib.hid z_of2
  have HZB := Lib.hid (fun W => below_out 513 W (by decide))
  have HZM := Lib.hid z_min
  have HZT := Lib.hid z_text
  have HZE := Lib.hid z_enc
  have HP1 := Lib.hid z_parse1
  have HP2 := Lib.hid z_parse2
  have HP3 := Lib.hid z_parse3
  have hze := z_eq
  clear K hT
  rw [sV_zero] at HZ1 HZ2 HZB HZM HZT HZE HP1 HP2 HP3 hze
  unfold sV at HO1 HO2 HT1 HL1 HE1 HE2 HN1 HN2 HN3 HM1
  go_enter Tryd.func12, Tryd.ntmps12
  go_wp2_with fail
  have B0 : Hid (Below w.heap.size w w) := Lib.hid (Below.refl _ _)
  have hr0 := row_lit w [5, 0, 5]
  have hb0 : Below w.heap.size w (w.alloc (.cells ([(5 : Int), (0 : Int), (5 : Int)].map intV).toArray 3)) := B0.out.alloc (by have := B0.out.size; exact this) _
  simp only [List.map_cons, List.map_nil, intV, List.length_cons, List.length_nil, Nat.zero_add, Nat.reduceAdd] at hr0 hb0
  refine (HO1.out _ _ _ hr0).mono ?_
  rintro e W1 ⟨rfl, hw1⟩
  have C1 := Lib.hid (hb0.trans (hw1.mono hb0.size))
  clear hr0 hb0 hw1
  go_wp2_with fail
  obtain ⟨V1, hV1⟩ : ∃ V, V = W1.alloc (.cells (sL S1).toArray 28) := ⟨_, rfl⟩
  have B1 : Hid (Below w.heap.size w V1) := Lib.hid (by rw [hV1]; exact C1.out.alloc (by have := C1.out.size; exact this) _)
  have hs1 : V1.heap.size = W1.heap.size + 1 := by rw [hV1]; simp
  have X1 : Hid (Blk V1 W1.heap.size 28 (tabL 8 (sC S1))) := Lib.hid (by rw [hV1, ← sL_tab]; exact blk_new _ _ _)
  unfold sL at hV1
  rw [← hV1]
  clear hV1 C1
  have hr1 := row_lit V1 [511]
  have hb1 : Below w.heap.size w (V1.alloc (.cells ([(511 : Int)].map intV).toArray 3)) := B1.out.alloc (by have := B1.out.size; exact this) _
  rw [hs1] at hr1
  simp only [List.map_cons, List.map_nil, intV, List.length_cons, List.length_nil, Nat.zero_add] at hr1 hb1
  refine (HO2.out _ _ _ hr1).mono ?_
  rintro e W2 ⟨rfl, hw2⟩
  have C2 := Lib.hid (hb1.trans (hw2.mono hb1.size))
  have X1' := Lib.hid ((X1.out.alloc (.cells #[.int .i64 511] 3)).keep hw2)
  clear hr1 hb1 hw2
  go_wp2_with fail
  obtain ⟨V2, hV2⟩ : ∃ V, V = W2.alloc (.cells (sL S2).toArray 28) := ⟨_, rfl⟩
  have B2 : Hid (Below w.heap.size w V2) := Lib.hid (by rw [hV2]; exact C2.out.alloc (by have := C2.out.size; exact this) _)
  have hs2 : V2.heap.size = W2.heap.size + 1 := by rw [hV2]; simp
  replace X1 := Lib.hid (show Blk V2 _ _ _ by rw [hV2]; exact X1'.out.alloc _)
  clear X1'
  have X2 : Hid (Blk V2 W2.heap.size 28 (tabL 8 (sC S2))) := Lib.hid (by rw [hV2, ← sL_tab]; exact blk_new _ _ _)
  unfold sL at hV2
  rw [← hV2]
  clear hV2 C2
  have hr2 := row_lit V2 [512]
  have hb2 : Below w.heap.size w (V2.alloc (.cells ([(512 : Int)].map intV).toArray 3)) := B2.out.alloc (by have := B2.out.size; exact this) _
  rw [hs2] at hr2
  simp only [List.map_cons, List.map_nil, intV, List.length_cons, List.length_nil, Nat.zero_add] at hr2 hb2
  refine (HZ1.out _ _ _ hr2).mono ?_
  rintro e W3 ⟨rfl, hw3⟩
  have C3 := Lib.hid (hb2.trans (hw3.mono hb2.size))
  have X1' := Lib.hid ((X1.out.alloc (.cells #[.int .i64 512] 3)).keep hw3)
  have X2' := Lib.hid ((X2.out.alloc (.cells #[.int .i64 512] 3)).keep hw3)
  clear hr2 hb2 hw3
  go_wp2_with fail
  obtain ⟨V3, hV3⟩ : ∃ V, V = W3.alloc (.cells (sL 0).toArray 28) := ⟨_, rfl⟩
  have B3 : Hid (Below w.heap.size w V3) := Lib.hid (by rw [hV3]; exact C3.out.alloc (by have := C3.out.size; exact this) _)
  have hs3 : V3.heap.size = W3.heap.size + 1 := by rw [hV3]; simp
  replace X1 := Lib.hid (show Blk V3 _ _ _ by rw [hV3]; exact X1'.out.alloc _)
  clear X1'
  replace X2 := Lib.hid (show Blk V3 _ _ _ by rw [hV3]; exact X2'.out.alloc _)
  clear X2'
  have X3 : Hid (Blk V3 W3.heap.size 28 (tabL 8 (sC 0))) := Lib.hid (by rw [hV3, ← sL_tab]; exact blk_new _ _ _)
  rw [sL_zero] at hV3
  rw [← hV3]
  clear hV3 C3
  clear X3
  have hr3 := row_lit V3 [-1]
  have hb3 : Below w.heap.size w (V3.alloc (.cells ([(-1 : Int)].map intV).toArray 3)) := B3.out.alloc (by have := B3.out.size; exact this) _
  rw [hs3] at hr3
  simp only [List.map_cons, List.map_nil, intV, List.length_cons, List.length_nil, Nat.zero_add] at hr3 hb3
  refine (HZ2.out _ _ _ hr3).mono ?_
  rintro e W4 ⟨rfl, hw4⟩
  have C4 := Lib.hid (hb3.trans (hw4.mono hb3.size))
  have X1' := Lib.hid ((X1.out.alloc (.cells #[.int .i64 (-1)] 3)).keep hw4)
  have X2' := Lib.hid ((X2.out.alloc (.cells #[.int .i64 (-1)] 3)).keep hw4)
  clear hr3 hb3 hw4
  go_wp2_with fail
  obtain ⟨V4, hV4⟩ : ∃ V, V = W4.alloc (.cells (sL 0).toArray 28) := ⟨_, rfl⟩
  have B4 : Hid (Below w.heap.size w V4) := Lib.hid (by rw [hV4]; exact C4.out.alloc (by have := C4.out.size; exact this) _)
  have hs4 : V4.heap.size = W4.heap.size + 1 := by rw [hV4]; simp
  replace X1 := Lib.hid (show Blk V4 _ _ _ by rw [hV4]; exact X1'.out.alloc _)
  clear X1'
  replace X2 := Lib.hid (show Blk V4 _ _ _ by rw [hV4]; exact X2'.out.alloc _)
  clear X2'
  have X4 : Hid (Blk V4 W4.heap.size 28 (tabL 8 (sC 0))) := Lib.hid (by rw [hV4, ← sL_tab]; exact blk_new _ _ _)
  rw [sL_zero] at hV4
  rw [← hV4]
  clear hV4 C4
  clear X4
  refine (HZB.out _).mono ?_
  rintro e W5 ⟨rfl, hw5⟩
  have C5 := Lib.hid (B4.out.trans (hw5.mono B4.out.size))
  have X1' := Lib.hid (X1.out.keep hw5)
  have X2' := Lib.hid (X2.out.keep hw5)
  clear hw5
  obtain ⟨x1_0, x1_1, x1_2, x1_3, x1_4, x1_5, x1_6, x1_7⟩ := X1'.out.eightA
  go_wp2_with fail
  clear x1_0 x1_1 x1_2 x1_3 x1_4 x1_5 x1_6 x1_7
  obtain ⟨V5, hV5⟩ : ∃ V, V = W5.alloc (.cells (sL 0).toArray 28) := ⟨_, rfl⟩
  have B5 : Hid (Below w.heap.size w V5) := Lib.hid (by rw [hV5]; exact C5.out.alloc (by have := C5.out.size; exact this) _)
  have hs5 : V5.heap.size = W5.heap.size + 1 := by rw [hV5]; simp
  replace X1 := Lib.hid (show Blk V5 _ _ _ by rw [hV5]; exact X1'.out.alloc _)
  clear X1'
  replace X2 := Lib.hid (show Blk V5 _ _ _ by rw [hV5]; exact X2'.out.alloc _)
  clear X2'
  have X5 : Hid (Blk V5 W5.heap.size 28 (tabL 8 (sC 0))) := Lib.hid (by rw [hV5, ← sL_tab]; exact blk_new _ _ _)
  rw [sL_zero] at hV5
  rw [← hV5]
  clear hV5 C5
  clear X5
  refine (HT1.out _ (HT.out.keep B5.out)).mono ?_
  rintro e W6 ⟨rfl, hw6⟩
  have C6 := Lib.hid (B5.out.trans (hw6.mono B5.out.size))
  have X1' := Lib.hid (X1.out.keep hw6)
  have X2' := Lib.hid (X2.out.keep hw6)
  clear hw6
  have B6 := C6
  replace X1 := X1'
  clear X1'
  replace X2 := X2'
  clear X2'
  clear C6
  obtain ⟨x1_0, x1_1, x1_2, x1_3, x1_4, x1_5, x1_6, x1_7⟩ := X1.out.eight
  go_wp2_with fail
  clear x1_0 x1_1 x1_2 x1_3 x1_4 x1_5 x1_6 x1_7
  refine (HL1.out _).mono ?_
  rintro e W7 ⟨rfl, hw7⟩
  have C7 := Lib.hid (B6.out.trans (hw7.mono B6.out.size))
  have X1' := Lib.hid (X1.out.keep hw7)
  have X2' := Lib.hid (X2.out.keep hw7)
  clear hw7
  have B7 := C7
  replace X1 := X1'
  clear X1'
  replace X2 := X2'
  clear X2'
  clear C7
  obtain ⟨x1_0, x1_1, x1_2, x1_3, x1_4, x1_5, x1_6, x1_7⟩ := X1.out.eight
  go_wp2_with fail
  clear x1_0 x1_1 x1_2 x1_3 x1_4 x1_5 x1_6 x1_7
  refine (HE1.out _ (HT.out.keep B7.out)).mono ?_
  rintro e W8 ⟨g1, k1, rfl, hcv, hw8⟩
  have C8 := Lib.hid (B7.out.trans (hw8.mono B7.out.size))
  have X1' := Lib.hid (X1.out.keep hw8)
  have X2' := Lib.hid (X2.out.keep hw8)
  clear hw8
  have B8 := C8
  replace X1 := X1'
  clear X1'
  replace X2 := X2'
  clear X2'
  clear C8
  obtain ⟨x2_0, x2_1, x2_2, x2_3, x2_4, x2_5, x2_6, x2_7⟩ := X2.out.eight
  go_wp2_with fail
  clear x2_0 x2_1 x2_2 x2_3 x2_4 x2_5 x2_6 x2_7
  clear hcv
  refine (HE2.out _ (HT.out.keep B8.out)).mono ?_
  rintro e W9 ⟨A2, k2, rfl, hw9⟩
  have C9 := Lib.hid (B8.out.trans (hw9.mono B8.out.size))
  have X1' := Lib.hid (X1.out.keep hw9)
  have X2' := Lib.hid (X2.out.keep hw9)
  clear hw9
  go_wp2_with fail
  obtain ⟨V9, hV9⟩ : ∃ V, V = W9.alloc (.cells (sL 0).toArray 28) := ⟨_, rfl⟩
  have B9 : Hid (Below w.heap.size w V9) := Lib.hid (by rw [hV9]; exact C9.out.alloc (by have := C9.out.size; exact this) _)
  have hs9 : V9.heap.size = W9.heap.size + 1 := by rw [hV9]; simp
  replace X1 := Lib.hid (show Blk V9 _ _ _ by rw [hV9]; exact X1'.out.alloc _)
  clear X1'
  replace X2 := Lib.hid (show Blk V9 _ _ _ by rw [hV9]; exact X2'.out.alloc _)
  clear X2'
  have X6 : Hid (Blk V9 W9.heap.size 28 (tabL 8 (sC 0))) := Lib.hid (by rw [hV9, ← sL_tab]; exact blk_new _ _ _)
  rw [sL_zero] at hV9
  rw [← hV9]
  clear hV9 C9
  refine (HP1.out _ (HT.out.keep B9.out)).mono ?_
  rintro e W10 ⟨rfl, hw10⟩
  have C10 := Lib.hid (B9.out.trans (hw10.mono B9.out.size))
  have X1' := Lib.hid (X1.out.keep hw10)
  have X2' := Lib.hid (X2.out.keep hw10)
  have X6' := Lib.hid (X6.out.keep hw10)
  clear hw10
  go_wp2_with fail
  obtain ⟨V10, hV10⟩ : ∃ V, V = W10.alloc (.cells (sL 0).toArray 28) := ⟨_, rfl⟩
  have B10 : Hid (Below w.heap.size w V10) := Lib.hid (by rw [hV10]; exact C10.out.alloc (by have := C10.out.size; exact this) _)
  have hs10 : V10.heap.size = W10.heap.size + 1 := by rw [hV10]; simp
  replace X1 := Lib.hid (show Blk V10 _ _ _ by rw [hV10]; exact X1'.out.alloc _)
  clear X1'
  replace X2 := Lib.hid (show Blk V10 _ _ _ by rw [hV10]; exact X2'.out.alloc _)
  clear X2'
  replace X6 := Lib.hid (show Blk V10 _ _ _ by rw [hV10]; exact X6'.out.alloc _)
  clear X6'
  have X7 : Hid (Blk V10 W10.heap.size 28 (tabL 8 (sC 0))) := Lib.hid (by rw [hV10, ← sL_tab]; exact blk_new _ _ _)
  rw [sL_zero] at hV10
  rw [← hV10]
  clear hV10 C10
  clear X7
  refine (HP2.out _ (HT.out.keep B10.out)).mono ?_
  rintro e W11 ⟨rfl, hw11⟩
  have C11 := Lib.hid (B10.out.trans (hw11.mono B10.out.size))
  have X1' := Lib.hid (X1.out.keep hw11)
  have X2' := Lib.hid (X2.out.keep hw11)
  have X6' := Lib.hid (X6.out.keep hw11)
  clear hw11
  go_wp2_with fail
  obtain ⟨V11, hV11⟩ : ∃ V, V = W11.alloc (.cells (sL 0).toArray 28) := ⟨_, rfl⟩
  have B11 : Hid (Below w.heap.size w V11) := Lib.hid (by rw [hV11]; exact C11.out.alloc (by have := C11.out.size; exact this) _)
  have hs11 : V11.heap.size = W11.heap.size + 1 := by rw [hV11]; simp
  replace X1 := Lib.hid (show Blk V11 _ _ _ by rw [hV11]; exact X1'.out.alloc _)
  clear X1'
  replace X2 := Lib.hid (show Blk V11 _ _ _ by rw [hV11]; exact X2'.out.alloc _)
  clear X2'
  replace X6 := Lib.hid (show Blk V11 _ _ _ by rw [hV11]; exact X6'.out.alloc _)
  clear X6'
  have X8 : Hid (Blk V11 W11.heap.size 28 (tabL 8 (sC 0))) := Lib.hid (by rw [hV11, ← sL_tab]; exact blk_new _ _ _)
  rw [sL_zero] at hV11
  rw [← hV11]
  clear hV11 C11
  clear X8
  refine (HP3.out _ (HT.out.keep B11.out)).mono ?_
  rintro e W12 ⟨rfl, hw12⟩
  have C12 := Lib.hid (B11.out.trans (hw12.mono B11.out.size))
  have X1' := Lib.hid (X1.out.keep hw12)
  have X2' := Lib.hid (X2.out.keep hw12)
  have X6' := Lib.hid (X6.out.keep hw12)
  clear hw12
  obtain ⟨x1_0, x1_1, x1_2, x1_3, x1_4, x1_5, x1_6, x1_7⟩ := X1'.out.eightA
  go_wp2_with fail
  clear x1_0 x1_1 x1_2 x1_3 x1_4 x1_5 x1_6 x1_7
  obtain ⟨V12, hV12⟩ : ∃ V, V = W12.alloc (.cells (sL 0).toArray 28) := ⟨_, rfl⟩
  have B12 : Hid (Below w.heap.size w V12) := Lib.hid (by rw [hV12]; exact C12.out.alloc (by have := C12.out.size; exact this) _)
  have hs12 : V12.heap.size = W12.heap.size + 1 := by rw [hV12]; simp
  replace X1 := Lib.hid (show Blk V12 _ _ _ by rw [hV12]; exact X1'.out.alloc _)
  clear X1'
  replace X2 := Lib.hid (show Blk V12 _ _ _ by rw [hV12]; exact X2'.out.alloc _)
  clear X2'
  replace X6 := Lib.hid (show Blk V12 _ _ _ by rw [hV12]; exact X6'.out.alloc _)
  clear X6'
  have X9 : Hid (Blk V12 W12.heap.size 28 (tabL 8 (sC 0))) := Lib.hid (by rw [hV12, ← sL_tab]; exact blk_new _ _ _)
  rw [sL_zero] at hV12
  rw [← hV12]
  clear hV12 C12
  refine (HN1.out _ (HT.out.keep B12.out)).mono ?_
  rintro e W13 ⟨rfl, hw13⟩
  have C13 := Lib.hid (B12.out.trans (hw13.mono B12.out.size))
  have X1' := Lib.hid (X1.out.keep hw13)
  have X2' := Lib.hid (X2.out.keep hw13)
  have X6' := Lib.hid (X6.out.keep hw13)
  have X9' := Lib.hid (X9.out.keep hw13)
  clear hw13
  have B13 := C13
  replace X1 := X1'
  clear X1'
  replace X2 := X2'
  clear X2'
  replace X6 := X6'
  clear X6'
  replace X9 := X9'
  clear X9'
  clear C13
  obtain ⟨x1_0, x1_1, x1_2, x1_3, x1_4, x1_5, x1_6, x1_7⟩ := X1.out.eight
  go_wp2_with fail
  clear x1_0 x1_1 x1_2 x1_3 x1_4 x1_5 x1_6 x1_7
  refine (HN2.out _ (HT.out.keep B13.out)).mono ?_
  rintro e W14 ⟨rfl, hw14⟩
  have C14 := Lib.hid (B13.out.trans (hw14.mono B13.out.size))
  have X1' := Lib.hid (X1.out.keep hw14)
  have X2' := Lib.hid (X2.out.keep hw14)
  have X6' := Lib.hid (X6.out.keep hw14)
  have X9' := Lib.hid (X9.out.keep hw14)
  clear hw14
  have B14 := C14
  replace X1 := X1'
  clear X1'
  replace X2 := X2'
  clear X2'
  replace X6 := X6'
  clear X6'
  replace X9 := X9'
  clear X9'
  clear C14
  obtain ⟨x1_0, x1_1, x1_2, x1_3, x1_4, x1_5, x1_6, x1_7⟩ := X1.out.eight
  go_wp2_with fail
  clear x1_0 x1_1 x1_2 x1_3 x1_4 x1_5 x1_6 x1_7
  refine (HM1.out _ (HT.out.keep B14.out)).mono ?_
  rintro e W15 ⟨rfl, hw15⟩
  have C15 := Lib.hid (B14.out.trans (hw15.mono B14.out.size))
  have X1' := Lib.hid (X1.out.keep hw15)
  have X2' := Lib.hid (X2.out.keep hw15)
  have X6' := Lib.hid (X6.out.keep hw15)
  have X9' := Lib.hid (X9.out.keep hw15)
  clear hw15
  have B15 := C15
  replace X1 := X1'
  clear X1'
  replace X2 := X2'
  clear X2'
  replace X6 := X6'
  clear X6'
  replace X9 := X9'
  clear X9'
  clear C15
  obtain ⟨x1_0, x1_1, x1_2, x1_3, x1_4, x1_5, x1_6, x1_7⟩ := X1.out.eight
  go_wp2_with fail
  clear x1_0 x1_1 x1_2 x1_3 x1_4 x1_5 x1_6 x1_7
  refine (HN3.out _ (HT.out.keep B15.out)).mono ?_
  rintro e W16 ⟨rfl, hw16⟩
  have C16 := Lib.hid (B15.out.trans (hw16.mono B15.out.size))
  have X1' := Lib.hid (X1.out.keep hw16)
  have X2' := Lib.hid (X2.out.keep hw16)
  have X6' := Lib.hid (X6.out.keep hw16)
  have X9' := Lib.hid (X9.out.keep hw16)
  clear hw16
  have B16 := C16
  replace X1 := X1'
  clear X1'
  replace X2 := X2'
  clear X2'
  replace X6 := X6'
  clear X6'
  replace X9 := X9'
  clear X9'
  clear C16
  obtain ⟨x6_0, x6_1, x6_2, x6_3, x6_4, x6_5, x6_6, x6_7⟩ := X6.out.eight
  simp only [wd_zero] at x6_0 x6_1 x6_2 x6_3 x6_4 x6_5 x6_6 x6_7
  go_wp2_with fail
  clear x6_0 x6_1 x6_2 x6_3 x6_4 x6_5 x6_6 x6_7
  refine (HZM.out _ (HT.out.keep B16.out)).mono ?_
  rintro e W17 ⟨rfl, hw17⟩
  have C17 := Lib.hid (B16.out.trans (hw17.mono B16.out.size))
  have X1' := Lib.hid (X1.out.keep hw17)
  have X2' := Lib.hid (X2.out.keep hw17)
  have X6' := Lib.hid (X6.out.keep hw17)
  have X9' := Lib.hid (X9.out.keep hw17)
  clear hw17
  have B17 := C17
  replace X1 := X1'
  clear X1'
  replace X2 := X2'
  clear X2'
  replace X6 := X6'
  clear X6'
  replace X9 := X9'
  clear X9'
  clear C17
  obtain ⟨x6_0, x6_1, x6_2, x6_3, x6_4, x6_5, x6_6, x6_7⟩ := X6.out.eight
  simp only [wd_zero] at x6_0 x6_1 x6_2 x6_3 x6_4 x6_5 x6_6 x6_7
  go_wp2_with fail
  clear x6_0 x6_1 x6_2 x6_3 x6_4 x6_5 x6_6 x6_7
  refine (HZT.out _ (HT.out.keep B17.out)).mono ?_
  rintro e W18 ⟨rfl, hw18⟩
  have C18 := Lib.hid (B17.out.trans (hw18.mono B17.out.size))
  have X1' := Lib.hid (X1.out.keep hw18)
  have X2' := Lib.hid (X2.out.keep hw18)
  have X6' := Lib.hid (X6.out.keep hw18)
  have X9' := Lib.hid (X9.out.keep hw18)
  clear hw18
  have B18 := C18
  replace X1 := X1'
  clear X1'
  replace X2 := X2'
  clear X2'
  replace X6 := X6'
  clear X6'
  replace X9 := X9'
  clear X9'
  clear C18
  obtain ⟨x6_0, x6_1, x6_2, x6_3, x6_4, x6_5, x6_6, x6_7⟩ := X6.out.eight
  simp only [wd_zero] at x6_0 x6_1 x6_2 x6_3 x6_4 x6_5 x6_6 x6_7
  go_wp2_with fail
  clear x6_0 x6_1 x6_2 x6_3 x6_4 x6_5 x6_6 x6_7
  refine (HZE.out _ (HT.out.keep B18.out)).mono ?_
  rintro e W19 ⟨A3, k3, rfl, hw19⟩
  have C19 := Lib.hid (B18.out.trans (hw19.mono B18.out.size))
  have X1' := Lib.hid (X1.out.keep hw19)
  have X2' := Lib.hid (X2.out.keep hw19)
  have X6' := Lib.hid (X6.out.keep hw19)
  have X9' := Lib.hid (X9.out.keep hw19)
  clear hw19
  have B19 := C19
  replace X1 := X1'
  clear X1'
  replace X2 := X2'
  clear X2'
  replace X6 := X6'
  clear X6'
  replace X9 := X9'
  clear X9'
  clear C19
  obtain ⟨x9_0, x9_1, x9_2, x9_3, x9_4, x9_5, x9_6, x9_7⟩ := X9.out.eight
  simp only [wd_zero] at x9_0 x9_1 x9_2 x9_3 x9_4 x9_5 x9_6 x9_7
  obtain ⟨x6_0, x6_1, x6_2, x6_3, x6_4, x6_5, x6_6, x6_7⟩ := X6.out.eight
  simp only [wd_zero] at x6_0 x6_1 x6_2 x6_3 x6_4 x6_5 x6_6 x6_7
  go_wp2_with fail
  clear x9_0 x9_1 x9_2 x9_3 x9_4 x9_5 x9_6 x9_7 x6_0 x6_1 x6_2 x6_3 x6_4 x6_5 x6_6 x6_7
  go_ret
  exact ⟨rfl, B19.out⟩
end Go.Proofs.YtencbmgjdiillaaDoor
