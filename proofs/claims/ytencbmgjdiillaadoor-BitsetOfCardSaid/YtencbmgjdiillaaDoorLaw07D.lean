/- BitsetOf: for any numbers, the set of them or the error, and what it answers, are as the statement says. -/
import Derived.Test.YtencbmgjdiillaaDoorConv07
namespace Go.Proofs.YtencbmgjdiillaaDoor
open Go.RowKit Go.ChangeShapes Go.WideShapes Go.ChangeAt Go.Deep Go.Joins

set_option maxHeartbeats 2000000 in
theorem ofL_long (w : World) (hT : Tab w) (A : Option Addr) (n c : Nat) (hn : 60 < n) : Calls Tryd.prog 6 #[.slice A n c] w fun e w' => e = .returned (.bool true) ∧ Below w.heap.size w w' := by
  have HK : Hid (∀ W, Below w.heap.size w W → Calls Tryd.prog 12 #[] W (RetPost (.bool true) W.heap.size W)) := Lib.hid (fun W hb => known_any W (hT.keep hb))
  have h1 : (60 : Int) < (n : Int) := by omega
  clear hT hn
  go_enter Tryd.func6, Tryd.ntmps6
  go_wp2_with fail
  have B0 : Hid (Below w.heap.size w w) := Lib.hid (Below.refl _ _)
  refine (HK.out _ B0.out).mono ?_
  rintro e W1 ⟨rfl, hw1⟩
  have C1 := Lib.hid (B0.out.trans (hw1.mono B0.out.size))
  clear hw1
  have B1 := C1
  clear C1
  go_wp2_with fail
  go_ret
  exact ⟨rfl, B1.out⟩

set_option maxRecDepth 100000 in
set_option maxHeartbeats 4000000 in
theorem ofL_bad (w : World) (hT : Tab w) (A : Option Addr) (n c : Nat) (l : List Int) (hn : n ≤ 60) (hl : Row1 intV w w.heap.size A n l) (hA : allowF l = false) : Calls Tryd.prog 6 #[.slice A n c] w fun e w' => e = .returned (.bool true) ∧ Below w.heap.size w w' := by
  have HK : Hid (∀ W, Below w.heap.size w W → Calls Tryd.prog 12 #[] W (RetPost (.bool true) W.heap.size W)) := Lib.hid (fun W hb => known_any W (hT.keep hb))
  have h1 : (n : Int) ≤ 60 := by omega
  have hS := of_bad hA
  have HAL : Hid (∀ W, Row1 intV W W.heap.size A n l → Calls Tryd.prog 11 #[.slice A n c] W fun e w' => e = .returned (.bool false) ∧ W = w') := Lib.hid (fun W h => by have := allowed_any A n c W _ l (by omega) h; rw [hA] at this; exact this)
  have HOF : Hid (∀ W, Row1 intV W W.heap.size A n l → Calls Tryd.prog 21 #[.slice A n c] W (RetPost (.tuple #[sV 0, .int .i64 2]) W.heap.size W)) := Lib.hid (fun W h => by have := of_any A n c W l (by omega) h; rw [hS] at this; exact this)
  have hze := z_eq
  rw [sV_zero] at hze HOF
  have R0 := Lib.hid hl
  clear hT hn hl hA hS
  go_enter Tryd.func6, Tryd.ntmps6
  go_wp2_with fail
  have B0 : Hid (Below w.heap.size w w) := Lib.hid (Below.refl _ _)
  refine (HOF.out _ R0.out).mono ?_
  rintro e W1 ⟨rfl, hw1⟩
  have C1 := Lib.hid (B0.out.trans (hw1.mono B0.out.size))
  have R0' := Lib.hid (R0.out.keep hw1)
  clear hw1
  go_wp2_with fail
  obtain ⟨U1, hU1⟩ : ∃ V, V = W1.alloc (.cells (sL 0).toArray 28) := ⟨_, rfl⟩
  obtain ⟨V1, hV1⟩ : ∃ V, V = U1.alloc (.cells (sL 0).toArray 28) := ⟨_, rfl⟩
  have D1 : Hid (Below w.heap.size w U1) := Lib.hid (by rw [hU1]; exact C1.out.alloc (by have := C1.out.size; exact this) _)
  have B1 : Hid (Below w.heap.size w V1) := Lib.hid (by rw [hV1]; exact D1.out.alloc (by have := D1.out.size; exact this) _)
  have hs1 : U1.heap.size = W1.heap.size + 1 := by rw [hU1]; simp
  replace R0 := Lib.hid (show Row1 intV V1 V1.heap.size _ _ _ by rw [hV1, hU1]; exact (R0'.out.allocK _).allocK _)
  clear R0'
  have X3 : Hid (Blk V1 W1.heap.size 28 (tabL 8 (sC 0))) := Lib.hid (by rw [hV1]; refine Blk.alloc ?_ _; rw [hU1, ← sL_tab]; exact blk_new _ _ _)
  have X5 : Hid (Blk V1 (W1.heap.size + 1) 28 (tabL 8 (sC 0))) := Lib.hid (by rw [hV1, ← sL_tab, ← hs1]; exact blk_new _ _ _)
  rw [sL_zero] at hV1
  rw [sL_zero] at hU1
  rw [← hU1, ← hV1]
  clear hV1 hU1 C1 hs1 D1
  refine (HAL.out _ R0.out).mono ?_
  rintro e wz ⟨rfl, rfl⟩
  obtain ⟨x3_0, x3_1, x3_2, x3_3, x3_4, x3_5, x3_6, x3_7⟩ := X3.out.eight
  simp only [wd_zero] at x3_0 x3_1 x3_2 x3_3 x3_4 x3_5 x3_6 x3_7
  obtain ⟨x5_0, x5_1, x5_2, x5_3, x5_4, x5_5, x5_6, x5_7⟩ := X5.out.eight
  simp only [wd_zero] at x5_0 x5_1 x5_2 x5_3 x5_4 x5_5 x5_6 x5_7
  go_wp2_with fail
  clear x3_0 x3_1 x3_2 x3_3 x3_4 x3_5 x3_6 x3_7 x5_0 x5_1 x5_2 x5_3 x5_4 x5_5 x5_6 x5_7
  refine (HK.out _ B1.out).mono ?_
  rintro e W2 ⟨rfl, hw2⟩
  have C2 := Lib.hid (B1.out.trans (hw2.mono B1.out.size))
  have X3' := Lib.hid (X3.out.keep hw2)
  have X5' := Lib.hid (X5.out.keep hw2)
  have R0' := Lib.hid (R0.out.keep hw2)
  clear hw2
  have B2 := C2
  replace X3 := X3'
  clear X3'
  replace X5 := X5'
  clear X5'
  replace R0 := R0'
  clear R0'
  clear C2
  go_wp2_with fail
  go_ret
  exact ⟨rfl, B2.out⟩

set_option maxRecDepth 100000 in
set_option maxHeartbeats 8000000 in
theorem ofL_main (w : World) (hT : Tab w) (A : Option Addr) (n c : Nat) (l : List Int) (S : Nat) (hn : n ≤ 60) (hl : Row1 intV w w.heap.size A n l) (hA : allowF l = true) (hS : ofF l = (S, 0)) (hF : Fit S) (hm : ofK l 512 = memI S) : Calls Tryd.prog 6 #[.slice A n c] w fun e w' => e = .returned (.bool true) ∧ Below w.heap.size w w' := by
  have HT := Lib.hid hT
  have HK : Hid (∀ W, Below w.heap.size w W → Calls Tryd.prog 12 #[] W (RetPost (.bool true) W.heap.size W)) := Lib.hid (fun W hb => known_any W (hT.keep hb))
  have h1 : (n : Int) ≤ 60 := by omega
  have HAL : Hid (∀ W, Row1 intV W W.heap.size A n l → Calls Tryd.prog 11 #[.slice A n c] W fun e w' => e = .returned (.bool true) ∧ W = w') := Lib.hid (fun W h => by have := allowed_any A n c W _ l (by omega) h; rw [hA] at this; exact this)
  have HOF : Hid (∀ W, Row1 intV W W.heap.size A n l → Calls Tryd.prog 21 #[.slice A n c] W (RetPost (.tuple #[sV S, .int .i64 0]) W.heap.size W)) := Lib.hid (fun W h => by have := of_any A n c W l (by omega) h; rw [hS] at this; exact this)
  have HRO : Hid (∀ W, Row1 intV W W.heap.size A n l → Calls Tryd.prog 14 #[.slice A n c] W (NewInts (memI S) W)) := Lib.hid (fun W h => by have := ofR_any A n c W l (by omega) h; rw [hm] at this; exact this)
  have hml : (memI S).length ≤ 512 := by rw [memI_len]; exact mem_len S
  have HIS : Hid (∀ A' n' c' W, Tab W → Row1 intV W W.heap.size A' n' (memI S) → Calls Tryd.prog 17 #[sV S, .slice A' n' c'] W (RetPost (.bool true) W.heap.size W)) := Lib.hid (fun A' n' c' W h1 h2 => is_any S A' n' c' W hF h1 h2)
  have HEM := Lib.hid (fun W => empty_any S hF W)
  have HMI := Lib.hid (fun W h => min_any S W hF h)
  have HNR : Hid (∀ A' c' W, Row1 intV W W.heap.size A' (memI S).length (memI S) → Calls Tryd.prog 24 #[.slice A' (memI S).length c', .int .i64 0] W fun e w' => e = .returned (.int .i64 (nextF S 0)) ∧ W = w') := Lib.hid (fun A' c' W h => by have := nextR_any A' _ c' 0 W _ (memI S) (by omega) h; rw [nextR_memI] at this; exact this)
  have HTX := Lib.hid (fun W h => text_any S W hF h)
  have HTR : Hid (∀ A' n' c' W, Row1 intV W W.heap.size A' n' (memI S) → Calls Tryd.prog 25 #[.slice A' n' c'] W (RetPost (.string ⟨(textF S).toArray⟩) W.heap.size W)) := Lib.hid (fun A' n' c' W h => textM_any S A' n' c' W h)
  have HEN := Lib.hid (fun W h => encN_any S W hF h)
  have HER := Lib.hid (fun A' n' c' W h => encMN_any S A' n' c' W h)
  have heq := fun w => set_eql w S 0 hF fit_zero
  have hem : (((memI S).length : Int) == 0) = decide (S = 0) := by
    have h3 := mem_nil hF
    rw [memI_len]
    by_cases h : S = 0
    · rw [h3.2 h]; simp [h]
    · have : ¬ (mem S).length = 0 := fun e => h (h3.1 e)
      simp [h, this]
  have hnn : (nextF S 0 != nextF S 0) = false := by simp
  generalize decide (S = 0) = eb at *
  generalize nextF S 0 = nx at *
  have hee : (eb != eb) = false := by simp
  generalize textF S = TS at *
  generalize encF S = ES at *
  rw [sV_zero] at heq
  unfold sV at HOF HIS HEM HMI HTX HEN heq
  have R0 := Lib.hid hl
  clear hT hn hl hA hS hF hm hml
  go_enter Tryd.func6, Tryd.ntmps6
  go_wp2_with fail
  have B0 : Hid (Below w.heap.size w w) := Lib.hid (Below.refl _ _)
  refine (HOF.out _ R0.out).mono ?_
  rintro e W1 ⟨rfl, hw1⟩
  have C1 := Lib.hid (B0.out.trans (hw1.mono B0.out.size))
  have R0' := Lib.hid (R0.out.keep hw1)
  clear hw1
  go_wp2_with fail
  obtain ⟨U1, hU1⟩ : ∃ V, V = W1.alloc (.cells (sL S).toArray 28) := ⟨_, rfl⟩
  obtain ⟨V1, hV1⟩ : ∃ V, V = U1.alloc (.cells (sL 0).toArray 28) := ⟨_, rfl⟩
  have D1 : Hid (Below w.heap.size w U1) := Lib.hid (by rw [hU1]; exact C1.out.alloc (by have := C1.out.size; exact this) _)
  have B1 : Hid (Below w.heap.size w V1) := Lib.hid (by rw [hV1]; exact D1.out.alloc (by have := D1.out.size; exact this) _)
  have hs1 : U1.heap.size = W1.heap.size + 1 := by rw [hU1]; simp
  replace R0 := Lib.hid (show Row1 intV V1 V1.heap.size _ _ _ by rw [hV1, hU1]; exact (R0'.out.allocK _).allocK _)
  clear R0'
  have X3 : Hid (Blk V1 W1.heap.size 28 (tabL 8 (sC S))) := Lib.hid (by rw [hV1]; refine Blk.alloc ?_ _; rw [hU1, ← sL_tab]; exact blk_new _ _ _)
  have X5 : Hid (Blk V1 (W1.heap.size + 1) 28 (tabL 8 (sC 0))) := Lib.hid (by rw [hV1, ← sL_tab, ← hs1]; exact blk_new _ _ _)
  rw [sL_zero] at hV1
  unfold sL at hU1
  rw [← hU1, ← hV1]
  clear hV1 hU1 C1 hs1 D1
  refine (HAL.out _ R0.out).mono ?_
  rintro e wz ⟨rfl, rfl⟩
  go_wp2_with fail
  refine (HRO.out _ R0.out).mono ?_
  rintro e W2 ⟨v6, rfl, hown6, hw2⟩
  have C2 := Lib.hid (B1.out.trans (hw2.mono B1.out.size))
  have X3' := Lib.hid (X3.out.keep hw2)
  have X5' := Lib.hid (X5.out.keep hw2)
  have R0' := Lib.hid (R0.out.keep hw2)
  obtain ⟨A6, c6, rfl, hr6⟩ := row1_of_own hown6
  have R6 := Lib.hid hr6
  clear hown6 hr6
  clear hw2
  have B2 := C2
  replace X3 := X3'
  clear X3'
  replace X5 := X5'
  clear X5'
  replace R0 := R0'
  clear R0'
  clear C2
  clear R0
  obtain ⟨x3_0, x3_1, x3_2, x3_3, x3_4, x3_5, x3_6, x3_7⟩ := X3.out.eight
  go_wp2_with fail
  clear x3_0 x3_1 x3_2 x3_3 x3_4 x3_5 x3_6 x3_7
  refine (HIS.out _ _ _ _ (HT.out.keep B2.out) R6.out).mono ?_
  rintro e W3 ⟨rfl, hw3⟩
  have C3 := Lib.hid (B2.out.trans (hw3.mono B2.out.size))
  have X3' := Lib.hid (X3.out.keep hw3)
  have X5' := Lib.hid (X5.out.keep hw3)
  have R6' := Lib.hid (R6.out.keep hw3)
  clear hw3
  have B3 := C3
  replace X3 := X3'
  clear X3'
  replace X5 := X5'
  clear X5'
  replace R6 := R6'
  clear R6'
  clear C3
  obtain ⟨x3_0, x3_1, x3_2, x3_3, x3_4, x3_5, x3_6, x3_7⟩ := X3.out.eight
  go_wp2_with fail
  clear x3_0 x3_1 x3_2 x3_3 x3_4 x3_5 x3_6 x3_7
  refine (HEM.out _).mono ?_
  rintro e W4 ⟨rfl, hw4⟩
  have C4 := Lib.hid (B3.out.trans (hw4.mono B3.out.size))
  have X3' := Lib.hid (X3.out.keep hw4)
  have X5' := Lib.hid (X5.out.keep hw4)
  have R6' := Lib.hid (R6.out.keep hw4)
  clear hw4
  have B4 := C4
  replace X3 := X3'
  clear X3'
  replace X5 := X5'
  clear X5'
  replace R6 := R6'
  clear R6'
  clear C4
  obtain ⟨x3_0, x3_1, x3_2, x3_3, x3_4, x3_5, x3_6, x3_7⟩ := X3.out.eight
  obtain ⟨x5_0, x5_1, x5_2, x5_3, x5_4, x5_5, x5_6, x5_7⟩ := X5.out.eight
  simp only [wd_zero] at x5_0 x5_1 x5_2 x5_3 x5_4 x5_5 x5_6 x5_7
  go_wp2_with fail
  clear x3_0 x3_1 x3_2 x3_3 x3_4 x3_5 x3_6 x3_7 x5_0 x5_1 x5_2 x5_3 x5_4 x5_5 x5_6 x5_7
  refine (HMI.out _ (HT.out.keep B4.out)).mono ?_
  rintro e W5 ⟨rfl, hw5⟩
  have C5 := Lib.hid (B4.out.trans (hw5.mono B4.out.size))
  have X3' := Lib.hid (X3.out.keep hw5)
  have X5' := Lib.hid (X5.out.keep hw5)
  have R6' := Lib.hid (R6.out.keep hw5)
  clear hw5
  have B5 := C5
  replace X3 := X3'
  clear X3'
  replace X5 := X5'
  clear X5'
  replace R6 := R6'
  clear R6'
  clear C5
  go_wp2_with fail
  refine (HNR.out _ _ _ R6.out).mono ?_
  rintro e wz ⟨rfl, rfl⟩
  go_wp2_with fail
  have D0 := Lib.hid (show Below w.heap.size w W5.drew from B5.out.drew)
  have Y3 := Lib.hid X3.out.drew
  have Q6 := Lib.hid R6.out.drewK
  refine Lb.region (R := fun w w' => Below w.heap.size w w') keep_refl keep_trans (C := fun w' => (w'.cell? ⟨W1.heap.size, 0, none⟩ = some (.int .u64 (wd S 0)) ∧ w'.cell? ⟨W1.heap.size, 1, none⟩ = some (.int .u64 (wd S 1)) ∧ w'.cell? ⟨W1.heap.size, 2, none⟩ = some (.int .u64 (wd S 2)) ∧ w'.cell? ⟨W1.heap.size, 3, none⟩ = some (.int .u64 (wd S 3)) ∧ w'.cell? ⟨W1.heap.size, 4, none⟩ = some (.int .u64 (wd S 4)) ∧ w'.cell? ⟨W1.heap.size, 5, none⟩ = some (.int .u64 (wd S 5)) ∧ w'.cell? ⟨W1.heap.size, 6, none⟩ = some (.int .u64 (wd S 6)) ∧ w'.cell? ⟨W1.heap.size, 7, none⟩ = some (.int .u64 (wd S 7)))) (hs := [0, 6, 2008, 2011]) (by kernel_rfl) (by kernel_rfl) (by exact Y3.out.eight) ?_
  repeat' (first
    | (refine Lb.lex_late (v := ?_) rfl (by first | exact Lx.w0 rfl | exact Lx.w1 rfl rfl rfl (by with_reducible rfl)) ?_ (fun K hK => ?_); rotate_left 1; (intro w' hRw; (first | have hcv := conv_row c8 (E8.out.keep hRw) | have hcv := conv_row c7 (E7.out.keep hRw)); go_simp; first | done | with_reducible rfl); go_simp; refine hK _ ?_; clear hK K)
    | (refine Lb.lex_no (Lx.n1 rfl rfl rfl (by with_reducible rfl)) (fun K hK => ?_); go_simp; refine hK _ ?_; clear hK K)
    | (refine Lb.lex_no (Lx.n0 rfl rfl rfl (by with_reducible rfl)) (fun K hK => ?_); go_simp; refine hK _ ?_; clear hK K)
    | (refine Lb.lex_no (Lx.n2 rfl rfl rfl) (fun K hK => ?_); go_simp; refine hK _ ?_; clear hK K)
    | (refine Lb.lex_pure (v := ?_) rfl (by first | exact Lx.w0 rfl | exact Lx.w1 rfl rfl rfl (by with_reducible rfl)) ?_ (fun K hK => ?_); rotate_left 1; (intro w' hCw; (try dsimp only at hCw); go_simp; done); go_simp; refine hK _ ?_; clear hK K)
    | (refine Lb.lex_pure (v := ?_) rfl (by first | exact Lx.w0 rfl | exact Lx.w1 rfl rfl rfl (by with_reducible rfl)) ?_ (fun K hK => ?_); rotate_left 1; (intro w' hCw; (try dsimp only at hCw); go_simp; with_reducible rfl); go_simp; refine hK _ ?_; clear hK K)
    | (refine Lb.lex_read (v := ?_) rfl (by first | exact Lx.w0 rfl | exact Lx.w1 rfl rfl rfl (by with_reducible rfl)) ?_ (fun K hK => ?_); rotate_left 1; (go_simp; first | done | with_reducible rfl); go_simp; refine hK _ ?_; clear hK K)
    | (refine Lb.lex_eff rfl (by first | exact Lx.w0 rfl | exact Lx.w1 rfl rfl rfl (by with_reducible rfl)) (fun K hK => ?_); go_simp; (first | (go_at_call 20; refine (HTX.out _ (HT.out.keep D0.out)).mono ?_; rintro e Z1 ⟨rfl, hw⟩; have D1 := Lib.hid (D0.out.trans (hw.mono D0.out.size)); replace Y3 := Lib.hid (Y3.out.keep hw); replace Q6 := Lib.hid (Q6.out.keep hw); (try clear RK); have RK := Lib.hid hw; clear HTX; clear hw D0) | (go_at_call 25; refine (HTR.out _ _ _ _ Q6.out).mono ?_; rintro e Z2 ⟨rfl, hw⟩; have D2 := Lib.hid (D1.out.trans (hw.mono D1.out.size)); replace Y3 := Lib.hid (Y3.out.keep hw); replace Q6 := Lib.hid (Q6.out.keep hw); (try clear RK); have RK := Lib.hid hw; clear HTR; clear hw D1) | (go_at_call 26; refine (HEN.out _ (HT.out.keep D2.out)).mono ?_; rintro e Z3 ⟨A7, c7, rfl, hr7, hw⟩; have D3 := Lib.hid (D2.out.trans (hw.mono D2.out.size)); replace Y3 := Lib.hid (Y3.out.keep hw); replace Q6 := Lib.hid (Q6.out.keep hw); (try clear RK); have RK := Lib.hid hw; clear HEN; have E7 := Lib.hid hr7; clear hr7; clear hw D2) | (go_at_call 27; refine (HER.out _ _ _ _ Q6.out).mono ?_; rintro e Z4 ⟨A8, c8, rfl, hr8, hw⟩; have D4 := Lib.hid (D3.out.trans (hw.mono D3.out.size)); replace Y3 := Lib.hid (Y3.out.keep hw); replace Q6 := Lib.hid (Q6.out.keep hw); (try clear RK); have RK := Lib.hid hw; clear HER; have E8 := Lib.hid hr8; clear hr8; clear hw D3) | (go_at_call 12; refine (HK.out _ D4.out).mono ?_; rintro e Z5 ⟨rfl, hw⟩; have D5 := Lib.hid (D4.out.trans (hw.mono D4.out.size)); replace Y3 := Lib.hid (Y3.out.keep hw); replace Q6 := Lib.hid (Q6.out.keep hw); (try clear RK); have RK := Lib.hid hw; clear hw D4) | skip); refine hK _ _ (by exact ⟨Y3.out.eight, RK.out⟩) ?_; clear hK K)
    | (refine Lb.lex_cases rfl rfl rfl (fun hgd K hK => ?_) (fun hgd K hK => ?_) <;> (try simp only [decide_eq_true_eq, decide_eq_false_iff_not] at hgd) <;> (first | (exfalso; omega) | (go_simp; refine hK _ ?_; clear hK K))))
  all_goals (refine Lb.lex_nil ?_)
  go_wp2_with fail
  go_ret
  exact ⟨rfl, D5.out⟩

theorem bitsetOf_walk (w : World) (hT : Tab w) (A : Option Addr) (n c : Nat) (l : List Int) (hl : Row1 intV w w.heap.size A n l) (_ : ∀ z ∈ l, I64 z) (_ : n ≤ 9223372036854775807) : Calls Tryd.prog 6 #[.slice A n c] w fun e w' => e = .returned (.bool true) ∧ Below w.heap.size w w' := by
  by_cases hn : n ≤ 60
  · cases hA : allowF l with
    | false => exact ofL_bad w hT A n c l hn hl hA
    | true =>
      obtain ⟨S, h1, h2, h3, _⟩ := of_good hA
      exact ofL_main w hT A n c l S hn hl hA h1 h2 h3
  · exact ofL_long w hT A n c (by omega)

set_option maxRecDepth 100000 in
theorem bitsetOf_lifted (os : Os) (started : os.Started) (H : Type) (enc : TypeId × Value → H) :
    ReturnsInHanded {} Tryd.checked os 6 .any (fun w args => (Rows.bitsetOfSpec.pre enc Tryd.prog Tryd.f6 [] false w args ∧ laidMetH Tryd.prog laid07 w) ∧ sizedMet enc Tryd.prog Tryd.f6 (OpenSpec.ofChange Rows.bitsetOfSpec) false w args) (Rows.bitsetOfSpec.post enc Tryd.prog Tryd.f6 false true false false) := by
  refine handed_laid (C := Tryd.checked) (laid := laid07) own started (by kernel_rfl) Tryd.func6
    (ChangeSpec.witness_shaped (enc := enc) (C := Tryd.checked) (os := os) (X := fun w _ => laidMetH Tryd.prog laid07 w) false (World.laidAll Tryd.prog os laid07) #[.slice none 0 0] 8 (World.laidAll_os _ _ _) (World.shaped_of_ZipB (by kernel_rfl) (by kernel_rfl)) (by kernel_rfl) (by kernel_rfl) (by kernel_rfl) (laidHold os _)) ?_
  intro W base args ds gs before hval0 hW hL hsh
  have hTab := tab_of hL hsh
  have hval : ∀ (j : Nat) t v, Tryd.f6.params[j]? = some t → args[j]? = some v → Value.okWide Tryd.prog W .any base t v := hval0
  have hW' := hW
  obtain ⟨p, q, hA0, hV, rfl, hfz, hnd⟩ := hW
  have hA : DataW.TrodAll enc Tryd.prog W 0 (fun _ => true) true Tryd.f6.params.toList args.toList ds p := hA0
  rw [Tryd.params6] at hA hval
  obtain ⟨v0, vs0, d0, ds0, p0, q0, hargs, rfl, rfl, h0, r0⟩ := trodAll_cons hA
  obtain ⟨rfl, rfl, rfl⟩ := trodAll_nil r0
  obtain rfl : args = #[v0] := by cases args; simp_all
  obtain ⟨rfl, rfl⟩ := trodVars_none hV
  have k0 := h0
  have lt0 : ∀ x ∈ p0, x.block < W.heap.size := by obtain ⟨m, hm⟩ := k0; exact DataW.trod_lt m _ _ _ hm
  obtain ⟨A0, n0, c0, xs0, rfl, R0, b0, m0⟩ := arg_ints Tryd.underlying22 Tryd.underlying3 (by kernel_rfl) (hval 0 22 _ rfl rfl) h0
  clear hA0 hval0
  refine (bitsetOf_walk W hTab A0 n0 c0 xs0 R0 b0 m0).mono fun e W' ⟨he, bel⟩ => ?_
  subst he
  exact ⟨_, rfl, _, _, _, [], _, [], hW', trodAll_mk1 (shut_bool Tryd.underlying4 _), (trodAll_cons_mk (Below.trod laidOut (by kernel_rfl) (of_decide_eq_true (by kernel_rfl)) k0 bel lt0) trodAll_mk0), rfl, bel.frame _, fun h => by cases h⟩

theorem bitsetOf_over : Rows.bitsetOfRow.holds Tryd.pinned (OpenSpec.ofChange Rows.bitsetOfSpec) :=
  OpenClaim.holds_of_wide 6 Tryd.f6 rfl rfl rfl rfl rfl rfl rfl ⟨rfl, rfl, rfl, rfl, rfl⟩ rfl rfl rfl rfl rfl (by kernel_rfl) Tryd.func6 (by kernel_rfl)
    (of_decide_eq_true (by kernel_rfl)) (by unfold Func.isWrapper; first | (rw [if_pos (by decide +kernel)]; kernel_rfl) | (rw [if_neg (by decide +kernel)]; exact ⟨rfl, rfl⟩))
    (fun os started H enc _ => bitsetOf_lifted os started H enc)

theorem bitsetOfCard_holds : Rows.BitsetOfCardSaid :=
  Claim7.holds_tied_plain_at .later [] [.data, .data, .data] true (true, "39aa42fe034a2cbedf78232cde6b0da1e7f2e4be5808576f250df2ef6185728f") false
    bitsetOf_over (fun _ h => by cases h) (by kernel_rfl) (fun _ h => by cases h) bitsetOf_row_tie rfl ⟨rfl, rfl⟩ (by kernel_rfl) rfl
    (fun f fn hf hfn => by
      obtain rfl : f = 6 := Option.some.inj ((show Tryd.prog.funcNamed "bandplan/bandplanlaw07.BitsetOf" = some 6 by kernel_rfl).symm.trans hf) |>.symm
      obtain rfl : fn = Tryd.f6 := (Option.some.inj (Tryd.func6.symm.trans hfn)).symm
      exact ⟨by kernel_rfl, fun j t ht => by
        rw [Tryd.params6] at ht
        rcases j with _ | j
        · obtain rfl : t = 22 := by simpa using ht.symm
          exact (show Tryd.prog.wantsStandIn 22 = false by kernel_rfl)
        · simp at ht⟩)
    (by kernel_rfl)
#print axioms bitsetOfCard_holds
end Go.Proofs.YtencbmgjdiillaaDoor
