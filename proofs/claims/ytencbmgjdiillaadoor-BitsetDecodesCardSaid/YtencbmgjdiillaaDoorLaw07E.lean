/- BitsetDecodes: for any bytes, the set of them or the error, and its bytes, are as the statement says. -/
import Derived.Test.YtencbmgjdiillaaDoorRf4
namespace Go.Proofs.YtencbmgjdiillaaDoor
open Go.RowKit Go.ChangeShapes Go.WideShapes Go.ChangeAt Go.Deep Go.Joins

set_option maxHeartbeats 2000000 in
theorem decL_long (w : World) (hT : Tab w) (A : Option Addr) (n c : Nat) (hn : 80 < n) : Calls Tryd.prog 7 #[.slice A n c] w fun e w' => e = .returned (.bool true) ∧ Below w.heap.size w w' := by
  have HK : Hid (∀ W, Below w.heap.size w W → Calls Tryd.prog 12 #[] W (RetPost (.bool true) W.heap.size W)) := Lib.hid (fun W hb => known_any W (hT.keep hb))
  have h1 : (80 : Int) < (n : Int) := by omega
  clear hT hn
  go_enter Tryd.func7, Tryd.ntmps7
  go_wp2_with fail
  have B0 : Hid (Below w.heap.size w w) := Lib.hid (Below.refl _ _)
  refine (HK.out _ B0.out).mono ?_
  rintro e W1 ⟨rfl, hw1⟩
  have C1 := Lib.hid (B0.out.trans (hw1.mono B0.out.size))
  clear hw1
  have B1 := C1
  clear C1
  go_wp2_with fail
  go_ret
  exact ⟨rfl, B1.out⟩

set_option maxRecDepth 100000 in
set_option maxHeartbeats 4000000 in
theorem decL_bad (w : World) (hT : Tab w) (A : Option Addr) (n c : Nat) (l : List UInt8) (er : Int) (hn : n ≤ 80) (hl : Row1 byV w w.heap.size A n l) (hD : decF l = (0, er)) (hR : decRF l = ([], er)) (her : er ≠ 0) : Calls Tryd.prog 7 #[.slice A n c] w fun e w' => e = .returned (.bool true) ∧ Below w.heap.size w w' := by
  have HK : Hid (∀ W, Below w.heap.size w W → Calls Tryd.prog 12 #[] W (RetPost (.bool true) W.heap.size W)) := Lib.hid (fun W hb => known_any W (hT.keep hb))
  have h1 : (n : Int) ≤ 80 := by omega
  have HD : Hid (∀ W, Row1 byV W W.heap.size A n l → Calls Tryd.prog 28 #[.slice A n c] W (RetPost (.tuple #[sV 0, .int .i64 er]) W.heap.size W)) := Lib.hid (fun W h => by have := decode_any A n c W l (by omega) h; rw [hD] at this; exact this)
  have HR : Hid (∀ W, Row1 byV W W.heap.size A n l → Calls Tryd.prog 29 #[.slice A n c] W (ListPair ([], er) W)) := Lib.hid (fun W h => by have := decodeR_any A n c W l (by omega) h; rw [hR] at this; exact this)
  have hze := z_eq
  rw [sV_zero] at hze HD
  have h3 : ¬ er = 0 := her
  have R0 := Lib.hid hl
  clear hT hn hl hD hR her
  go_enter Tryd.func7, Tryd.ntmps7
  go_wp2_with fail
  have B0 : Hid (Below w.heap.size w w) := Lib.hid (Below.refl _ _)
  refine (HD.out _ R0.out).mono ?_
  rintro e W1 ⟨rfl, hw1⟩
  have C1 := Lib.hid (B0.out.trans (hw1.mono B0.out.size))
  have R0' := Lib.hid (R0.out.keep hw1)
  clear hw1
  go_wp2_with fail
  obtain ⟨V1, hV1⟩ : ∃ V, V = W1.alloc (.cells (sL 0).toArray 28) := ⟨_, rfl⟩
  have B1 : Hid (Below w.heap.size w V1) := Lib.hid (by rw [hV1]; exact C1.out.alloc (by have := C1.out.size; exact this) _)
  have hs1 : V1.heap.size = W1.heap.size + 1 := by rw [hV1]; simp
  replace R0 := Lib.hid (show Row1 _ V1 V1.heap.size _ _ _ by rw [hV1]; exact R0'.out.allocK _)
  clear R0'
  have X3 : Hid (Blk V1 W1.heap.size 28 (tabL 8 (sC 0))) := Lib.hid (by rw [hV1, ← sL_tab]; exact blk_new _ _ _)
  rw [sL_zero] at hV1
  rw [← hV1]
  clear hV1 C1 hs1
  refine (HR.out _ R0.out).mono ?_
  rintro e W2 ⟨v5, rfl, hown5, hw2⟩
  have C2 := Lib.hid (B1.out.trans (hw2.mono B1.out.size))
  have X3' := Lib.hid (X3.out.keep hw2)
  have R0' := Lib.hid (R0.out.keep hw2)
  obtain ⟨A5, c5, rfl, hr5⟩ := row1_of_own hown5
  clear hown5 hr5
  clear hw2
  obtain ⟨x3_0, x3_1, x3_2, x3_3, x3_4, x3_5, x3_6, x3_7⟩ := X3'.out.eightA
  simp only [wd_zero] at x3_0 x3_1 x3_2 x3_3 x3_4 x3_5 x3_6 x3_7
  go_wp2_with fail
  clear x3_0 x3_1 x3_2 x3_3 x3_4 x3_5 x3_6 x3_7
  obtain ⟨V2, hV2⟩ : ∃ V, V = W2.alloc (.cells (sL 0).toArray 28) := ⟨_, rfl⟩
  have B2 : Hid (Below w.heap.size w V2) := Lib.hid (by rw [hV2]; exact C2.out.alloc (by have := C2.out.size; exact this) _)
  have hs2 : V2.heap.size = W2.heap.size + 1 := by rw [hV2]; simp
  replace X3 := Lib.hid (show Blk V2 _ _ _ by rw [hV2]; exact X3'.out.alloc _)
  clear X3'
  replace R0 := Lib.hid (show Row1 _ V2 V2.heap.size _ _ _ by rw [hV2]; exact R0'.out.allocK _)
  clear R0'
  have X7 : Hid (Blk V2 W2.heap.size 28 (tabL 8 (sC 0))) := Lib.hid (by rw [hV2, ← sL_tab]; exact blk_new _ _ _)
  rw [sL_zero] at hV2
  rw [← hV2]
  clear hV2 C2 hs2
  refine (HK.out _ B2.out).mono ?_
  rintro e W3 ⟨rfl, hw3⟩
  have C3 := Lib.hid (B2.out.trans (hw3.mono B2.out.size))
  have X3' := Lib.hid (X3.out.keep hw3)
  have X7' := Lib.hid (X7.out.keep hw3)
  have R0' := Lib.hid (R0.out.keep hw3)
  clear hw3
  have B3 := C3
  replace X3 := X3'
  clear X3'
  replace X7 := X7'
  clear X7'
  replace R0 := R0'
  clear R0'
  clear C3
  go_wp2_with fail
  go_ret
  exact ⟨rfl, B3.out⟩

set_option maxRecDepth 100000 in
set_option maxHeartbeats 8000000 in
theorem decL_main (w : World) (hT : Tab w) (A : Option Addr) (n c : Nat) (l : List UInt8) (S : Nat) (hn : n ≤ 80) (hl : Row1 byV w w.heap.size A n l) (hD : decF l = (S, 0)) (hR : decRF l = (memI S, 0)) (hF : Fit S) (hE : encF S = l) : Calls Tryd.prog 7 #[.slice A n c] w fun e w' => e = .returned (.bool true) ∧ Below w.heap.size w w' := by
  have HT := Lib.hid hT
  have HK : Hid (∀ W, Below w.heap.size w W → Calls Tryd.prog 12 #[] W (RetPost (.bool true) W.heap.size W)) := Lib.hid (fun W hb => known_any W (hT.keep hb))
  have h1 : (n : Int) ≤ 80 := by omega
  have HD : Hid (∀ W, Row1 byV W W.heap.size A n l → Calls Tryd.prog 28 #[.slice A n c] W (RetPost (.tuple #[sV S, .int .i64 0]) W.heap.size W)) := Lib.hid (fun W h => by have := decode_any A n c W l (by omega) h; rw [hD] at this; exact this)
  have HR : Hid (∀ W, Row1 byV W W.heap.size A n l → Calls Tryd.prog 29 #[.slice A n c] W (ListPair (memI S, 0) W)) := Lib.hid (fun W h => by have := decodeR_any A n c W l (by omega) h; rw [hR] at this; exact this)
  have HIS : Hid (∀ A' n' c' W, Tab W → Row1 intV W W.heap.size A' n' (memI S) → Calls Tryd.prog 17 #[sV S, .slice A' n' c'] W (RetPost (.bool true) W.heap.size W)) := Lib.hid (fun A' n' c' W h1 h2 => is_any S A' n' c' W hF h1 h2)
  have HEN := Lib.hid (fun W h => encN_any S W hF h)
  rw [hE] at HEN
  unfold sV at HD HIS HEN
  have R0 := Lib.hid hl
  clear hT hn hl hD hR hF hE
  go_enter Tryd.func7, Tryd.ntmps7
  go_wp2_with fail
  have B0 : Hid (Below w.heap.size w w) := Lib.hid (Below.refl _ _)
  refine (HD.out _ R0.out).mono ?_
  rintro e W1 ⟨rfl, hw1⟩
  have C1 := Lib.hid (B0.out.trans (hw1.mono B0.out.size))
  have R0' := Lib.hid (R0.out.keep hw1)
  clear hw1
  go_wp2_with fail
  obtain ⟨V1, hV1⟩ : ∃ V, V = W1.alloc (.cells (sL S).toArray 28) := ⟨_, rfl⟩
  have B1 : Hid (Below w.heap.size w V1) := Lib.hid (by rw [hV1]; exact C1.out.alloc (by have := C1.out.size; exact this) _)
  have hs1 : V1.heap.size = W1.heap.size + 1 := by rw [hV1]; simp
  replace R0 := Lib.hid (show Row1 _ V1 V1.heap.size _ _ _ by rw [hV1]; exact R0'.out.allocK _)
  clear R0'
  have X3 : Hid (Blk V1 W1.heap.size 28 (tabL 8 (sC S))) := Lib.hid (by rw [hV1, ← sL_tab]; exact blk_new _ _ _)
  unfold sL at hV1
  rw [← hV1]
  clear hV1 C1 hs1
  refine (HR.out _ R0.out).mono ?_
  rintro e W2 ⟨v5, rfl, hown5, hw2⟩
  have C2 := Lib.hid (B1.out.trans (hw2.mono B1.out.size))
  have X3' := Lib.hid (X3.out.keep hw2)
  have R0' := Lib.hid (R0.out.keep hw2)
  obtain ⟨A5, c5, rfl, hr5⟩ := row1_of_own hown5
  have R5' := Lib.hid hr5
  clear hown5 hr5
  clear hw2
  go_wp2_with fail
  obtain ⟨V2, hV2⟩ : ∃ V, V = W2.alloc (.cells (sL 0).toArray 28) := ⟨_, rfl⟩
  have B2 : Hid (Below w.heap.size w V2) := Lib.hid (by rw [hV2]; exact C2.out.alloc (by have := C2.out.size; exact this) _)
  have hs2 : V2.heap.size = W2.heap.size + 1 := by rw [hV2]; simp
  replace X3 := Lib.hid (show Blk V2 _ _ _ by rw [hV2]; exact X3'.out.alloc _)
  clear X3'
  replace R0 := Lib.hid (show Row1 _ V2 V2.heap.size _ _ _ by rw [hV2]; exact R0'.out.allocK _)
  clear R0'
  replace R5 := Lib.hid (show Row1 _ V2 V2.heap.size _ _ _ by rw [hV2]; exact R5'.out.allocK _)
  clear R5'
  have X7 : Hid (Blk V2 W2.heap.size 28 (tabL 8 (sC 0))) := Lib.hid (by rw [hV2, ← sL_tab]; exact blk_new _ _ _)
  rw [sL_zero] at hV2
  rw [← hV2]
  clear hV2 C2 hs2
  have D0 := Lib.hid (show Below w.heap.size w V2.drew from B2.out.drew)
  have Y3 := Lib.hid X3.out.drew
  have Q0 := Lib.hid R0.out.drewK
  have Q5 := Lib.hid R5.out.drewK
  go_wp2_with fail
  refine Lb.region (R := fun w w' => Below w.heap.size w w') keep_refl keep_trans (C := fun w' => (w'.cell? ⟨W1.heap.size, 0, none⟩ = some (.int .u64 (wd S 0)) ∧ w'.cell? ⟨W1.heap.size, 1, none⟩ = some (.int .u64 (wd S 1)) ∧ w'.cell? ⟨W1.heap.size, 2, none⟩ = some (.int .u64 (wd S 2)) ∧ w'.cell? ⟨W1.heap.size, 3, none⟩ = some (.int .u64 (wd S 3)) ∧ w'.cell? ⟨W1.heap.size, 4, none⟩ = some (.int .u64 (wd S 4)) ∧ w'.cell? ⟨W1.heap.size, 5, none⟩ = some (.int .u64 (wd S 5)) ∧ w'.cell? ⟨W1.heap.size, 6, none⟩ = some (.int .u64 (wd S 6)) ∧ w'.cell? ⟨W1.heap.size, 7, none⟩ = some (.int .u64 (wd S 7))) ∧ (convert 50 9 (.slice A n c)).run Tryd.prog w' = .ok (.string ⟨l.toArray⟩) w') (hs := [3, 8, 12, 2010]) (by kernel_rfl) (by kernel_rfl) (by exact ⟨Y3.out.eight, conv_row c Q0.out⟩) ?_
  repeat' (first
    | (refine Lb.lex_late (v := ?_) rfl (by first | exact Lx.w0 rfl | exact Lx.w1 rfl rfl rfl (by with_reducible rfl)) ?_ (fun K hK => ?_); rotate_left 1; (intro w' hRw; have hcv := conv_row c7 (E7.out.keep hRw); go_simp; first | done | with_reducible rfl); go_simp; refine hK _ ?_; clear hK K)
    | (refine Lb.lex_no (Lx.n1 rfl rfl rfl (by with_reducible rfl)) (fun K hK => ?_); go_simp; refine hK _ ?_; clear hK K)
    | (refine Lb.lex_no (Lx.n0 rfl rfl rfl (by with_reducible rfl)) (fun K hK => ?_); go_simp; refine hK _ ?_; clear hK K)
    | (refine Lb.lex_no (Lx.n2 rfl rfl rfl) (fun K hK => ?_); go_simp; refine hK _ ?_; clear hK K)
    | (refine Lb.lex_pure (v := ?_) rfl (by first | exact Lx.w0 rfl | exact Lx.w1 rfl rfl rfl (by with_reducible rfl)) ?_ (fun K hK => ?_); rotate_left 1; (intro w' hCw; (try dsimp only at hCw); go_simp; done); go_simp; refine hK _ ?_; clear hK K)
    | (refine Lb.lex_pure (v := ?_) rfl (by first | exact Lx.w0 rfl | exact Lx.w1 rfl rfl rfl (by with_reducible rfl)) ?_ (fun K hK => ?_); rotate_left 1; (intro w' hCw; (try dsimp only at hCw); go_simp; with_reducible rfl); go_simp; refine hK _ ?_; clear hK K)
    | (refine Lb.lex_read (v := ?_) rfl (by first | exact Lx.w0 rfl | exact Lx.w1 rfl rfl rfl (by with_reducible rfl)) ?_ (fun K hK => ?_); rotate_left 1; (go_simp; first | done | with_reducible rfl); go_simp; refine hK _ ?_; clear hK K)
    | (refine Lb.lex_eff rfl (by first | exact Lx.w0 rfl | exact Lx.w1 rfl rfl rfl (by with_reducible rfl)) (fun K hK => ?_); go_simp; (first | (go_at_call 17; refine (HIS.out _ _ _ _ (HT.out.keep D0.out) Q5.out).mono ?_; rintro e Z1 ⟨rfl, hw⟩; have D1 := Lib.hid (D0.out.trans (hw.mono D0.out.size)); replace Y3 := Lib.hid (Y3.out.keep hw); replace Q0 := Lib.hid (Q0.out.keep hw); replace Q5 := Lib.hid (Q5.out.keep hw); (try clear RK); have RK := Lib.hid hw; clear HIS; clear hw D0) | (go_at_call 26; refine (HEN.out _ (HT.out.keep D1.out)).mono ?_; rintro e Z2 ⟨A7, c7, rfl, hr7, hw⟩; have D2 := Lib.hid (D1.out.trans (hw.mono D1.out.size)); replace Y3 := Lib.hid (Y3.out.keep hw); replace Q0 := Lib.hid (Q0.out.keep hw); replace Q5 := Lib.hid (Q5.out.keep hw); (try clear RK); have RK := Lib.hid hw; clear HEN; have E7 := Lib.hid hr7; clear hr7; clear hw D1) | (go_at_call 12; refine (HK.out _ D2.out).mono ?_; rintro e Z3 ⟨rfl, hw⟩; have D3 := Lib.hid (D2.out.trans (hw.mono D2.out.size)); replace Y3 := Lib.hid (Y3.out.keep hw); replace Q0 := Lib.hid (Q0.out.keep hw); replace Q5 := Lib.hid (Q5.out.keep hw); (try clear RK); have RK := Lib.hid hw; clear hw D2) | skip); refine hK _ _ (by exact ⟨⟨Y3.out.eight, conv_row c Q0.out⟩, RK.out⟩) ?_; clear hK K)
    | (refine Lb.lex_cases rfl rfl rfl (fun hgd K hK => ?_) (fun hgd K hK => ?_) <;> (try simp only [decide_eq_true_eq, decide_eq_false_iff_not] at hgd) <;> (first | (exfalso; omega) | (go_simp; refine hK _ ?_; clear hK K))))
  all_goals (refine Lb.lex_nil ?_)
  go_wp2_with fail
  go_ret
  exact ⟨rfl, D3.out⟩

theorem bitsetDecodes_walk (w : World) (hT : Tab w) (A : Option Addr) (n c : Nat) (l : List UInt8) (h : Row1 byV w w.heap.size A n l ∧ n ≤ 9223372036854775807) : Calls Tryd.prog 7 #[.slice A n c] w fun e w' => e = .returned (.bool true) ∧ Below w.heap.size w w' := by
  have hl := h.1
  by_cases hn : n ≤ 80
  · by_cases h1 : 64 < l.length
    · exact decL_bad w hT A n c l 5 hn hl (by rw [decF, if_pos h1]) (by rw [decRF, if_pos h1]) (by decide)
    · by_cases h2 : l.getLast? = some 0
      · exact decL_bad w hT A n c l 6 hn hl (by rw [decF, if_neg h1, if_pos h2]) (by rw [decRF, if_neg h1, if_pos h2]) (by decide)
      · exact decL_main w hT A n c l (decGo 0 0 l) hn hl (by rw [decF, if_neg h1, if_neg h2]) (by rw [decRF, if_neg h1, if_neg h2]) (dec_fit l 0 0 fit_zero (by omega)) (enc_dec (by omega) h2)
  · exact decL_long w hT A n c (by omega)

set_option maxRecDepth 100000 in
theorem bitsetDecodes_lifted (os : Os) (started : os.Started) (H : Type) (enc : TypeId × Value → H) :
    ReturnsInHanded {} Tryd.checked os 7 .any (fun w args => (Rows.bitsetDecodesSpec.pre enc Tryd.prog Tryd.f7 [] false w args ∧ laidMetH Tryd.prog laid07 w) ∧ sizedMet enc Tryd.prog Tryd.f7 (OpenSpec.ofChange Rows.bitsetDecodesSpec) false w args) (Rows.bitsetDecodesSpec.post enc Tryd.prog Tryd.f7 false true false false) := by
  refine handed_laid (C := Tryd.checked) (laid := laid07) own started (by kernel_rfl) Tryd.func7
    (ChangeSpec.witness_shaped (enc := enc) (C := Tryd.checked) (os := os) (X := fun w _ => laidMetH Tryd.prog laid07 w) false (World.laidAll Tryd.prog os laid07) #[.slice none 0 0] 8 (World.laidAll_os _ _ _) (World.shaped_of_ZipB (by kernel_rfl) (by kernel_rfl)) (by kernel_rfl) (by kernel_rfl) (by kernel_rfl) (laidHold os _)) ?_
  intro W base args ds gs before hval0 hW hL hsh
  have hTab := tab_of hL hsh
  have hval : ∀ (j : Nat) t v, Tryd.f7.params[j]? = some t → args[j]? = some v → Value.okWide Tryd.prog W .any base t v := hval0
  have hW' := hW
  obtain ⟨p, q, hA0, hV, rfl, hfz, hnd⟩ := hW
  have hA : DataW.TrodAll enc Tryd.prog W 0 (fun _ => true) true Tryd.f7.params.toList args.toList ds p := hA0
  rw [Tryd.params7] at hA hval
  obtain ⟨v0, vs0, d0, ds0, p0, q0, hargs, rfl, rfl, h0, r0⟩ := trodAll_cons hA
  obtain ⟨rfl, rfl, rfl⟩ := trodAll_nil r0
  obtain rfl : args = #[v0] := by cases args; simp_all
  obtain ⟨rfl, rfl⟩ := trodVars_none hV
  have k0 := h0
  have lt0 : ∀ x ∈ p0, x.block < W.heap.size := by obtain ⟨m, hm⟩ := k0; exact DataW.trod_lt m _ _ _ hm
  obtain ⟨A0, n0, c0, xs0, rfl, R0⟩ := arg_bytes (hval 0 50 _ rfl rfl) h0
  clear hA0 hval0
  refine (bitsetDecodes_walk W hTab A0 n0 c0 xs0 R0).mono fun e W' ⟨he, bel⟩ => ?_
  subst he
  exact ⟨_, rfl, _, _, _, [], _, [], hW', trodAll_mk1 (shut_bool Tryd.underlying4 _), (trodAll_cons_mk (Below.trod laidOut (by kernel_rfl) (of_decide_eq_true (by kernel_rfl)) k0 bel lt0) trodAll_mk0), rfl, bel.frame _, fun h => by cases h⟩

theorem bitsetDecodes_over : Rows.bitsetDecodesRow.holds Tryd.pinned (OpenSpec.ofChange Rows.bitsetDecodesSpec) :=
  OpenClaim.holds_of_wide 7 Tryd.f7 rfl rfl rfl rfl rfl rfl rfl ⟨rfl, rfl, rfl, rfl, rfl⟩ rfl rfl rfl rfl rfl (by kernel_rfl) Tryd.func7 (by kernel_rfl)
    (of_decide_eq_true (by kernel_rfl)) (by unfold Func.isWrapper; first | (rw [if_pos (by decide +kernel)]; kernel_rfl) | (rw [if_neg (by decide +kernel)]; exact ⟨rfl, rfl⟩))
    (fun os started H enc _ => bitsetDecodes_lifted os started H enc)

theorem bitsetDecodesCard_holds : Rows.BitsetDecodesCardSaid :=
  Claim7.holds_tied_plain_at .later [] [.data, .data, .data] true (true, "39aa42fe034a2cbedf78232cde6b0da1e7f2e4be5808576f250df2ef6185728f") false
    bitsetDecodes_over (fun _ h => by cases h) (by kernel_rfl) (fun _ h => by cases h) bitsetDecodes_row_tie rfl ⟨rfl, rfl⟩ (by kernel_rfl) rfl
    (fun f fn hf hfn => by
      obtain rfl : f = 7 := Option.some.inj ((show Tryd.prog.funcNamed "bandplan/bandplanlaw07.BitsetDecodes" = some 7 by kernel_rfl).symm.trans hf) |>.symm
      obtain rfl : fn = Tryd.f7 := (Option.some.inj (Tryd.func7.symm.trans hfn)).symm
      exact ⟨by kernel_rfl, fun j t ht => by
        rw [Tryd.params7] at ht
        rcases j with _ | j
        · obtain rfl : t = 50 := by simpa using ht.symm
          exact (show Tryd.prog.wantsStandIn 50 = false by kernel_rfl)
        · simp at ht⟩)
    (by kernel_rfl)
#print axioms bitsetDecodesCard_holds
end Go.Proofs.YtencbmgjdiillaaDoor
