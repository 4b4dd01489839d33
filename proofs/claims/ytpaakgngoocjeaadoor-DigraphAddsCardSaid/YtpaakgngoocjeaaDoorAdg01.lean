/- DigraphAdds: the errors of any arcs that are added, and what the graph is after each of them, are as the statement says, whatever the number of vertices and the arcs. -/
import Derived.Test.YtpaakgngoocjeaaDoorDig12
import Derived.Test.YtpaakgngoocjeaaDoorDig02
/- DigraphAdds: the errors of any arcs that are added, and what the graph is after each of them, are as the statement says, whatever the number of vertices and the arcs. -/
namespace Go.Proofs.YtpaakgngoocjeaaDoor
open Go.RowKit Go.ChangeShapes Go.WideShapes Go.ChangeAt Go.Deep Go.Joins

theorem z8lit {W : World} {g t : Nat} (h : Blk W g t (tabL 8 (sC 0))) : W.cell? ⟨g, 0, none⟩ = some (.int .u64 0) ∧ W.cell? ⟨g, 1, none⟩ = some (.int .u64 0) ∧ W.cell? ⟨g, 2, none⟩ = some (.int .u64 0) ∧ W.cell? ⟨g, 3, none⟩ = some (.int .u64 0) ∧
    W.cell? ⟨g, 4, none⟩ = some (.int .u64 0) ∧ W.cell? ⟨g, 5, none⟩ = some (.int .u64 0) ∧ W.cell? ⟨g, 6, none⟩ = some (.int .u64 0) ∧ W.cell? ⟨g, 7, none⟩ = some (.int .u64 0) := by
  have := h.eight
  simpa [wd_zero] using this

set_option maxRecDepth 100000 in
set_option maxHeartbeats 2000000 in
theorem digraphAdds_in (w : World) (hT : Tab w) (n : Nat) (Al : Option Addr) (m c : Nat) (l : List (Int × Int)) (hl : RowS 2 arcV w w.heap.size Al m l) (hn : n ≤ 512) (hm : m ≤ 30) :
    Calls Tryd.prog 3 #[.int .i64 n, .slice Al m c] w fun e w' => e = .returned (.bool true) ∧ Below w.heap.size w w' := by
  have HT := Lib.hid hT
  have HN := Lib.hid (gnew_any (n : Int) w)
  have HL := Lib.hid hl
  have hlen : l.length = m := hl.1
  have j0 : ¬ ((n : Int) < -2) := by omega
  have j1 : ¬ ((520 : Int) < (n : Int)) := by omega
  have j2 : ¬ ((30 : Int) < (m : Int)) := by omega
  have j3 : ¬ ((n : Int) < 0) := by omega
  have j4 : ¬ ((512 : Int) < (n : Int)) := by omega
  clear hl hT
  go_enter Tryd.func3, Tryd.ntmps3
  go_wp2_with fail
  refine HN.out.mono ?_
  rintro e W1 hN
  unfold GNew at hN
  rw [if_pos (by omega), Int.toNat_natCast] at hN
  obtain ⟨gb, rb, rfl, hG, hgb, hrb, hb⟩ := hN
  have hP1 : Hp w w W1 (bE gb rb n [] n [] (.slice none 0 0)) [] := by
    have h1 := ((Hp.start w).graph hb hG hgb hrb).nil 31 2
    rw [← graphOf_nil] at h1
    exact h1
  have HP1 := Lib.hid hP1
  clear hG hgb hrb hb hP1 HN
  go_wp2_with fail
  go_loopw [7, 8] (fun v i wr => ∃ k : Nat, k ≤ m ∧ i = .int .i64 k ∧ Hp w w wr (bE gb rb n [] n (buildK n l k) v) []) (fun _ i _ => m - (intOf i).toNat)
  case atStart => exact ⟨0, Nat.zero_le _, rfl, HP1.out⟩
  case round =>
    clear HP1
    obtain ⟨k, hk, rfl, hP⟩ := hrel
    have HP := Lib.hid hP
    obtain ⟨Ad, cd, rfl, hrow⟩ := bE_row hP
    have HKL := Lib.hid (buildK_len n l k)
    have HVA := Lib.hid (va_build n l k)
    have HVA2 := Lib.hid (va_build n l (k + 1))
    by_cases hlt : k < m
    · have i0 : (k : Int) < (m : Int) := by omega
      obtain ⟨p, hp⟩ : ∃ p, l[k]? = some p := ⟨_, List.getElem?_eq_getElem (by omega)⟩
      have HST := Eqn.mk (buildK_succ (n := n) hp)
      rw [HST.out] at HVA2
      obtain ⟨b, off, rfl, hbw, hcell⟩ := HL.out.2 (by omega)
      have HY : Hid (∀ W, Below w.heap.size w W → W.cell? ⟨b, off + k * 2, none⟩ = some (.int .i64 p.1) ∧ W.cell? ⟨b, off + k * 2 + 1, none⟩ = some (.int .i64 p.2) ∧ b < W.heap.size) := Lib.hid (fun W hW =>
        ⟨(hW.cell (p := ⟨b, off + k * 2, none⟩) hbw).trans (hcell k p hp 0 (by decide)), (hW.cell (p := ⟨b, off + k * 2 + 1, none⟩) hbw).trans (hcell k p hp 1 (by decide)), by have := hW.size; omega⟩)
      obtain ⟨y0, y1, y8⟩ := HY.out wr hP.below
      generalize buildK n l k = A at *
      have HRX := Lib.hid (radd_all n _ A Ad cd p.1 p.2 wr.drew (by have := HKL.out; omega) rfl (hrow.below (Below.refl _ _).drew))
      have HAL := Lib.hid (addA_len n A p.1 p.2)
      clear hP hrow hp hcell hbw
      generalize hAA : addA n A p.1 p.2 = A' at *
      generalize herr : errA n A p.1 p.2 = er at *
      have HAA := Lib.hid hAA
      have HER := Lib.hid herr
      clear hAA herr
      go_wp2_with fail
      refine Lx.region (C := fun _ => True) (hs := []) (by kernel_rfl) (by kernel_rfl) trivial ?_
      repeat' (first
        | (refine Lx.lex_no (Lx.n1 rfl rfl rfl (by with_reducible rfl)) (fun K hK => ?_); go_simp; refine hK _ ?_; clear hK K)
        | (refine Lx.lex_no (Lx.n0 rfl rfl rfl (by with_reducible rfl)) (fun K hK => ?_); go_simp; refine hK _ ?_; clear hK K)
        | (refine Lx.lex_no (Lx.n2 rfl rfl rfl) (fun K hK => ?_); go_simp; refine hK _ ?_; clear hK K)
        | (refine Lx.lex_pure (v := ?_) rfl (by first | exact Lx.w0 rfl | exact Lx.w1 rfl rfl rfl (by with_reducible rfl)) ?_ (fun K hK => ?_); rotate_left 1; (intro w' hCw; (try dsimp only at hCw); go_simp; done); go_simp; refine hK _ ?_; clear hK K)
        | (refine Lx.lex_pure (v := ?_) rfl (by first | exact Lx.w0 rfl | exact Lx.w1 rfl rfl rfl (by with_reducible rfl)) ?_ (fun K hK => ?_); rotate_left 1; (intro w' hCw; (try dsimp only at hCw); go_simp; with_reducible rfl); go_simp; refine hK _ ?_; clear hK K)
        | (refine Lx.lex_read (v := ?_) rfl (by first | exact Lx.w0 rfl | exact Lx.w1 rfl rfl rfl (by with_reducible rfl)) ?_ (fun K hK => ?_); rotate_left 1; (go_simp; done); go_simp; refine hK _ ?_; clear hK K)
        | (refine Lx.lex_read (v := ?_) rfl (by first | exact Lx.w0 rfl | exact Lx.w1 rfl rfl rfl (by with_reducible rfl)) ?_ (fun K hK => ?_); rotate_left 1; (go_simp; with_reducible rfl); go_simp; refine hK _ ?_; clear hK K)
        | (refine Lx.lex_eff rfl (by first | exact Lx.w0 rfl | exact Lx.w1 rfl rfl rfl (by with_reducible rfl)) (fun K hK => ?_); go_simp; (first | (go_at_call 13; refine HRX.out.mono ?_; rintro e w1 ⟨v', rfl, hb1, hcase⟩) | skip); refine hK _ _ (trivial) ?_; clear hK K)
        | (refine Lx.lex_cases rfl rfl rfl (fun hgd K hK => ?_) (fun hgd K hK => ?_) <;> (try simp only [decide_eq_true_eq, decide_eq_false_iff_not] at hgd) <;> (first | (exfalso; omega) | (go_simp; refine hK _ ?_; clear hK K))))
      all_goals (refine Lx.lex_nil ?_)
      have hP2 : Hp w w w1 (gE gb rb n [] (graphOf n A) (A.length : Int) ++ [.row v' 31 2 A'.length (flat 2 arcV A')]) [] := by
        rcases hcase with ⟨h1, h2⟩ | hown
        · rw [h1, h2]; exact HP.out.drew.keep hb1
        · exact (HP.out.drew.pushRow hb1 hown).sub (by unfold bE gE; simp)
      clear y0 y1 y8
      obtain ⟨y0, y1, y8⟩ := HY.out w1 hP2.below
      have HP2 := Lib.hid hP2
      have HGX := gadd_all n A p.1 p.2 w1.drew hn (by have := HKL.out; omega) (GAt.drew (hP2.gat 0 rfl rfl (graphOf_fit hn A) (by rw [graphOf_len]; exact hn)))
      rw [HAA.out, HER.out] at HGX
      replace HGX := Lib.hid HGX
      clear hP2 hcase hb1
      go_wp2_with fail
      refine Lx.region (C := fun _ => True) (hs := []) (by kernel_rfl) (by kernel_rfl) trivial ?_
      repeat' (first
        | (refine Lx.lex_no (Lx.n1 rfl rfl rfl (by with_reducible rfl)) (fun K hK => ?_); go_simp; refine hK _ ?_; clear hK K)
        | (refine Lx.lex_no (Lx.n0 rfl rfl rfl (by with_reducible rfl)) (fun K hK => ?_); go_simp; refine hK _ ?_; clear hK K)
        | (refine Lx.lex_no (Lx.n2 rfl rfl rfl) (fun K hK => ?_); go_simp; refine hK _ ?_; clear hK K)
        | (refine Lx.lex_pure (v := ?_) rfl (by first | exact Lx.w0 rfl | exact Lx.w1 rfl rfl rfl (by with_reducible rfl)) ?_ (fun K hK => ?_); rotate_left 1; (intro w' hCw; (try dsimp only at hCw); go_simp; done); go_simp; refine hK _ ?_; clear hK K)
        | (refine Lx.lex_pure (v := ?_) rfl (by first | exact Lx.w0 rfl | exact Lx.w1 rfl rfl rfl (by with_reducible rfl)) ?_ (fun K hK => ?_); rotate_left 1; (intro w' hCw; (try dsimp only at hCw); go_simp; with_reducible rfl); go_simp; refine hK _ ?_; clear hK K)
        | (refine Lx.lex_read (v := ?_) rfl (by first | exact Lx.w0 rfl | exact Lx.w1 rfl rfl rfl (by with_reducible rfl)) ?_ (fun K hK => ?_); rotate_left 1; (go_simp; done); go_simp; refine hK _ ?_; clear hK K)
        | (refine Lx.lex_read (v := ?_) rfl (by first | exact Lx.w0 rfl | exact Lx.w1 rfl rfl rfl (by with_reducible rfl)) ?_ (fun K hK => ?_); rotate_left 1; (go_simp; with_reducible rfl); go_simp; refine hK _ ?_; clear hK K)
        | (refine Lx.lex_eff rfl (by first | exact Lx.w0 rfl | exact Lx.w1 rfl rfl rfl (by with_reducible rfl)) (fun K hK => ?_); go_simp; (first | (go_at_call 14; refine HGX.out.mono ?_; rintro e w2 ⟨rfl, hG2, hk2⟩) | skip); refine hK _ _ (trivial) ?_; clear hK K)
        | (refine Lx.lex_cases rfl rfl rfl (fun hgd K hK => ?_) (fun hgd K hK => ?_) <;> (try simp only [decide_eq_true_eq, decide_eq_false_iff_not] at hgd) <;> (first | (exfalso; omega) | (go_simp; refine hK _ ?_; clear hK K))))
      all_goals (refine Lx.lex_nil ?_)
      have hP3 := bE_add HP2.out.drew hG2 hk2
      have HP3 := Lib.hid hP3
      obtain ⟨Ad3, cd3, rfl, hrow3⟩ := bE_row hP3
      have HGA := Lib.hid (fun W (hW : Below w2.heap.size w2 W) => (bE_gat hP3 hn).keep hW)
      have HRW := Lib.hid hrow3
      clear y0 y1 y8
      obtain ⟨y0, y1, y8⟩ := HY.out w2 hP3.below
      have HC : Hid (∀ W, Below w2.heap.size w2 W → W.cell? ⟨b, off + k * 2, none⟩ = some (.int .i64 p.1) ∧ W.cell? ⟨b, off + k * 2 + 1, none⟩ = some (.int .i64 p.2)) := Lib.hid (fun W hW => by
        have := HY.out W (hP3.below.trans (hW.mono hP3.below.size)); exact ⟨this.1, this.2.1⟩)
      have hA'l : A'.length ≤ 31 := by have h1 := HAL.out; have h2 := HKL.out; omega
      have HLn := glen_any w2.drew (HGA.out _ (Below.refl _ _).drew)
      rw [graphOf_len] at HLn
      replace HLn := Lib.hid HLn
      have HAr := Lib.hid (garcs_any w2.drew (HGA.out _ (Below.refl _ _).drew))
      have HHs := Lib.hid (fun a b W (hW : Below w2.heap.size w2 W) => (by have := ghasarc_any a b W (HGA.out W hW); rw [arcF_graph hn HVA2.out] at this; exact this : Calls Tryd.prog 17 #[.pointer (some ⟨gb, 0, none⟩), .int .i64 a, .int .i64 b] W (RetPost (.bool (hasA A' a b)) W.heap.size W)))
      have HRh := Lib.hid (fun a b W (hW : Below w2.heap.size w2 W) => rhas_any Ad3 A'.length cd3 a b W _ A' (by omega) (HRW.out.below hW))
      clear hG2 hk2 hP3 hrow3 HGX HRX HP2 HP
      generalize hh1 : hasA A' p.1 p.2 = t1 at *
      generalize hh2 : hasA A' p.2 p.1 = t2 at *
      have HT1 := Lib.hid hh1
      have HT2 := Lib.hid hh2
      clear hh1 hh2
      go_wp2_with fail
      refine Lx.region (C := fun W => W.cell? ⟨b, off + k * 2, none⟩ = some (.int .i64 p.1) ∧ W.cell? ⟨b, off + k * 2 + 1, none⟩ = some (.int .i64 p.2)) (hs := [17, 22, 29, 34, 44, 49, 56, 61]) (by kernel_rfl) (by kernel_rfl) ⟨y0, y1⟩ ?_
      have hcur : Below w2.heap.size w2 w2.drew := (Below.refl _ _).drew
      have hm1 : True := trivial
      have hm2 : True := trivial
      repeat' (first
        | (refine Lx.lex_no (Lx.n1 rfl rfl rfl (by with_reducible rfl)) (fun K hK => ?_); go_simp; skip; refine hK _ ?_; clear hK K)
        | (refine Lx.lex_no (Lx.n0 rfl rfl rfl (by with_reducible rfl)) (fun K hK => ?_); go_simp; skip; refine hK _ ?_; clear hK K)
        | (refine Lx.lex_no (Lx.n2 rfl rfl rfl) (fun K hK => ?_); go_simp; skip; refine hK _ ?_; clear hK K)
        | (refine Lx.lex_pure (v := ?_) rfl (by first | exact Lx.w0 rfl | exact Lx.w1 rfl rfl rfl (by with_reducible rfl)) ?_ (fun K hK => ?_); rotate_left 1; (intro w' hCw; (try dsimp only at hCw); go_simp; first | done | with_reducible rfl); go_simp; skip; refine hK _ ?_; clear hK K)
        | (refine Lx.lex_read (v := ?_) rfl (by first | exact Lx.w0 rfl | exact Lx.w1 rfl rfl rfl (by with_reducible rfl)) ?_ (fun K hK => ?_); rotate_left 1; (go_simp; first | done | with_reducible rfl); go_simp; skip; refine hK _ ?_; clear hK K)
        | (refine Lx.lex_eff rfl (by first | exact Lx.w0 rfl | exact Lx.w1 rfl rfl rfl (by with_reducible rfl)) (fun K hK => ?_); go_simp; (first | (go_at_call 15; refine HLn.out.mono ?_; rintro e w3 ⟨rfl, rfl⟩) | (go_at_call 16; refine HAr.out.mono ?_; rintro e w4 ⟨rfl, rfl⟩) | (go_at_call 17; first | (clear hm1; refine (HHs.out p.1 p.2 _ hcur).mono ?_; rw [HT1.out]; rintro e X ⟨rfl, hbX⟩; have hcur2 := hcur.trans (hbX.mono hcur.size); clear hcur hbX y0 y1; have hcur := hcur2; clear hcur2; obtain ⟨y0, y1⟩ := HC.out _ hcur) | (refine (HHs.out p.2 p.1 _ hcur).mono ?_; rw [HT2.out]; rintro e X ⟨rfl, hbX⟩; have hcur2 := hcur.trans (hbX.mono hcur.size); clear hcur hbX y0 y1; have hcur := hcur2; clear hcur2; obtain ⟨y0, y1⟩ := HC.out _ hcur)) | (go_at_call 18; first | (clear hm2; refine (HRh.out p.1 p.2 _ hcur).mono ?_; rw [HT1.out]; rintro e X ⟨rfl, rfl⟩) | (refine (HRh.out p.2 p.1 _ hcur).mono ?_; rw [HT2.out]; rintro e X ⟨rfl, rfl⟩)) | skip); refine hK _ _ (by exact ⟨y0, y1⟩) ?_; clear hK K))
      all_goals (refine Lx.lex_nil ?_)
      have HCUR := Lib.hid hcur
      have HP4 := Lib.hid (HP3.out.keep HCUR.out)
      clear hcur y0 y1 y8 HC HGA HRW HHs HRh HLn HAr HP3 HCUR
      go_wp2_with fail
      go_loopw [11] (fun i wr => ∃ q : Nat, q ≤ 2 ∧ i = .int .i64 q ∧ Hp w w wr (bE gb rb n [] n A' (.slice Ad3 A'.length cd3)) []) (fun i _ => 2 - (intOf i).toNat)
      case atStart => exact ⟨0, by omega, rfl, HP4.out⟩
      case round =>
        clear HP4
        obtain ⟨q, hq, rfl, hPB⟩ := hrel
        have HPB := Lib.hid hPB
        have HGB := Lib.hid (fun W (hW : Below wr.heap.size wr W) => (bE_gat hPB hn).keep hW)
        have HRB := Lib.hid (fun W (hW : Below wr.heap.size wr W) => (by obtain ⟨A0, c0, e0, hr0⟩ := bE_row (hPB.keep hW); injection e0 with e1 _ _; subst e1; exact hr0 : RowS 2 arcV W W.heap.size Ad3 A'.length A'))
        obtain ⟨y0, y1, y8⟩ := HY.out wr hPB.below
        by_cases hq2 : q < 2
        · rcases (show q = 0 ∨ q = 1 by omega) with h | h
          · subst h
            go_wp2_with fail
            refine Lx.region (C := fun _ => True) (hs := []) (by kernel_rfl) (by kernel_rfl) trivial ?_
            repeat' (first
              | (refine Lx.lex_no (Lx.n1 rfl rfl rfl (by with_reducible rfl)) (fun K hK => ?_); go_simp; refine hK _ ?_; clear hK K)
              | (refine Lx.lex_no (Lx.n0 rfl rfl rfl (by with_reducible rfl)) (fun K hK => ?_); go_simp; refine hK _ ?_; clear hK K)
              | (refine Lx.lex_no (Lx.n2 rfl rfl rfl) (fun K hK => ?_); go_simp; refine hK _ ?_; clear hK K)
              | (refine Lx.lex_pure (v := ?_) rfl (by first | exact Lx.w0 rfl | exact Lx.w1 rfl rfl rfl (by with_reducible rfl)) ?_ (fun K hK => ?_); rotate_left 1; (intro w' hCw; (try dsimp only at hCw); go_simp; done); go_simp; refine hK _ ?_; clear hK K)
              | (refine Lx.lex_pure (v := ?_) rfl (by first | exact Lx.w0 rfl | exact Lx.w1 rfl rfl rfl (by with_reducible rfl)) ?_ (fun K hK => ?_); rotate_left 1; (intro w' hCw; (try dsimp only at hCw); go_simp; with_reducible rfl); go_simp; refine hK _ ?_; clear hK K)
              | (refine Lx.lex_read (v := ?_) rfl (by first | exact Lx.w0 rfl | exact Lx.w1 rfl rfl rfl (by with_reducible rfl)) ?_ (fun K hK => ?_); rotate_left 1; (go_simp; done); go_simp; refine hK _ ?_; clear hK K)
              | (refine Lx.lex_read (v := ?_) rfl (by first | exact Lx.w0 rfl | exact Lx.w1 rfl rfl rfl (by with_reducible rfl)) ?_ (fun K hK => ?_); rotate_left 1; (go_simp; with_reducible rfl); go_simp; refine hK _ ?_; clear hK K)
              | (refine Lx.lex_eff rfl (by first | exact Lx.w0 rfl | exact Lx.w1 rfl rfl rfl (by with_reducible rfl)) (fun K hK => ?_); go_simp; (first | skip | skip); refine hK _ _ (trivial) ?_; clear hK K)
              | (refine Lx.lex_cases rfl rfl rfl (fun hgd K hK => ?_) (fun hgd K hK => ?_) <;> (try simp only [decide_eq_true_eq, decide_eq_false_iff_not] at hgd) <;> (first | (exfalso; omega) | (go_simp; refine hK _ ?_; clear hK K))))
            all_goals (refine Lx.lex_nil ?_)
            obtain ⟨Wb, hWb⟩ : ∃ Wb, Wb = (wr.alloc (.cells #[.int .i64 p.1, .int .i64 p.2] 3)).drew := ⟨_, rfl⟩
            have hBb : Below wr.heap.size wr Wb := by rw [hWb]; exact ((Below.refl _ wr).alloc (Nat.le_refl _) _).drew
            have HBB := Lib.hid (HPB.out.below.trans (hBb.mono HPB.out.below.size))
            rw [← hWb]
            clear hWb hPB y0 y1 y8
            by_cases hr : 0 ≤ p.1 ∧ p.1 < (n : Int)
            · obtain ⟨vn, hvn⟩ : ∃ vn : Nat, p.1 = (vn : Int) := ⟨p.1.toNat, by omega⟩
              have hvn' : vn < n := by omega
              have k0 : ¬ (p.1 < 0) := by omega
              have k1 : ¬ ((n : Int) ≤ p.1) := by omega
              have HVN := Lib.hid hvn
              clear hvn
              have HNX := gnext_any vn _ Wb (HGB.out Wb hBb) (graphOf_at hvn')
              rw [← HVN.out] at HNX
              have HXE : Hid (memI (rowOf n A' vn) = nextL A' p.1 n) := Lib.hid (by rw [HVN.out]; exact memI_rowOf hn A' vn)
              have HXF := Lib.hid (graphOf_fit hn A' _ (List.mem_of_getElem? (graphOf_at (A := A') hvn')))
              generalize rowOf n A' vn = x at *
              unfold sV at HNX
              replace HNX := Lib.hid HNX
              clear hr
              go_wp2_with fail
              refine HNX.out.mono ?_
              rintro e W1 ⟨rfl, hb1⟩
              obtain ⟨V1, hV1⟩ : ∃ V1, V1 = W1.alloc (.cells (sL x).toArray 40) := ⟨_, rfl⟩
              have hQ1 := ((Hp.start Wb).keep hb1).allocS x 40
              rw [← hV1] at hQ1
              have HQ1 := Lib.hid hQ1
              have HRX := greachable_any vn V1 (HT.out.keep (HBB.out.trans (hQ1.below.mono HBB.out.size))) (HGB.out V1 (hBb.trans (hQ1.below.mono hBb.size))) (graphOf_in n A') (by rw [graphOf_len]; exact hvn')
              rw [← HVN.out] at HRX
              have HRF := Lib.hid (reachM_fit (graphOf n A') vn)
              have HRT : Hid (hasS (reachM (graphOf n A') vn) p.1 = true) := Lib.hid (by rw [HVN.out, hasS_nat (by omega), reachM_tb]; exact ⟨by omega, .refl⟩)
              generalize reachM (graphOf n A') vn = rx at *
              unfold sV at HRX
              replace HRX := Lib.hid HRX
              unfold sL at hV1
              clear hb1 hQ1 HNX
              go_wp2_with fail
              rw [← hV1]
              clear hV1
              refine HRX.out.mono ?_
              rintro e W2 ⟨rfl, hb2⟩
              obtain ⟨V2, hV2⟩ : ∃ V2, V2 = (W2.alloc (.cells (sL rx).toArray 40)).alloc (.cells (sL 0).toArray 40) := ⟨_, rfl⟩
              have hQ2 := ((HQ1.out.keep hb2).allocS rx 40).allocS 0 40
              rw [← hV2, World.size_alloc] at hQ2
              have HQ2 := Lib.hid hQ2
              rw [sL_zero] at hV2
              unfold sL at hV2
              obtain ⟨c0_0, c0_1, c0_2, c0_3, c0_4, c0_5, c0_6, c0_7⟩ := (hQ2.blk 0 rfl).eight; have f0 := hQ2.f 0 rfl; have l0 := hQ2.lt 0 rfl; obtain ⟨c1_0, c1_1, c1_2, c1_3, c1_4, c1_5, c1_6, c1_7⟩ := (hQ2.blk 1 rfl).eight; have f1 := hQ2.f 1 rfl; have l1 := hQ2.lt 1 rfl
              have HB2 := Lib.hid (HBB.out.trans (hQ2.below.mono HBB.out.size))
              clear hb2 hQ2 HRX HQ1
              go_upto_region 25 with fail
              rw [← hV2]
              clear hV2
              generalize W1.heap.size = p13 at *
              generalize W2.heap.size = p15 at *
              have HLI := list_any x V2 HXF.out (HT.out.keep HB2.out)
              unfold sV at HLI
              replace HLI := Lib.hid HLI
              go_wp2_with fail
              refine HLI.out.mono ?_
              rintro e W3 ⟨v3, rfl, hown3, hb3⟩
              obtain ⟨A3, c3', rfl, hr3⟩ := row1_of_own hown3
              have HQ3 := Lib.hid (HQ2.out.keep hb3)
              have HB3 := Lib.hid (HB2.out.trans (hb3.mono HB2.out.size))
              have HRN := Lib.hid (rnext_any n Ad3 A'.length cd3 p.1 W3 A' (by omega) (by omega) ((HRB.out W3 (hBb.trans (HQ3.out.below.mono hBb.size)))))
              have HR3 := Lib.hid hr3
              have hml : (memI x).length ≤ 100000 := by rw [HXE.out]; have := nextL_len A' p.1 n; omega
              clear hb3 hown3 hr3 HLI c0_0 c0_1 c0_2 c0_3 c0_4 c0_5 c0_6 c0_7 f0 l0 c1_0 c1_1 c1_2 c1_3 c1_4 c1_5 c1_6 c1_7 f1 l1
              go_wp2_with fail
              refine HRN.out.mono ?_
              rintro e W4 ⟨v4, rfl, hown4, hb4⟩
              obtain ⟨A4, c4', rfl, hr4⟩ := row1_of_own hown4
              have HQ4 := Lib.hid (HQ3.out.keep hb4)
              have HEQ := equal_any A3 A4 (memI x).length c3' _ c4' W4 W4.heap.size (memI x) (nextL A' p.1 n) hml ((HR3.out.below hb4).up hb4.size) hr4
              rw [HXE.out, sameL_refl] at HEQ
              rw [← HXE.out] at HEQ
              replace HEQ := Lib.hid HEQ
              clear hb4 hown4 hr4 HRN HR3
              rw [← HXE.out]
              go_wp2_with fail
              refine HEQ.out.mono ?_
              rintro e W5 ⟨rfl, hb5⟩
              have hQ5 := HQ4.out.keep hb5
              have HQ5 := Lib.hid hQ5
              obtain ⟨c1_0, c1_1, c1_2, c1_3, c1_4, c1_5, c1_6, c1_7⟩ := (hQ5.blk 1 rfl).eight; have f1 := hQ5.f 1 rfl; have l1 := hQ5.lt 1 rfl
              have HHX := has_any rx p.1 W5
              rw [HRT.out] at HHX
              unfold sV at HHX
              replace HHX := Lib.hid HHX
              clear hb5 hQ5 HQ4 HEQ
              go_wp2_with fail
              refine HHX.out.mono ?_
              rintro e W6 ⟨rfl, hb6⟩
              have HQ6 := Lib.hid (HQ5.out.keep hb6)
              clear hb6 c1_0 c1_1 c1_2 c1_3 c1_4 c1_5 c1_6 c1_7 f1 l1
              go_wp2_with fail
              go_roundw
              case rel => exact ⟨1, by omega, by go_num, HPB.out.keep (hBb.trans (HQ6.out.below.mono hBb.size))⟩
              case measure => simp [intOf]
            · have HNX := gnext_out p.1 Wb (HGB.out Wb hBb) (by rw [graphOf_len]; exact hr)
              have HRO : Hid (¬ (0 ≤ p.1 ∧ p.1 < ((graphOf n A').length : Int))) := Lib.hid (by rw [graphOf_len]; exact hr)
              have hze := fun W => set_neq W 0 0 fit_zero fit_zero
              rw [sV_zero] at HNX hze
              simp only [decide_true, Bool.not_true] at hze
              replace HNX := Lib.hid HNX
              by_cases hv0 : p.1 < 0
              · have k0 : p.1 < 0 := hv0
                clear hr hv0
                go_wp2_with fail
                refine HNX.out.mono ?_
                rintro e W1 ⟨rfl, hb1⟩
                obtain ⟨V1, hV1⟩ : ∃ V1, V1 = W1.alloc (.cells (sL 0).toArray 40) := ⟨_, rfl⟩
                have hQ1 := ((Hp.start Wb).keep hb1).allocS 0 40
                rw [← hV1] at hQ1
                have HQ1 := Lib.hid hQ1
                have HRX := greachable_out p.1 V1 (HGB.out V1 (hBb.trans (hQ1.below.mono hBb.size))) HRO.out
                rw [sV_zero] at HRX
                replace HRX := Lib.hid HRX
                rw [sL_zero] at hV1
                clear hb1 hQ1 HNX
                go_wp2_with fail
                rw [← hV1]
                clear hV1
                refine HRX.out.mono ?_
                rintro e W2 ⟨rfl, hb2⟩
                obtain ⟨V2, hV2⟩ : ∃ V2, V2 = (W2.alloc (.cells (sL 0).toArray 40)).alloc (.cells (sL 0).toArray 40) := ⟨_, rfl⟩
                have hQ2 := ((HQ1.out.keep hb2).allocS 0 40).allocS 0 40
                rw [← hV2, World.size_alloc] at hQ2
                have HQ2 := Lib.hid hQ2
                rw [sL_zero] at hV2
                obtain ⟨q00, q01, q02, q03, q04, q05, q06, q07⟩ := z8lit (hQ2.blk 0 rfl)
                obtain ⟨q10, q11, q12, q13, q14, q15, q16, q17⟩ := z8lit (hQ2.blk 1 rfl)
                obtain ⟨q20, q21, q22, q23, q24, q25, q26, q27⟩ := z8lit (hQ2.blk 2 rfl)
                have l0 := hQ2.lt 0 rfl; have l1 := hQ2.lt 1 rfl; have l2 := hQ2.lt 2 rfl
                clear hb2 hQ2 HRX HQ1
                go_upto_region 25 with fail
                rw [← hV2]
                clear hV2
                generalize W1.heap.size = p13 at *
                generalize W2.heap.size = p15 at *
                go_wp2_with fail
                go_roundw
                case rel => exact ⟨1, by omega, by go_num, HPB.out.keep (hBb.trans (HQ2.out.below.mono hBb.size))⟩
                case measure => simp [intOf]
              · have k0 : ¬ p.1 < 0 := hv0
                have k1 : (n : Int) ≤ p.1 := by omega
                clear hr hv0
                go_wp2_with fail
                refine HNX.out.mono ?_
                rintro e W1 ⟨rfl, hb1⟩
                obtain ⟨V1, hV1⟩ : ∃ V1, V1 = W1.alloc (.cells (sL 0).toArray 40) := ⟨_, rfl⟩
                have hQ1 := ((Hp.start Wb).keep hb1).allocS 0 40
                rw [← hV1] at hQ1
                have HQ1 := Lib.hid hQ1
                have HRX := greachable_out p.1 V1 (HGB.out V1 (hBb.trans (hQ1.below.mono hBb.size))) HRO.out
                rw [sV_zero] at HRX
                replace HRX := Lib.hid HRX
                rw [sL_zero] at hV1
                clear hb1 hQ1 HNX
                go_wp2_with fail
                rw [← hV1]
                clear hV1
                refine HRX.out.mono ?_
                rintro e W2 ⟨rfl, hb2⟩
                obtain ⟨V2, hV2⟩ : ∃ V2, V2 = (W2.alloc (.cells (sL 0).toArray 40)).alloc (.cells (sL 0).toArray 40) := ⟨_, rfl⟩
                have hQ2 := ((HQ1.out.keep hb2).allocS 0 40).allocS 0 40
                rw [← hV2, World.size_alloc] at hQ2
                have HQ2 := Lib.hid hQ2
                rw [sL_zero] at hV2
                obtain ⟨q00, q01, q02, q03, q04, q05, q06, q07⟩ := z8lit (hQ2.blk 0 rfl)
                obtain ⟨q10, q11, q12, q13, q14, q15, q16, q17⟩ := z8lit (hQ2.blk 1 rfl)
                obtain ⟨q20, q21, q22, q23, q24, q25, q26, q27⟩ := z8lit (hQ2.blk 2 rfl)
                have l0 := hQ2.lt 0 rfl; have l1 := hQ2.lt 1 rfl; have l2 := hQ2.lt 2 rfl
                clear hb2 hQ2 HRX HQ1
                go_upto_region 25 with fail
                rw [← hV2]
                clear hV2
                generalize W1.heap.size = p13 at *
                generalize W2.heap.size = p15 at *
                go_wp2_with fail
                go_roundw
                case rel => exact ⟨1, by omega, by go_num, HPB.out.keep (hBb.trans (HQ2.out.below.mono hBb.size))⟩
                case measure => simp [intOf]
          · subst h
            go_wp2_with fail
            refine Lx.region (C := fun _ => True) (hs := []) (by kernel_rfl) (by kernel_rfl) trivial ?_
            repeat' (first
              | (refine Lx.lex_no (Lx.n1 rfl rfl rfl (by with_reducible rfl)) (fun K hK => ?_); go_simp; refine hK _ ?_; clear hK K)
              | (refine Lx.lex_no (Lx.n0 rfl rfl rfl (by with_reducible rfl)) (fun K hK => ?_); go_simp; refine hK _ ?_; clear hK K)
              | (refine Lx.lex_no (Lx.n2 rfl rfl rfl) (fun K hK => ?_); go_simp; refine hK _ ?_; clear hK K)
              | (refine Lx.lex_pure (v := ?_) rfl (by first | exact Lx.w0 rfl | exact Lx.w1 rfl rfl rfl (by with_reducible rfl)) ?_ (fun K hK => ?_); rotate_left 1; (intro w' hCw; (try dsimp only at hCw); go_simp; done); go_simp; refine hK _ ?_; clear hK K)
              | (refine Lx.lex_pure (v := ?_) rfl (by first | exact Lx.w0 rfl | exact Lx.w1 rfl rfl rfl (by with_reducible rfl)) ?_ (fun K hK => ?_); rotate_left 1; (intro w' hCw; (try dsimp only at hCw); go_simp; with_reducible rfl); go_simp; refine hK _ ?_; clear hK K)
              | (refine Lx.lex_read (v := ?_) rfl (by first | exact Lx.w0 rfl | exact Lx.w1 rfl rfl rfl (by with_reducible rfl)) ?_ (fun K hK => ?_); rotate_left 1; (go_simp; done); go_simp; refine hK _ ?_; clear hK K)
              | (refine Lx.lex_read (v := ?_) rfl (by first | exact Lx.w0 rfl | exact Lx.w1 rfl rfl rfl (by with_reducible rfl)) ?_ (fun K hK => ?_); rotate_left 1; (go_simp; with_reducible rfl); go_simp; refine hK _ ?_; clear hK K)
              | (refine Lx.lex_eff rfl (by first | exact Lx.w0 rfl | exact Lx.w1 rfl rfl rfl (by with_reducible rfl)) (fun K hK => ?_); go_simp; (first | skip | skip); refine hK _ _ (trivial) ?_; clear hK K)
              | (refine Lx.lex_cases rfl rfl rfl (fun hgd K hK => ?_) (fun hgd K hK => ?_) <;> (try simp only [decide_eq_true_eq, decide_eq_false_iff_not] at hgd) <;> (first | (exfalso; omega) | (go_simp; refine hK _ ?_; clear hK K))))
            all_goals (refine Lx.lex_nil ?_)
            obtain ⟨Wb, hWb⟩ : ∃ Wb, Wb = (wr.alloc (.cells #[.int .i64 p.1, .int .i64 p.2] 3)).drew := ⟨_, rfl⟩
            have hBb : Below wr.heap.size wr Wb := by rw [hWb]; exact ((Below.refl _ wr).alloc (Nat.le_refl _) _).drew
            have HBB := Lib.hid (HPB.out.below.trans (hBb.mono HPB.out.below.size))
            rw [← hWb]
            clear hWb hPB y0 y1 y8
            by_cases hr : 0 ≤ p.2 ∧ p.2 < (n : Int)
            · obtain ⟨vn, hvn⟩ : ∃ vn : Nat, p.2 = (vn : Int) := ⟨p.2.toNat, by omega⟩
              have hvn' : vn < n := by omega
              have k0 : ¬ (p.2 < 0) := by omega
              have k1 : ¬ ((n : Int) ≤ p.2) := by omega
              have HVN := Lib.hid hvn
              clear hvn
              have HNX := gnext_any vn _ Wb (HGB.out Wb hBb) (graphOf_at hvn')
              rw [← HVN.out] at HNX
              have HXE : Hid (memI (rowOf n A' vn) = nextL A' p.2 n) := Lib.hid (by rw [HVN.out]; exact memI_rowOf hn A' vn)
              have HXF := Lib.hid (graphOf_fit hn A' _ (List.mem_of_getElem? (graphOf_at (A := A') hvn')))
              generalize rowOf n A' vn = x at *
              unfold sV at HNX
              replace HNX := Lib.hid HNX
              clear hr
              go_wp2_with fail
              refine HNX.out.mono ?_
              rintro e W1 ⟨rfl, hb1⟩
              obtain ⟨V1, hV1⟩ : ∃ V1, V1 = W1.alloc (.cells (sL x).toArray 40) := ⟨_, rfl⟩
              have hQ1 := ((Hp.start Wb).keep hb1).allocS x 40
              rw [← hV1] at hQ1
              have HQ1 := Lib.hid hQ1
              have HRX := greachable_any vn V1 (HT.out.keep (HBB.out.trans (hQ1.below.mono HBB.out.size))) (HGB.out V1 (hBb.trans (hQ1.below.mono hBb.size))) (graphOf_in n A') (by rw [graphOf_len]; exact hvn')
              rw [← HVN.out] at HRX
              have HRF := Lib.hid (reachM_fit (graphOf n A') vn)
              have HRT : Hid (hasS (reachM (graphOf n A') vn) p.2 = true) := Lib.hid (by rw [HVN.out, hasS_nat (by omega), reachM_tb]; exact ⟨by omega, .refl⟩)
              generalize reachM (graphOf n A') vn = rx at *
              unfold sV at HRX
              replace HRX := Lib.hid HRX
              unfold sL at hV1
              clear hb1 hQ1 HNX
              go_wp2_with fail
              rw [← hV1]
              clear hV1
              refine HRX.out.mono ?_
              rintro e W2 ⟨rfl, hb2⟩
              obtain ⟨V2, hV2⟩ : ∃ V2, V2 = (W2.alloc (.cells (sL rx).toArray 40)).alloc (.cells (sL 0).toArray 40) := ⟨_, rfl⟩
              have hQ2 := ((HQ1.out.keep hb2).allocS rx 40).allocS 0 40
              rw [← hV2, World.size_alloc] at hQ2
              have HQ2 := Lib.hid hQ2
              rw [sL_zero] at hV2
              unfold sL at hV2
              obtain ⟨c0_0, c0_1, c0_2, c0_3, c0_4, c0_5, c0_6, c0_7⟩ := (hQ2.blk 0 rfl).eight; have f0 := hQ2.f 0 rfl; have l0 := hQ2.lt 0 rfl; obtain ⟨c1_0, c1_1, c1_2, c1_3, c1_4, c1_5, c1_6, c1_7⟩ := (hQ2.blk 1 rfl).eight; have f1 := hQ2.f 1 rfl; have l1 := hQ2.lt 1 rfl
              have HB2 := Lib.hid (HBB.out.trans (hQ2.below.mono HBB.out.size))
              clear hb2 hQ2 HRX HQ1
              go_upto_region 25 with fail
              rw [← hV2]
              clear hV2
              generalize W1.heap.size = p13 at *
              generalize W2.heap.size = p15 at *
              have HLI := list_any x V2 HXF.out (HT.out.keep HB2.out)
              unfold sV at HLI
              replace HLI := Lib.hid HLI
              go_wp2_with fail
              refine HLI.out.mono ?_
              rintro e W3 ⟨v3, rfl, hown3, hb3⟩
              obtain ⟨A3, c3', rfl, hr3⟩ := row1_of_own hown3
              have HQ3 := Lib.hid (HQ2.out.keep hb3)
              have HB3 := Lib.hid (HB2.out.trans (hb3.mono HB2.out.size))
              have HRN := Lib.hid (rnext_any n Ad3 A'.length cd3 p.2 W3 A' (by omega) (by omega) ((HRB.out W3 (hBb.trans (HQ3.out.below.mono hBb.size)))))
              have HR3 := Lib.hid hr3
              have hml : (memI x).length ≤ 100000 := by rw [HXE.out]; have := nextL_len A' p.2 n; omega
              clear hb3 hown3 hr3 HLI c0_0 c0_1 c0_2 c0_3 c0_4 c0_5 c0_6 c0_7 f0 l0 c1_0 c1_1 c1_2 c1_3 c1_4 c1_5 c1_6 c1_7 f1 l1
              go_wp2_with fail
              refine HRN.out.mono ?_
              rintro e W4 ⟨v4, rfl, hown4, hb4⟩
              obtain ⟨A4, c4', rfl, hr4⟩ := row1_of_own hown4
              have HQ4 := Lib.hid (HQ3.out.keep hb4)
              have HEQ := equal_any A3 A4 (memI x).length c3' _ c4' W4 W4.heap.size (memI x) (nextL A' p.2 n) hml ((HR3.out.below hb4).up hb4.size) hr4
              rw [HXE.out, sameL_refl] at HEQ
              rw [← HXE.out] at HEQ
              replace HEQ := Lib.hid HEQ
              clear hb4 hown4 hr4 HRN HR3
              rw [← HXE.out]
              go_wp2_with fail
              refine HEQ.out.mono ?_
              rintro e W5 ⟨rfl, hb5⟩
              have hQ5 := HQ4.out.keep hb5
              have HQ5 := Lib.hid hQ5
              obtain ⟨c1_0, c1_1, c1_2, c1_3, c1_4, c1_5, c1_6, c1_7⟩ := (hQ5.blk 1 rfl).eight; have f1 := hQ5.f 1 rfl; have l1 := hQ5.lt 1 rfl
              have HHX := has_any rx p.2 W5
              rw [HRT.out] at HHX
              unfold sV at HHX
              replace HHX := Lib.hid HHX
              clear hb5 hQ5 HQ4 HEQ
              go_wp2_with fail
              refine HHX.out.mono ?_
              rintro e W6 ⟨rfl, hb6⟩
              have HQ6 := Lib.hid (HQ5.out.keep hb6)
              clear hb6 c1_0 c1_1 c1_2 c1_3 c1_4 c1_5 c1_6 c1_7 f1 l1
              go_wp2_with fail
              go_roundw
              case rel => exact ⟨2, by omega, by go_num, HPB.out.keep (hBb.trans (HQ6.out.below.mono hBb.size))⟩
              case measure => simp [intOf]
            · have HNX := gnext_out p.2 Wb (HGB.out Wb hBb) (by rw [graphOf_len]; exact hr)
              have HRO : Hid (¬ (0 ≤ p.2 ∧ p.2 < ((graphOf n A').length : Int))) := Lib.hid (by rw [graphOf_len]; exact hr)
              have hze := fun W => set_neq W 0 0 fit_zero fit_zero
              rw [sV_zero] at HNX hze
              simp only [decide_true, Bool.not_true] at hze
              replace HNX := Lib.hid HNX
              by_cases hv0 : p.2 < 0
              · have k0 : p.2 < 0 := hv0
                clear hr hv0
                go_wp2_with fail
                refine HNX.out.mono ?_
                rintro e W1 ⟨rfl, hb1⟩
                obtain ⟨V1, hV1⟩ : ∃ V1, V1 = W1.alloc (.cells (sL 0).toArray 40) := ⟨_, rfl⟩
                have hQ1 := ((Hp.start Wb).keep hb1).allocS 0 40
                rw [← hV1] at hQ1
                have HQ1 := Lib.hid hQ1
                have HRX := greachable_out p.2 V1 (HGB.out V1 (hBb.trans (hQ1.below.mono hBb.size))) HRO.out
                rw [sV_zero] at HRX
                replace HRX := Lib.hid HRX
                rw [sL_zero] at hV1
                clear hb1 hQ1 HNX
                go_wp2_with fail
                rw [← hV1]
                clear hV1
                refine HRX.out.mono ?_
                rintro e W2 ⟨rfl, hb2⟩
                obtain ⟨V2, hV2⟩ : ∃ V2, V2 = (W2.alloc (.cells (sL 0).toArray 40)).alloc (.cells (sL 0).toArray 40) := ⟨_, rfl⟩
                have hQ2 := ((HQ1.out.keep hb2).allocS 0 40).allocS 0 40
                rw [← hV2, World.size_alloc] at hQ2
                have HQ2 := Lib.hid hQ2
                rw [sL_zero] at hV2
                obtain ⟨q00, q01, q02, q03, q04, q05, q06, q07⟩ := z8lit (hQ2.blk 0 rfl)
                obtain ⟨q10, q11, q12, q13, q14, q15, q16, q17⟩ := z8lit (hQ2.blk 1 rfl)
                obtain ⟨q20, q21, q22, q23, q24, q25, q26, q27⟩ := z8lit (hQ2.blk 2 rfl)
                have l0 := hQ2.lt 0 rfl; have l1 := hQ2.lt 1 rfl; have l2 := hQ2.lt 2 rfl
                clear hb2 hQ2 HRX HQ1
                go_upto_region 25 with fail
                rw [← hV2]
                clear hV2
                generalize W1.heap.size = p13 at *
                generalize W2.heap.size = p15 at *
                go_wp2_with fail
                go_roundw
                case rel => exact ⟨2, by omega, by go_num, HPB.out.keep (hBb.trans (HQ2.out.below.mono hBb.size))⟩
                case measure => simp [intOf]
              · have k0 : ¬ p.2 < 0 := hv0
                have k1 : (n : Int) ≤ p.2 := by omega
                clear hr hv0
                go_wp2_with fail
                refine HNX.out.mono ?_
                rintro e W1 ⟨rfl, hb1⟩
                obtain ⟨V1, hV1⟩ : ∃ V1, V1 = W1.alloc (.cells (sL 0).toArray 40) := ⟨_, rfl⟩
                have hQ1 := ((Hp.start Wb).keep hb1).allocS 0 40
                rw [← hV1] at hQ1
                have HQ1 := Lib.hid hQ1
                have HRX := greachable_out p.2 V1 (HGB.out V1 (hBb.trans (hQ1.below.mono hBb.size))) HRO.out
                rw [sV_zero] at HRX
                replace HRX := Lib.hid HRX
                rw [sL_zero] at hV1
                clear hb1 hQ1 HNX
                go_wp2_with fail
                rw [← hV1]
                clear hV1
                refine HRX.out.mono ?_
                rintro e W2 ⟨rfl, hb2⟩
                obtain ⟨V2, hV2⟩ : ∃ V2, V2 = (W2.alloc (.cells (sL 0).toArray 40)).alloc (.cells (sL 0).toArray 40) := ⟨_, rfl⟩
                have hQ2 := ((HQ1.out.keep hb2).allocS 0 40).allocS 0 40
                rw [← hV2, World.size_alloc] at hQ2
                have HQ2 := Lib.hid hQ2
                rw [sL_zero] at hV2
                obtain ⟨q00, q01, q02, q03, q04, q05, q06, q07⟩ := z8lit (hQ2.blk 0 rfl)
                obtain ⟨q10, q11, q12, q13, q14, q15, q16, q17⟩ := z8lit (hQ2.blk 1 rfl)
                obtain ⟨q20, q21, q22, q23, q24, q25, q26, q27⟩ := z8lit (hQ2.blk 2 rfl)
                have l0 := hQ2.lt 0 rfl; have l1 := hQ2.lt 1 rfl; have l2 := hQ2.lt 2 rfl
                clear hb2 hQ2 HRX HQ1
                go_upto_region 25 with fail
                rw [← hV2]
                clear hV2
                generalize W1.heap.size = p13 at *
                generalize W2.heap.size = p15 at *
                go_wp2_with fail
                go_roundw
                case rel => exact ⟨2, by omega, by go_num, HPB.out.keep (hBb.trans (HQ2.out.below.mono hBb.size))⟩
                case measure => simp [intOf]
        · have hq3 : q = 2 := by omega
          subst hq3
          clear hPB y0 y1 y8
          go_wp2_with fail
          go_roundw
          case rel => exact ⟨k + 1, hlt, by go_num, by rw [HST.out]; exact HPB.out⟩
          case measure => simp [intOf]; omega
    · obtain rfl : k = m := by omega
      have hG := bE_gat hP hn
      have HLn := glen_any wr hG
      rw [graphOf_len] at HLn
      replace HLn := Lib.hid HLn
      have HAr := Lib.hid (garcs_any wr hG)
      clear hP hrow hG
      generalize buildK n l k = A at *
      go_wp2_with fail
      refine HLn.out.mono ?_
      rintro e w3 ⟨rfl, rfl⟩
      go_wp2_with fail
      refine HAr.out.mono ?_
      rintro e w4 ⟨rfl, rfl⟩
      go_wp2_with fail
      refine (known_any _ (HT.out.keep HP.out.below)).mono ?_
      rintro e w5 ⟨rfl, hb5⟩
      have HB5 := Lib.hid (HP.out.below.trans (hb5.mono HP.out.below.size))
      clear hb5
      go_wp2_with fail
      go_ret
      exact ⟨rfl, HB5.out⟩
end Go.Proofs.YtpaakgngoocjeaaDoor

namespace Go.Proofs.YtpaakgngoocjeaaDoor
open Go.RowKit Go.ChangeShapes Go.WideShapes Go.ChangeAt Go.Deep Go.Joins

set_option maxRecDepth 100000 in
theorem digraphAdds_out (w : World) (hT : Tab w) (n : Int) (A : Option Addr) (m c : Nat) (h : ¬ (-2 ≤ n ∧ n ≤ 520 ∧ (m : Int) ≤ 30)) :
    Calls Tryd.prog 3 #[.int .i64 n, .slice A m c] w fun e w' => e = .returned (.bool true) ∧ Below w.heap.size w w' := by
  have HK := Lib.hid (known_any w hT)
  clear hT
  by_cases h0 : n < -2
  · clear h
    go_enter Tryd.func3, Tryd.ntmps3
    go_wp2_with fail
    refine HK.out.mono ?_
    rintro e W1 ⟨rfl, hb1⟩
    have HB1 := Lib.hid hb1
    clear hb1
    go_wp2_with fail
    go_ret
    exact ⟨rfl, HB1.out⟩
  · by_cases h1 : 520 < n
    · clear h
      go_enter Tryd.func3, Tryd.ntmps3
      go_wp2_with fail
      refine HK.out.mono ?_
      rintro e W1 ⟨rfl, hb1⟩
      have HB1 := Lib.hid hb1
      clear hb1
      go_wp2_with fail
      go_ret
      exact ⟨rfl, HB1.out⟩
    · have h2 : (30 : Int) < (m : Int) := by omega
      clear h
      go_enter Tryd.func3, Tryd.ntmps3
      go_wp2_with fail
      refine HK.out.mono ?_
      rintro e W1 ⟨rfl, hb1⟩
      have HB1 := Lib.hid hb1
      clear hb1
      go_wp2_with fail
      go_ret
      exact ⟨rfl, HB1.out⟩
set_option maxRecDepth 100000 in
theorem digraphAdds_no (w : World) (hT : Tab w) (n : Int) (A : Option Addr) (m c : Nat) (h0 : -2 ≤ n) (h1 : n ≤ 520) (h2 : (m : Int) ≤ 30) (h : ¬ (0 ≤ n ∧ n ≤ 512)) :
    Calls Tryd.prog 3 #[.int .i64 n, .slice A m c] w fun e w' => e = .returned (.bool true) ∧ Below w.heap.size w w' := by
  have HT := Lib.hid hT
  have HN := Lib.hid (gnew_any n w)
  have HH := Lib.hid h
  have j0 : ¬ (n < -2) := by omega
  have j1 : ¬ ((520 : Int) < n) := by omega
  have j2 : ¬ ((30 : Int) < (m : Int)) := by omega
  clear hT h0 h1 h2
  by_cases h3 : n < 0
  · clear h
    go_enter Tryd.func3, Tryd.ntmps3
    go_wp2_with fail
    refine HN.out.mono ?_
    rintro e W1 hN
    unfold GNew at hN
    rw [if_neg HH.out] at hN
    obtain ⟨rfl, rfl⟩ := hN
    have HB := Lib.hid (Below.refl w.heap.size w)
    go_wp2_with fail
    refine (known_any _ (HT.out.keep HB.out)).mono ?_
    rintro e W2 ⟨rfl, hb2⟩
    have HB2 := Lib.hid (HB.out.trans (hb2.mono HB.out.size))
    clear hb2
    go_wp2_with fail
    go_ret
    exact ⟨rfl, HB2.out⟩
  · have h4 : 512 < n := by omega
    clear h
    go_enter Tryd.func3, Tryd.ntmps3
    go_wp2_with fail
    refine HN.out.mono ?_
    rintro e W1 hN
    unfold GNew at hN
    rw [if_neg HH.out] at hN
    obtain ⟨rfl, rfl⟩ := hN
    have HB := Lib.hid (Below.refl w.heap.size w)
    go_wp2_with fail
    refine (known_any _ (HT.out.keep HB.out)).mono ?_
    rintro e W2 ⟨rfl, hb2⟩
    have HB2 := Lib.hid (HB.out.trans (hb2.mono HB.out.size))
    clear hb2
    go_wp2_with fail
    go_ret
    exact ⟨rfl, HB2.out⟩
theorem digraphAdds_walk (w : World) (hT : Tab w) (n : Int) (_ : I64 n) (A : Option Addr) (m c : Nat) (l : List (Int × Int)) (hl : RowS 2 arcV w w.heap.size A m l ∧ m ≤ 9223372036854775807) :
    Calls Tryd.prog 3 #[.int .i64 n, .slice A m c] w fun e w' => e = .returned (.bool true) ∧ Below w.heap.size w w' := by
  by_cases h : -2 ≤ n ∧ n ≤ 520 ∧ (m : Int) ≤ 30
  · by_cases h2 : 0 ≤ n ∧ n ≤ 512
    · obtain ⟨k, rfl⟩ : ∃ k : Nat, n = (k : Int) := ⟨n.toNat, by omega⟩
      exact digraphAdds_in w hT k A m c l hl.1 (by omega) (by omega)
    · exact digraphAdds_no w hT n A m c h.1 h.2.1 h.2.2 h2
  · exact digraphAdds_out w hT n A m c h

set_option maxRecDepth 100000 in
theorem digraphAdds_lifted (os : Os) (started : os.Started) (H : Type) (enc : TypeId × Value → H) :
    ReturnsInHanded {} Tryd.checked os 3 .any (fun w args => (Rows.digraphAddsSpec.pre enc Tryd.prog Tryd.f3 [] false w args ∧ laidMetH Tryd.prog laid07 w) ∧ sizedMet enc Tryd.prog Tryd.f3 (OpenSpec.ofChange Rows.digraphAddsSpec) false w args) (Rows.digraphAddsSpec.post enc Tryd.prog Tryd.f3 false true false false) := by
  refine handed_laid (C := Tryd.checked) (laid := laid07) own started (by kernel_rfl) Tryd.func3
    (ChangeSpec.witness_shaped (enc := enc) (C := Tryd.checked) (os := os) (X := fun w _ => laidMetH Tryd.prog laid07 w) false (World.laidAll Tryd.prog os laid07) #[.int .i64 0, .slice none 0 0] 8 (World.laidAll_os _ _ _) (World.shaped_of_ZipB (by kernel_rfl) (by kernel_rfl)) (by kernel_rfl) (by kernel_rfl) (by kernel_rfl) (laidHold os _)) ?_
  intro W base args ds gs before hval0 hW hL hsh
  have hTab := tab_of hL hsh
  have hval : ∀ (j : Nat) t v, Tryd.f3.params[j]? = some t → args[j]? = some v → Value.okWide Tryd.prog W .any base t v := hval0
  have hW' := hW
  obtain ⟨p, q, hA0, hV, rfl, hfz, hnd⟩ := hW
  have hA : DataW.TrodAll enc Tryd.prog W 0 (fun _ => true) true Tryd.f3.params.toList args.toList ds p := hA0
  rw [Tryd.params3] at hA hval
  obtain ⟨v0, vs0, d0, ds0, p0, q0, hargs, rfl, rfl, h0, r0⟩ := trodAll_cons hA
  obtain ⟨v1, vs1, d1, ds1, p1, q1, rfl, rfl, rfl, h1, r1⟩ := trodAll_cons r0
  obtain ⟨rfl, rfl, rfl⟩ := trodAll_nil r1
  obtain rfl : args = #[v0, v1] := by cases args; simp_all
  obtain ⟨rfl, rfl⟩ := trodVars_none hV
  have k0 := h0
  have lt0 : ∀ x ∈ p0, x.block < W.heap.size := by obtain ⟨m, hm⟩ := k0; exact DataW.trod_lt m _ _ _ hm
  have k1 := h1
  have lt1 : ∀ x ∈ p1, x.block < W.heap.size := by obtain ⟨m, hm⟩ := k1; exact DataW.trod_lt m _ _ _ hm
  obtain ⟨x0, rfl, b0⟩ := arg_int Tryd.underlying3 (hval 0 3 _ rfl rfl) h0
  obtain ⟨A1, n1, c1, xs1, rfl, R1⟩ := arg_arcs (hval 1 22 _ rfl rfl) h1
  clear hA0 hval0
  refine (digraphAdds_walk W hTab x0 b0 A1 n1 c1 xs1 R1).mono fun e W' ⟨he, bel⟩ => ?_
  subst he
  exact ⟨_, rfl, _, _, _, [], _, [], hW', trodAll_mk1 (shut_bool Tryd.underlying4 _), (trodAll_cons_mk (Below.trod laidOut (by kernel_rfl) (of_decide_eq_true (by kernel_rfl)) k0 bel lt0) (trodAll_cons_mk (Below.trod laidOut (by kernel_rfl) (of_decide_eq_true (by kernel_rfl)) k1 bel lt1) trodAll_mk0)), rfl, bel.frame _, fun h => by cases h⟩

theorem digraphAdds_over : Rows.digraphAddsRow.holds Tryd.pinned (OpenSpec.ofChange Rows.digraphAddsSpec) :=
  OpenClaim.holds_of_wide 3 Tryd.f3 rfl rfl rfl rfl rfl rfl rfl ⟨rfl, rfl, rfl, rfl, rfl⟩ rfl rfl rfl rfl rfl (by kernel_rfl) Tryd.func3 (by kernel_rfl)
    (of_decide_eq_true (by kernel_rfl)) (by unfold Func.isWrapper; first | (rw [if_pos (by decide +kernel)]; kernel_rfl) | (rw [if_neg (by decide +kernel)]; exact ⟨rfl, rfl⟩))
    (fun os started H enc _ => digraphAdds_lifted os started H enc)

theorem digraphAddsCard_holds : Rows.DigraphAddsCardSaid :=
  Claim7.holds_tied_plain_at .later [] [.data, .data, .data] true (true, "dec048aedef4f191fc220134fd400c69f28150d87cfbdac39091d757f58f0cd7") false
    digraphAdds_over (fun _ h => by cases h) (by kernel_rfl) (fun _ h => by cases h) digraphAdds_row_tie rfl ⟨rfl, rfl⟩ (by kernel_rfl) rfl
    (fun f fn hf hfn => by
      obtain rfl : f = 3 := Option.some.inj ((show Tryd.prog.funcNamed "bandplan/bandplanlaw09.DigraphAdds" = some 3 by kernel_rfl).symm.trans hf) |>.symm
      obtain rfl : fn = Tryd.f3 := (Option.some.inj (Tryd.func3.symm.trans hfn)).symm
      exact ⟨by kernel_rfl, fun j t ht => by
        rw [Tryd.params3] at ht
        rcases j with _ | j
        · obtain rfl : t = 3 := by simpa using ht.symm
          exact (show Tryd.prog.wantsStandIn 3 = false by kernel_rfl)
        rcases j with _ | j
        · obtain rfl : t = 22 := by simpa using ht.symm
          exact (show Tryd.prog.wantsStandIn 22 = false by kernel_rfl)
        · simp at ht⟩)
    (by kernel_rfl)
#print axioms digraphAddsCard_holds
end Go.Proofs.YtpaakgngoocjeaaDoor
