/- Contracts of the reference's All and Solve. -/
import Derived.Test.YteckijkmcafpaaaSolve39
import Derived.Deep.DeepCutAuto
namespace Go.Proofs.Yteckijkmcafpaaa
open Go.RowKit

set_option maxHeartbeats 2000000 in
theorem all39_any (A : Option Addr) (n c : Nat) (w : World) (l : List Claim) (hn : n ≤ 1000) (hl : RowS 2 Claim.cell w w.heap.size A n l) :
    Calls Try.prog 31 #[.slice A n c] w (NewInts (l.map Claim.win) w) := by
  obtain ⟨i0, hi, hz0, hz1, hz2⟩ := info_get int_info
  have Hl := Lib.hid hl
  have Hlen := Eqn.mk hl.1
  clear hl
  go_enter Try.func31, Try.ntmps31
  go_wp2_with fail
  go_loopw [3, 4] (fun v i wr => ∃ k : Nat, k ≤ n ∧ i = .int .i64 k ∧ wr.ownsRow w.heap.size 3 1 v k (((l.map Claim.win).take k).map intV) ∧ Below w.heap.size w wr) (fun _ i _ => n - (intOf i).toNat)
  case atStart => exact ⟨0, Nat.zero_le _, rfl, World.ownsRow_nil _ _ _ _, Below.refl _ _⟩
  case round =>
    obtain ⟨k, hk, rfl, HO, HW⟩ := hrel
    have HWW := Lib.hid HW
    have HOO := Lib.hid HO
    have hws := HW.size
    by_cases hlt : k < n
    · obtain ⟨p, hp, _⟩ := drop_at (xs := l) (k := k) (by rw [Hlen.out]; exact hlt)
      obtain ⟨g, off, rfl, hg, hc⟩ := (Hl.out.below HW).2 (by omega)
      have q0 := hc k p hp 0 (by omega)
      simp only [Claim.cell, Nat.add_zero] at q0
      have HT : Eqn ((l.map Claim.win).take (k + 1)) ((l.map Claim.win).take k ++ [p.win]) := by
        rw [Eqn, List.take_add_one, List.getElem?_map, hp]; rfl
      have j0 : (k : Int) < (n : Int) := by omega
      clear HO HW hc hp
      go_wp2_with (at_builtin; refine wpList_append_own_at _ rfl _ _ 27 rfl w.heap.size 3 i0 (.int .i64 0) 1 8 Try.underlying27 hi hz0 hz1 hz2 rfl (by decide) _ _ _ rfl (HOO.out.alloc _) ⟨wr.heap.size, 0, none⟩ 1 1 [.int .i64 p.win] rfl rfl (cell_one_new _ _ _) (by simp [Value.oneCell']) (by unfold maxLen; omega) (by omega) (by simp; omega) ?_; intro v' w3 hown' hgrow hnil hat)
      go_roundw
      case rel => exact ⟨k + 1, by omega, by go_num, by rw [HT.out, List.map_append]; exact hown', (HWW.out.alloc hws _).grown hgrow (by simp; omega) (own_ge HOO.out)⟩
      case measure => simp [intOf]; omega
    · obtain rfl : k = n := by omega
      clear HO HW
      go_wp2_with fail
      go_ret
      refine ⟨_, rfl, ?_, HWW.out⟩
      have := HOO.out
      rw [List.take_of_length_le (by rw [List.length_map, Hlen.out]; omega)] at this
      rw [List.length_map, Hlen.out]
      exact this

theorem cells_new3 (w : World) (c : Array Value) (t : TypeId) : ∀ j u, c.toList[j]? = some u → ((w.alloc (.cells c t)).drew).cell? ((⟨w.heap.size, 0, none⟩ : Addr).add j) = some u := by
  intro j u hu
  have h := blk_new w c.toList t
  have h2 := h.cell (i := j) hu
  unfold Addr.add
  by_cases hj : j = 0
  · subst hj; simpa using h2
  · rw [if_neg hj, Nat.zero_add]; exact h2
theorem flat_take_snoc {xs : List Slot} {k : Nat} {x : Slot} (hx : xs[k]? = some x) : flat 3 Slot.cell (xs.take (k + 1)) = flat 3 Slot.cell (xs.take k) ++ [.int .i64 x.win, .int .i64 x.start, .int .i64 x.cnt] := by
  rw [List.take_add_one, hx]
  show flat 3 Slot.cell (xs.take k ++ [x]) = _
  rw [flat_snoc]
  rfl

set_option maxRecDepth 100000 in
set_option maxHeartbeats 8000000 in
theorem rsolve_any (b : Int) (A B : Option Addr) (n c m d : Nat) (w : World) (l : List Claim) (ws : List Wish) (hn : n ≤ 1000) (hm : m ≤ 1000) (hl : RowS 2 Claim.cell w w.heap.size A n l) (hw : RowS 3 Wish.cell w w.heap.size B m ws) :
    Calls Try.prog 21 #[.int .i64 b, .slice A n c, .slice B m d] w (SlotPost (solveF b l ws) w) := by
  obtain ⟨i0, hi, hz0, hz1, hz2⟩ := info_get slot_info
  have Hl := Lib.hid hl
  have Hw := Lib.hid hw
  have Hlen := Eqn.mk hl.1
  clear hl hw
  cases hv : vwF b l ws with
  | false =>
    have HV := Eqn.mk hv
    have HF : Eqn (solveF b l ws) ([], 0, 2) := by unfold solveF; rw [if_neg (by rw [hv]; simp)]; rfl
    clear hv
    go_enter Try.func21, Try.ntmps21
    go_wp2_with fail
    refine (rvw_any b A B n c m d _ l ws hn hm Hl.out Hw.out).mono ?_
    rw [HV.out]
    rintro e w1 ⟨rfl, hb1⟩
    go_wp2_with fail
    go_ret3
    rw [HF.out]
    exact ⟨none, 0, rfl, RowS.nil _ _ _ _ _, hb1⟩
  | true =>
    have HV := Eqn.mk hv
    obtain ⟨hva, hvg⟩ := vwF_yes hv
    obtain ⟨v1, v2', v3, v4⟩ := validF_all hva
    obtain ⟨N, rfl⟩ := Int.eq_ofNat_of_zero_le (show 0 ≤ b by omega)
    have HOK := Lib.hid (okV_ps hv (l.map Claim.win))
    obtain ⟨v, f, hsr, hf1, _, _, _⟩ := first_best hv rfl (l.map Claim.win)
    have HSR := Eqn.mk hsr
    have HF : Eqn (solveF N l ws) (slotsOf l f, v, 0) := by unfold solveF; rw [if_pos hv, Int.toNat_natCast, hsr]; rfl
    have hgl := (mem_rs _ (csOf_pos hva) _ f).1 hf1
    have Hfl : Eqn f.length n := by rw [Eqn, hgl.1]; simp [csOf, Hlen.out]
    have H4 := Lib.hid v4
    have mkB := fun w => mk_bools N (by omega) w
    rw [Hlen.out] at v3
    clear hv v4 hva hvg hsr hf1 hgl
    go_enter Try.func21, Try.ntmps21
    go_wp2_with fail
    refine (rvw_any N A B n c m d _ l ws hn hm Hl.out Hw.out).mono ?_
    rw [HV.out]
    rintro e w1 ⟨rfl, hb1⟩
    have B1 := Lib.hid hb1
    clear hb1
    go_upto_region 3 with (fail)
    go_cut [10, 11] (fun s10 s11 wx => ∃ vv, s10 = .int .i64 v ∧ s11 = vv ∧ wx.ownsRow w.heap.size 3 1 vv f.length (f.map intV) ∧ Below w.heap.size w wx)
    case first =>
      refine Lx.region3 (C := fun _ => True) (hs := []) [[0, 1, 2, 3, 4, 5, 6, 7, 8, 9, 10, 11, 12, 13], [0, 1, 2, 4, 5, 3, 6, 7, 8, 9, 10, 11, 12, 13]] (by kernel_rfl) (by kernel_rfl) trivial ?_
      simp only [List.map_cons, List.map_nil, List.forall_mem_cons, List.not_mem_nil, false_implies, implies_true, and_true]
      refine ⟨?_, ?_⟩ <;> dsimp only [Lx.numb, List.filterMap_cons, List.filterMap_nil, List.getElem?_cons_zero, List.getElem?_cons_succ, Option.map_some]
      · have BQ : Hid (Below w.heap.size w w1.drew) := Lib.hid B1.out.drew
        repeat' (first
          | (refine Lx.lexI_no (Lx.n1 rfl rfl rfl (by with_reducible rfl)) (fun K hK => ?_); go_simp; refine hK _ ?_; clear hK K)
          | (refine Lx.lexI_no (Lx.n0 rfl rfl rfl (by with_reducible rfl)) (fun K hK => ?_); go_simp; refine hK _ ?_; clear hK K)
          | (refine Lx.lexI_no (Lx.n2 rfl rfl rfl) (fun K hK => ?_); go_simp; refine hK _ ?_; clear hK K)
          | (refine Lx.lexI_pure (v := ?_) rfl (by first | exact Lx.w0 rfl | exact Lx.w1 rfl rfl rfl (by with_reducible rfl)) ?_ (fun K hK => ?_); rotate_left 1; (intro w' hCw; (try dsimp only at hCw); go_simp; done); go_simp; refine hK _ ?_; clear hK K)
          | (refine Lx.lexI_pure (v := ?_) rfl (by first | exact Lx.w0 rfl | exact Lx.w1 rfl rfl rfl (by with_reducible rfl)) ?_ (fun K hK => ?_); rotate_left 1; (intro w' hCw; (try dsimp only at hCw); go_simp; with_reducible rfl); go_simp; refine hK _ ?_; clear hK K)
          | (refine Lx.lexI_read (v := ?_) rfl (by first | exact Lx.w0 rfl | exact Lx.w1 rfl rfl rfl (by with_reducible rfl)) ?_ (fun K hK => ?_); rotate_left 1; (go_simp; done); go_simp; refine hK _ ?_; clear hK K)
          | (refine Lx.lexI_read (v := ?_) rfl (by first | exact Lx.w0 rfl | exact Lx.w1 rfl rfl rfl (by with_reducible rfl)) ?_ (fun K hK => ?_); rotate_left 1; (go_simp; with_reducible rfl); go_simp; refine hK _ ?_; clear hK K)
          | (refine Lx.lexI_eff rfl (by first | exact Lx.w0 rfl | exact Lx.w1 rfl rfl rfl (by with_reducible rfl)) (fun K hK => ?_); go_simp; (first | (go_at_call 31; refine (all39_any A n c _ l hn (by exact (Hl.out.below BQ.out).up BQ.out.size)).mono ?_; rintro e w2 ⟨va, rfl, hoa, hb2⟩; obtain ⟨Xa, ca, rfl, hra⟩ := row1_of_own hoa; rw [List.length_map, Hlen.out] at hra; rw [List.length_map, Hlen.out]; have RA := Lib.hid hra; have B2 : Hid (Below w.heap.size w w2) := Lib.hid (BQ.out.trans (hb2.mono BQ.out.size)); have BC : Hid (Below w.heap.size w (w2.alloc (.cells (tabL N fun _ => .bool false).toArray 4))) := Lib.hid (B2.out.alloc B2.out.size _); clear hoa hra hb2) | (go_at_call 39; refine (search_any A n c l v3 B m d ws hm Xa n ca (l.map Claim.win) (by omega) HOK.out n 0 _ _ N _ (List.replicate N false) (by omega) (by omega) (by omega) (fun x hx => ⟨(H4.out x hx).2.2.1, (H4.out x hx).2.2.2⟩) (by exact (Hl.out.below BC.out).up BC.out.size) (by exact (Hw.out.below BC.out).up BC.out.size) (by exact RA.out.keep ((Below.refl _ _).alloc (Nat.le_refl _) _)) (by exact (row_bools N w2).up (by simp))).mono ?_; rw [List.drop_zero, HSR.out]; rintro e w4 ⟨v4, rfl, ho4, hb4⟩; have B4 : Hid (Below w.heap.size w w4) := Lib.hid (BC.out.trans (hb4.mono BC.out.size)); have HO4 := Lib.hid ho4; clear ho4 hb4) | skip); refine hK _ _ (trivial) ?_; clear hK K))
        all_goals (refine Lx.lexI_nil ?_)
        go_wp2_with fail
        go_meet
        exact ⟨_, rfl, rfl, own_low HO4.out (Nat.le_trans BC.out.size (Nat.le_refl _)), B4.out⟩
      · have BQ : Hid (Below w.heap.size w ((w1.alloc (.cells (tabL N fun _ => .bool false).toArray 4)).drew)) := Lib.hid ((B1.out.alloc B1.out.size _).drew)
        have RUB : Hid (Row1 boolV ((w1.alloc (.cells (tabL N fun _ => .bool false).toArray 4)).drew) (w1.heap.size + 1) (some ⟨w1.heap.size, 0, none⟩) N (List.replicate N false)) := Lib.hid ((row_bools N w1).below (Below.refl _ _).drew)
        have RUB : Hid (Row1 boolV ((w1.alloc (.cells (tabL N fun _ => .bool false).toArray 4)).drew) ((w1.alloc (.cells (tabL N fun _ => .bool false).toArray 4)).drew).heap.size (some ⟨w1.heap.size, 0, none⟩) N (List.replicate N false)) := Lib.hid (RUB.out.up (by simp))
        repeat' (first
          | (refine Lx.lexI_no (Lx.n1 rfl rfl rfl (by with_reducible rfl)) (fun K hK => ?_); go_simp; refine hK _ ?_; clear hK K)
          | (refine Lx.lexI_no (Lx.n0 rfl rfl rfl (by with_reducible rfl)) (fun K hK => ?_); go_simp; refine hK _ ?_; clear hK K)
          | (refine Lx.lexI_no (Lx.n2 rfl rfl rfl) (fun K hK => ?_); go_simp; refine hK _ ?_; clear hK K)
          | (refine Lx.lexI_pure (v := ?_) rfl (by first | exact Lx.w0 rfl | exact Lx.w1 rfl rfl rfl (by with_reducible rfl)) ?_ (fun K hK => ?_); rotate_left 1; (intro w' hCw; (try dsimp only at hCw); go_simp; done); go_simp; refine hK _ ?_; clear hK K)
          | (refine Lx.lexI_pure (v := ?_) rfl (by first | exact Lx.w0 rfl | exact Lx.w1 rfl rfl rfl (by with_reducible rfl)) ?_ (fun K hK => ?_); rotate_left 1; (intro w' hCw; (try dsimp only at hCw); go_simp; with_reducible rfl); go_simp; refine hK _ ?_; clear hK K)
          | (refine Lx.lexI_read (v := ?_) rfl (by first | exact Lx.w0 rfl | exact Lx.w1 rfl rfl rfl (by with_reducible rfl)) ?_ (fun K hK => ?_); rotate_left 1; (go_simp; done); go_simp; refine hK _ ?_; clear hK K)
          | (refine Lx.lexI_read (v := ?_) rfl (by first | exact Lx.w0 rfl | exact Lx.w1 rfl rfl rfl (by with_reducible rfl)) ?_ (fun K hK => ?_); rotate_left 1; (go_simp; with_reducible rfl); go_simp; refine hK _ ?_; clear hK K)
          | (refine Lx.lexI_eff rfl (by first | exact Lx.w0 rfl | exact Lx.w1 rfl rfl rfl (by with_reducible rfl)) (fun K hK => ?_); go_simp; (first | (go_at_call 31; refine (all39_any A n c _ l hn (by exact (Hl.out.below BQ.out).up BQ.out.size)).mono ?_; rintro e w2 ⟨va, rfl, hoa, hb2⟩; obtain ⟨Xa, ca, rfl, hra⟩ := row1_of_own hoa; rw [List.length_map, Hlen.out] at hra; rw [List.length_map, Hlen.out]; have RA := Lib.hid hra; have B2 : Hid (Below w.heap.size w w2) := Lib.hid (BQ.out.trans (hb2.mono BQ.out.size)); have RU := Lib.hid (RUB.out.keep hb2); clear hoa hra hb2) | (go_at_call 39; refine (search_any A n c l v3 B m d ws hm Xa n ca (l.map Claim.win) (by omega) HOK.out n 0 _ _ N _ (List.replicate N false) (by omega) (by omega) (by omega) (fun x hx => ⟨(H4.out x hx).2.2.1, (H4.out x hx).2.2.2⟩) (by exact (Hl.out.below B2.out).up B2.out.size) (by exact (Hw.out.below B2.out).up B2.out.size) (by exact RA.out) (by exact RU.out)).mono ?_; rw [List.drop_zero, HSR.out]; rintro e w4 ⟨v4, rfl, ho4, hb4⟩; have B4 : Hid (Below w.heap.size w w4) := Lib.hid (B2.out.trans (hb4.mono B2.out.size)); have HO4 := Lib.hid ho4; clear ho4 hb4) | skip); refine hK _ _ (trivial) ?_; clear hK K))
        all_goals (refine Lx.lexI_nil ?_)
        go_wp2_with fail
        go_meet
        exact ⟨_, rfl, rfl, own_low HO4.out B2.out.size, B4.out⟩
    case rest =>
      obtain ⟨vv, rfl, rfl, ho, hbx⟩ := hcut
      obtain ⟨X, cx, rfl, hrx⟩ := row1_of_own ho
      rw [Hfl.out]
      rw [Hfl.out] at hrx
      have RX := Lib.hid hrx
      have BX := Lib.hid hbx
      clear ho hrx hbx
      have HSL : Eqn (slotsOf l f).length n := by unfold slotsOf Eqn; rw [List.length_zipWith, Hlen.out, Hfl.out, Nat.min_self]
      go_wp2_with fail
      go_loopw [12, 13] (fun v i wr => ∃ k : Nat, k ≤ n ∧ i = .int .i64 k ∧ wr.ownsRow w.heap.size 56 3 v k (flat 3 Slot.cell ((slotsOf l f).take k)) ∧ Row1 intV wr wr.heap.size X n f ∧ Hid (∀ gg, v.ownBlock = some gg → ∀ a, X = some a → gg ≠ a.block) ∧ Below w.heap.size w wr) (fun _ i _ => n - (intOf i).toNat)
      case atStart => exact ⟨0, Nat.zero_le _, rfl, World.ownsRow_nil _ _ _ _, RX.out, Lib.hid (fun gg h => by cases h), BX.out⟩
      case round =>
        clear RX BX
        obtain ⟨k, hk, rfl, HO, hrx, HNX, HW⟩ := hrel
        have HWW := Lib.hid HW
        have HOO := Lib.hid HO
        have RX := Lib.hid hrx
        have hws := HW.size
        by_cases hlt : k < n
        · obtain ⟨p, hp, _⟩ := drop_at (xs := l) (k := k) (by rw [Hlen.out]; exact hlt)
          obtain ⟨s, hs, _⟩ := drop_at (xs := f) (k := k) (by rw [Hfl.out]; exact hlt)
          obtain ⟨g, off, rfl, hg, hc⟩ := (Hl.out.below HW).2 (by omega)
          obtain ⟨gx, ox, rfl, hgx, hcx⟩ := hrx.2 (by omega)
          have q0 := hc k p hp 0 (by omega)
          have q1 := hc k p hp 1 (by omega)
          have y0 := hcx k s hs
          simp only [Claim.cell, Nat.add_zero, intV] at q0 q1 y0
          have hxx : (slotsOf l f)[k]? = some ⟨p.win, s, p.cnt⟩ := by
            unfold slotsOf; rw [List.getElem?_zipWith, hp, hs]
          have HT := Eqn.mk (flat_take_snoc hxx)
          have hgs : g < wr.heap.size := by omega
          have j0 : (k : Int) < (n : Int) := by omega
          clear HO HW hc hcx hp hs hxx hrx
          go_wp2_with fail
          refine Lx.region (C := fun _ => True) (hs := []) (by kernel_rfl) (by kernel_rfl) trivial ?_
          repeat' (first
            | (refine Lx.lex_no (Lx.n1 rfl rfl rfl (by with_reducible rfl)) (fun K hK => ?_); go_simp; refine hK _ ?_; clear hK K)
            | (refine Lx.lex_no (Lx.n0 rfl rfl rfl (by with_reducible rfl)) (fun K hK => ?_); go_simp; refine hK _ ?_; clear hK K)
            | (refine Lx.lex_no (Lx.n2 rfl rfl rfl) (fun K hK => ?_); go_simp; refine hK _ ?_; clear hK K)
            | (refine Lx.lex_pure (v := ?_) rfl (by first | exact Lx.w0 rfl | exact Lx.w1 rfl rfl rfl (by with_reducible rfl)) ?_ (fun K hK => ?_); rotate_left 1; (intro w' hCw; (try dsimp only at hCw); go_simp; done); go_simp; refine hK _ ?_; clear hK K)
            | (refine Lx.lex_pure (v := ?_) rfl (by first | exact Lx.w0 rfl | exact Lx.w1 rfl rfl rfl (by with_reducible rfl)) ?_ (fun K hK => ?_); rotate_left 1; (intro w' hCw; (try dsimp only at hCw); go_simp; with_reducible rfl); go_simp; refine hK _ ?_; clear hK K)
            | (refine Lx.lex_read (v := ?_) rfl (by first | exact Lx.w0 rfl | exact Lx.w1 rfl rfl rfl (by with_reducible rfl)) ?_ (fun K hK => ?_); rotate_left 1; (go_simp; done); go_simp; refine hK _ ?_; clear hK K)
            | (refine Lx.lex_read (v := ?_) rfl (by first | exact Lx.w0 rfl | exact Lx.w1 rfl rfl rfl (by with_reducible rfl)) ?_ (fun K hK => ?_); rotate_left 1; (go_simp; with_reducible rfl); go_simp; refine hK _ ?_; clear hK K)
            | (refine Lx.lex_eff rfl (by first | exact Lx.w0 rfl | exact Lx.w1 rfl rfl rfl (by with_reducible rfl)) (fun K hK => ?_); go_simp; (first | fail | skip); refine hK _ _ (trivial) ?_; clear hK K)
            | (refine Lx.lex_cases rfl rfl rfl (fun hgd K hK => ?_) (fun hgd K hK => ?_) <;> (try simp only [decide_eq_true_eq, decide_eq_false_iff_not] at hgd) <;> (first | (exfalso; omega) | (go_simp; refine hK _ ?_; clear hK K))))
          refine Lx.lex_append rfl rfl _ _ 35 rfl w.heap.size 56 i0 (.agg (List.replicate 3 (.int .i64 0)).toArray) 3 24 Try.underlying35 hi hz0 hz1 hz2 rfl (by decide) _ _ _ rfl (by exact (HOO.out.alloc _).drew) ⟨wr.heap.size, 0, none⟩ 1 1 [.int .i64 p.win, .int .i64 s, .int .i64 p.cnt] rfl rfl ?_ (by simp [Value.oneCell']) (by unfold maxLen; omega) (by omega) (by simp; omega) ?_
          · exact cells_new3 wr #[.int .i64 p.win, .int .i64 s, .int .i64 p.cnt] 56
          · intro v' w8 hown8 hgrow8 hat8
            refine ⟨trivial, ?_⟩
            have BG : Hid (Below w.heap.size w w8) := Lib.hid (((HWW.out.alloc hws _).drew).grown hgrow8 (by simp; omega) (own_ge HOO.out))
            have RG : Hid (Row1 intV w8 w8.heap.size (some ⟨gx, ox, none⟩) n f) := Lib.hid (by
              refine ⟨RX.out.1, fun hn0 => ⟨gx, ox, rfl, Nat.lt_of_lt_of_le hgx (Nat.le_trans (by simp) hgrow8.size), fun j z hz => ?_⟩⟩
              obtain ⟨b2, o2, he, _, hcc⟩ := RX.out.2 hn0
              simp only [Option.some.injEq, Addr.mk.injEq, and_true] at he
              obtain ⟨rfl, rfl⟩ := he
              have h1 := hcc j z hz
              rw [World.cell?_of_block (a := ⟨gx, ox + j, none⟩) (hgrow8.block gx (by simp; omega) (fun e => (HNX.out gx e.symm ⟨gx, ox, none⟩ rfl) rfl))]
              rw [← h1]
              exact World.cell?_of_block (a := ⟨gx, ox + j, none⟩) (Below.heap_alloc _ _ _ hgx))
            have HNG : Hid (∀ gg, v'.ownBlock = some gg → ∀ a, (some ⟨gx, ox, none⟩ : Option Addr) = some a → gg ≠ a.block) := Lib.hid (fun gg hgg a ha => by
              rcases hat8 with h | h
              · exact HNX.out gg (h.symm.trans hgg) a ha
              · rw [h] at hgg
                injection hgg with hgg
                injection ha with ha
                subst ha
                simp only [World.size_alloc, World.drew] at hgg
                dsimp only
                omega)
            have HO8 : Hid (w8.ownsRow w.heap.size 56 3 v' (k + 1) (flat 3 Slot.cell ((slotsOf l f).take (k + 1)))) := Lib.hid (by rw [HT.out]; exact hown8)
            clear hown8 hgrow8 hat8
            repeat' (first
              | (refine Lx.lex_no (Lx.n1 rfl rfl rfl (by with_reducible rfl)) (fun K hK => ?_); go_simp; refine hK _ ?_; clear hK K)
              | (refine Lx.lex_no (Lx.n0 rfl rfl rfl (by with_reducible rfl)) (fun K hK => ?_); go_simp; refine hK _ ?_; clear hK K)
              | (refine Lx.lex_no (Lx.n2 rfl rfl rfl) (fun K hK => ?_); go_simp; refine hK _ ?_; clear hK K)
              | (refine Lx.lex_pure (v := ?_) rfl (by first | exact Lx.w0 rfl | exact Lx.w1 rfl rfl rfl (by with_reducible rfl)) ?_ (fun K hK => ?_); rotate_left 1; (intro w' hCw; (try dsimp only at hCw); go_simp; done); go_simp; refine hK _ ?_; clear hK K)
              | (refine Lx.lex_pure (v := ?_) rfl (by first | exact Lx.w0 rfl | exact Lx.w1 rfl rfl rfl (by with_reducible rfl)) ?_ (fun K hK => ?_); rotate_left 1; (intro w' hCw; (try dsimp only at hCw); go_simp; with_reducible rfl); go_simp; refine hK _ ?_; clear hK K)
              | (refine Lx.lex_read (v := ?_) rfl (by first | exact Lx.w0 rfl | exact Lx.w1 rfl rfl rfl (by with_reducible rfl)) ?_ (fun K hK => ?_); rotate_left 1; (go_simp; done); go_simp; refine hK _ ?_; clear hK K)
              | (refine Lx.lex_read (v := ?_) rfl (by first | exact Lx.w0 rfl | exact Lx.w1 rfl rfl rfl (by with_reducible rfl)) ?_ (fun K hK => ?_); rotate_left 1; (go_simp; with_reducible rfl); go_simp; refine hK _ ?_; clear hK K)
              | (refine Lx.lex_eff rfl (by first | exact Lx.w0 rfl | exact Lx.w1 rfl rfl rfl (by with_reducible rfl)) (fun K hK => ?_); go_simp; (first | fail | skip); refine hK _ _ (trivial) ?_; clear hK K)
              | (refine Lx.lex_cases rfl rfl rfl (fun hgd K hK => ?_) (fun hgd K hK => ?_) <;> (try simp only [decide_eq_true_eq, decide_eq_false_iff_not] at hgd) <;> (first | (exfalso; omega) | (go_simp; refine hK _ ?_; clear hK K))))
            all_goals (refine Lx.lex_nil ?_)
            go_wp2_with fail
            go_roundw
            case rel => exact ⟨k + 1, by omega, by go_num, HO8.out, RG.out, HNG, BG.out⟩
            case measure => simp [intOf]; omega
        · obtain rfl : k = n := by omega
          clear HO HW hrx
          have hoo := HOO.out
          rw [List.take_of_length_le (by rw [HSL.out]; omega)] at hoo
          obtain ⟨A9, c9, hv9, hr9⟩ := own_formS (by omega) hoo
          have HV9 := Eqn.mk hv9
          have HR9 := Lib.hid hr9
          clear hoo hv9 hr9
          go_wp2_with fail
          go_ret3
          rw [HF.out, HV9.out]
          exact ⟨A9, c9, by rw [HSL.out]; rfl, by rw [HSL.out]; exact HR9.out, HWW.out⟩
end Go.Proofs.Yteckijkmcafpaaa
