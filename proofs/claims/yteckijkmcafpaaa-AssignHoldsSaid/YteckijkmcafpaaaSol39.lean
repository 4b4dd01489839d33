/- Contract of solve: the table from the last block to the first. -/
import Derived.Test.YteckijkmcafpaaaMidC39
import Derived.IntWalk
import Derived.Deep.OwnRows
import Derived.Outline
import Derived.Deep.DeepCutAuto
namespace Go.Proofs.Yteckijkmcafpaaa
open Go.RowKit

/-- the area as it lies in memory -/
structure AreaAt (w : World) (D a : Nat) (B n : Nat) (l : List Claim) (vs : List (List Int)) (fx : List Int) : Prop where
  c0 : w.cell? ⟨a, 0, none⟩ = some (.int .i64 B)
  c1 : ∃ A c, w.cell? ⟨a, 1, none⟩ = some (.slice A n c) ∧ RowS 2 Claim.cell w D A n l
  c2 : ∃ A c, w.cell? ⟨a, 2, none⟩ = some (.slice A n c) ∧ RowS 12 rowV w D A n vs
  c3 : ∃ A c, w.cell? ⟨a, 3, none⟩ = some (.slice A n c) ∧ Row1 intV w D A n fx
  lt : a < D

def v2n (x : Int × Int) : Value := .tuple #[.int .i64 x.1, .int .i64 x.2]
theorem slc_info : (Try.prog.info? 27).map (fun i => (i.zero, i.size, i.bytes)) = some (some (.slice none 0 0), 1, 24) := by kernel_rfl
theorem info_parts {P : Program} {t : Nat} {z : Value} {s b : Nat} (h : (P.info? t).map (fun i => (i.zero, i.size, i.bytes)) = some (some z, s, b)) : ∃ i, P.info? t = some i ∧ i.zero = some z ∧ i.size = s ∧ i.bytes = b := by
  cases hi : P.info? t with
  | none => rw [hi] at h; cases h
  | some i =>
    rw [hi] at h
    simp only [Option.map_some, Option.some.injEq, _root_.Prod.mk.injEq] at h
    exact ⟨i, rfl, h.1, h.2.1, h.2.2⟩

/-- make of a slice of numbers, and of a slice of slices -/
theorem mk_ints (N : Nat) (h : N ≤ 1000) (w : World) : (Instr.makeSlice 27 (.int .i64 (N : Int)) (.int .i64 (N : Int))).run Try.prog w = .ok (.slice (some ⟨w.heap.size, 0, none⟩) N N) (w.alloc (.cells (tabL N fun _ => .int .i64 0).toArray 3)) := by
  rw [run_make_row' 27 3 _ _ Try.underlying27 int_info rfl .i64 .i64 N (by omega) (by omega) w]
  congr 3
  rw [tabL_rep, ← toList_madeCells_one]
theorem mk_slcs (N : Nat) (h : N ≤ 1000) (w : World) : (Instr.makeSlice 82 (.int .i64 ((N : Int) + 1)) (.int .i64 ((N : Int) + 1))).run Try.prog w = .ok (.slice (some ⟨w.heap.size, 0, none⟩) (N + 1) (N + 1)) (w.alloc (.cells (tabL (N + 1) fun _ => .slice none 0 0).toArray 27)) := by
  have := run_make_row' 82 27 _ _ Try.underlying82 slc_info rfl .i64 .i64 (N + 1) (by omega) (by omega) w
  rw [Int.natCast_succ] at this
  rw [this]
  congr 3
  rw [tabL_rep, ← toList_madeCells_one]

set_option maxRecDepth 100000 in
set_option maxHeartbeats 4000000 in
theorem solve_any (a B n : Nat) (w : World) (l : List Claim) (vs : List (List Int)) (fx : List Int) (hB : 1 ≤ B) (hB' : B ≤ 12) (hn : n ≤ 6) (hl : ∀ c ∈ l, 1 ≤ c.cnt ∧ c.cnt ≤ 12) (hv : ∀ i s, 0 ≤ valOf vs i s ∧ valOf vs i s ≤ 1099511627776) (ha : AreaAt w w.heap.size a B n l vs fx) :
    Calls Try.prog 38 #[.pointer (some ⟨a, 0, none⟩)] w (RetPost (v2n (dpT n B (cnOf l) (nth fx) (valOf vs) B 0 (2 ^ n - 1))) w.heap.size w) := by
  obtain ⟨i0, hi, hz0, hz1, hz2⟩ := info_parts int_info
  obtain ⟨i1, hi', hz0', hz1', hz2'⟩ := info_parts slc_info
  have HL := Lib.hid hl
  have HV := Lib.hid hv
  have hal := ha.lt
  obtain ⟨a0, ⟨A1, c1, a1, r1⟩, ⟨A2, c2, a2, r2⟩, ⟨A3, c3, a3, r3⟩, _⟩ := ha
  have R1 := Lib.hid r1
  have R2 := Lib.hid r2
  have R3 := Lib.hid r3
  clear r1 r2 r3 hl hv
  obtain ⟨N, hN⟩ : ∃ N, N = 2 ^ n := ⟨_, rfl⟩
  have hN1 : 1 ≤ N := by rw [hN]; exact Nat.two_pow_pos _
  have hN64 : N ≤ 64 := by rw [hN]; exact Nat.pow_le_pow_right (by omega) hn
  have hsh : wrap64 ((2 : Int) ^ n) = (N : Int) := by
    have e : ((2 : Int) ^ n) = (N : Int) := by rw [hN]; simp
    rw [e]
    clear e hN
    exact IntWalk.wrap64_in (N : Int) (by omega)
  have HN := Eqn.mk hN
  clear hN
  have mkI := fun w => mk_ints N (by omega) w
  have mkO := fun w => mk_slcs B (by omega) w
  have hw1 : IntKind.i64.wrap ((B : Int) + 1) = (B : Int) + 1 := IntWalk.i64_in _ (by omega)
  go_enter Try.func38, Try.ntmps38
  go_upto_region 2 with (fail)
  rw [hsh]
  clear hsh
  go_cut [5, 6] (fun s5 s6 wx => ∃ gv gc : Nat, s5 = .slice (some ⟨gv, 0, none⟩) (B + 1) (B + 1) ∧ s6 = .slice (some ⟨gc, 0, none⟩) (B + 1) (B + 1) ∧ Mk w wx B N gv gc 0 id id)
  case first =>
    refine Lx.region2 (C := fun w' => w'.cell? ⟨a, 0, none⟩ = some (.int .i64 B)) (hs := [3, 9]) 5 11 [0, 1, 2, 3, 4, 6, 7, 8, 9, 10, 11, 5, 12, 13] _ (by kernel_rfl) (by kernel_rfl) rfl (by exact a0) ?_ ?_
    ·
      repeat' (first
        | (refine Lx.lex_no (Lx.n1 rfl rfl rfl (by with_reducible rfl)) (fun K hK => ?_); go_simp; refine hK _ ?_; clear hK K)
        | (refine Lx.lex_no (Lx.n0 rfl rfl rfl (by with_reducible rfl)) (fun K hK => ?_); go_simp; refine hK _ ?_; clear hK K)
        | (refine Lx.lex_no (Lx.n2 rfl rfl rfl) (fun K hK => ?_); go_simp; refine hK _ ?_; clear hK K)
        | (refine Lx.lex_pure (v := ?_) rfl (by first | exact Lx.w0 rfl | exact Lx.w1 rfl rfl rfl (by with_reducible rfl)) ?_ (fun K hK => ?_); rotate_left 1; (intro w' hCw; (try dsimp only at hCw); go_simp; done); go_simp; refine hK _ ?_; clear hK K)
        | (refine Lx.lex_pure (v := ?_) rfl (by first | exact Lx.w0 rfl | exact Lx.w1 rfl rfl rfl (by with_reducible rfl)) ?_ (fun K hK => ?_); rotate_left 1; (intro w' hCw; (try dsimp only at hCw); go_simp; with_reducible rfl); go_simp; refine hK _ ?_; clear hK K)
        | (refine Lx.lex_read (v := ?_) rfl (by first | exact Lx.w0 rfl | exact Lx.w1 rfl rfl rfl (by with_reducible rfl)) ?_ (fun K hK => ?_); rotate_left 1; (go_simp; done); go_simp; refine hK _ ?_; clear hK K)
        | (refine Lx.lex_read (v := ?_) rfl (by first | exact Lx.w0 rfl | exact Lx.w1 rfl rfl rfl (by with_reducible rfl)) ?_ (fun K hK => ?_); rotate_left 1; (go_simp; with_reducible rfl); go_simp; refine hK _ ?_; clear hK K)
        | (refine Lx.lex_eff rfl (by first | exact Lx.w0 rfl | exact Lx.w1 rfl rfl rfl (by with_reducible rfl)) (fun K hK => ?_); go_simp; (first | fail | skip); refine hK _ _ (by go_simp) ?_; clear hK K)
        | (refine Lx.lex_cases rfl rfl rfl (fun hgd K hK => ?_) (fun hgd K hK => ?_) <;> (try simp only [decide_eq_true_eq, decide_eq_false_iff_not] at hgd) <;> (first | (exfalso; omega) | (go_simp; refine hK _ ?_; clear hK K))))
      all_goals (refine Lx.lex_nil ?_)
      go_wp2_with fail
      go_meet
      exact ⟨w.heap.size, w.heap.size + 1, rfl, rfl, Mk.start (((Below.refl _ _).alloc (Nat.le_refl _) _).alloc (by simp) _).drew (((blk_new w _ _).alloc _).drew) (by have := blk_new (w.alloc (.cells (tabL (B + 1) fun _ => .slice none 0 0).toArray 27)) (tabL (B + 1) fun _ => .slice none 0 0) 27; rw [World.size_alloc] at this; exact this.drew) (by omega)⟩
    · dsimp only [List.filterMap_cons, List.filterMap_nil, List.getElem?_cons_zero, List.getElem?_cons_succ, Option.map_some]
      repeat' (first
        | (refine Lx.lexI_no (Lx.n1 rfl rfl rfl (by with_reducible rfl)) (fun K hK => ?_); go_simp; refine hK _ ?_; clear hK K)
        | (refine Lx.lexI_no (Lx.n0 rfl rfl rfl (by with_reducible rfl)) (fun K hK => ?_); go_simp; refine hK _ ?_; clear hK K)
        | (refine Lx.lexI_no (Lx.n2 rfl rfl rfl) (fun K hK => ?_); go_simp; refine hK _ ?_; clear hK K)
        | (refine Lx.lexI_pure (v := ?_) rfl (by first | exact Lx.w0 rfl | exact Lx.w1 rfl rfl rfl (by with_reducible rfl)) ?_ (fun K hK => ?_); rotate_left 1; (intro w' hCw; (try dsimp only at hCw); go_simp; done); go_simp; refine hK _ ?_; clear hK K)
        | (refine Lx.lexI_pure (v := ?_) rfl (by first | exact Lx.w0 rfl | exact Lx.w1 rfl rfl rfl (by with_reducible rfl)) ?_ (fun K hK => ?_); rotate_left 1; (intro w' hCw; (try dsimp only at hCw); go_simp; with_reducible rfl); go_simp; refine hK _ ?_; clear hK K)
        | (refine Lx.lexI_read (v := ?_) rfl (by first | exact Lx.w0 rfl | exact Lx.w1 rfl rfl rfl (by with_reducible rfl)) ?_ (fun K hK => ?_); rotate_left 1; (go_simp; done); go_simp; refine hK _ ?_; clear hK K)
        | (refine Lx.lexI_read (v := ?_) rfl (by first | exact Lx.w0 rfl | exact Lx.w1 rfl rfl rfl (by with_reducible rfl)) ?_ (fun K hK => ?_); rotate_left 1; (go_simp; with_reducible rfl); go_simp; refine hK _ ?_; clear hK K)
        | (refine Lx.lexI_eff rfl (by first | exact Lx.w0 rfl | exact Lx.w1 rfl rfl rfl (by with_reducible rfl)) (fun K hK => ?_); go_simp; (first | fail | skip); refine hK _ _ (by go_simp) ?_; clear hK K))
      all_goals (refine Lx.lexI_nil ?_)
      go_wp2_with fail
      go_meet
      exact ⟨w.heap.size + 1, w.heap.size, rfl, rfl, Mk.start (((Below.refl _ _).alloc (Nat.le_refl _) _).alloc (by simp) _).drew (by have := blk_new (w.alloc (.cells (tabL (B + 1) fun _ => .slice none 0 0).toArray 27)) (tabL (B + 1) fun _ => .slice none 0 0) 27; rw [World.size_alloc] at this; exact this.drew) (((blk_new w _ _).alloc _).drew) (by omega)⟩
  case rest =>
    obtain ⟨gv, gc, rfl, rfl, hmk⟩ := hcut
    have HM := Lib.hid hmk
    clear hmk hw1 mkO
    go_wp2_with fail
    go_loopw [35] (fun i wr => ∃ (k : Nat) (vb cb : Nat → Nat), k ≤ B + 1 ∧ i = .int .i64 k ∧ Mk w wr B N gv gc k vb cb) (fun i _ => B + 1 - (intOf i).toNat)
    case atStart => exact ⟨0, id, id, by omega, rfl, HM.out⟩
    case round =>
      obtain ⟨k, vb, cb, hk, rfl, hm⟩ := hrel
      have HMK := Lib.hid hm
      have lv := hm.ov.lt
      have lc := hm.oc.lt
      have hgg := hm.gg.1
      by_cases hlt : k < B + 1
      · have j0 : (k : Int) < (B : Int) + 1 := by omega
        have j1 : k < B + 1 := hlt
        have o1 := hm.ov.cell (tabL_at hlt)
        have o2 := hm.oc.cell (tabL_at hlt)
        have f1 := hm.ov.frozen k
        have f2 := hm.oc.frozen k
        rw [if_neg (by omega)] at o1 o2
        clear hm
        go_wp2_with fail
        refine Lx.region3 (C := fun _ => True) (hs := []) [[0, 1, 2, 3, 4, 5, 6, 7, 8, 9, 10, 11], [0, 1, 2, 3, 4, 6, 7, 5, 8, 9, 10, 11], [0, 1, 2, 3, 4, 5, 8, 9, 6, 7, 10, 11]] (by kernel_rfl) (by kernel_rfl) trivial ?_
        simp only [List.map_cons, List.map_nil, List.forall_mem_cons, List.not_mem_nil, false_implies, implies_true, and_true]
        refine ⟨?_, ?_, ?_⟩ <;> dsimp only [Lx.numb, List.filterMap_cons, List.filterMap_nil, List.getElem?_cons_zero, List.getElem?_cons_succ, Option.map_some]
        ·
          repeat' (first
            | (refine Lx.lexI_no (Lx.n1 rfl rfl rfl (by with_reducible rfl)) (fun K hK => ?_); go_simp; refine hK _ ?_; clear hK K)
            | (refine Lx.lexI_no (Lx.n0 rfl rfl rfl (by with_reducible rfl)) (fun K hK => ?_); go_simp; refine hK _ ?_; clear hK K)
            | (refine Lx.lexI_no (Lx.n2 rfl rfl rfl) (fun K hK => ?_); go_simp; refine hK _ ?_; clear hK K)
            | (refine Lx.lexI_pure (v := ?_) rfl (by first | exact Lx.w0 rfl | exact Lx.w1 rfl rfl rfl (by with_reducible rfl)) ?_ (fun K hK => ?_); rotate_left 1; (intro w' hCw; (try dsimp only at hCw); go_simp; done); go_simp; refine hK _ ?_; clear hK K)
            | (refine Lx.lexI_pure (v := ?_) rfl (by first | exact Lx.w0 rfl | exact Lx.w1 rfl rfl rfl (by with_reducible rfl)) ?_ (fun K hK => ?_); rotate_left 1; (intro w' hCw; (try dsimp only at hCw); go_simp; with_reducible rfl); go_simp; refine hK _ ?_; clear hK K)
            | (refine Lx.lexI_read (v := ?_) rfl (by first | exact Lx.w0 rfl | exact Lx.w1 rfl rfl rfl (by with_reducible rfl)) ?_ (fun K hK => ?_); rotate_left 1; (go_simp; done); go_simp; refine hK _ ?_; clear hK K)
            | (refine Lx.lexI_read (v := ?_) rfl (by first | exact Lx.w0 rfl | exact Lx.w1 rfl rfl rfl (by with_reducible rfl)) ?_ (fun K hK => ?_); rotate_left 1; (go_simp; with_reducible rfl); go_simp; refine hK _ ?_; clear hK K)
            | (refine Lx.lexI_eff rfl (by first | exact Lx.w0 rfl | exact Lx.w1 rfl rfl rfl (by with_reducible rfl)) (fun K hK => ?_); go_simp; (first | fail | skip); refine hK _ _ (trivial) ?_; clear hK K))
          all_goals (refine Lx.lexI_nil ?_)
          go_wp2_with fail
          go_roundw
          case rel => exact ⟨k + 1, _, _, by omega, by go_num, (HMK.out.next (wr.heap.size) (wr.heap.size + 1) (.inl ⟨rfl, rfl⟩)).drew⟩
          case measure => simp only [intOf]; omega
        ·
          repeat' (first
            | (refine Lx.lexI_no (Lx.n1 rfl rfl rfl (by with_reducible rfl)) (fun K hK => ?_); go_simp; refine hK _ ?_; clear hK K)
            | (refine Lx.lexI_no (Lx.n0 rfl rfl rfl (by with_reducible rfl)) (fun K hK => ?_); go_simp; refine hK _ ?_; clear hK K)
            | (refine Lx.lexI_no (Lx.n2 rfl rfl rfl) (fun K hK => ?_); go_simp; refine hK _ ?_; clear hK K)
            | (refine Lx.lexI_pure (v := ?_) rfl (by first | exact Lx.w0 rfl | exact Lx.w1 rfl rfl rfl (by with_reducible rfl)) ?_ (fun K hK => ?_); rotate_left 1; (intro w' hCw; (try dsimp only at hCw); go_simp; done); go_simp; refine hK _ ?_; clear hK K)
            | (refine Lx.lexI_pure (v := ?_) rfl (by first | exact Lx.w0 rfl | exact Lx.w1 rfl rfl rfl (by with_reducible rfl)) ?_ (fun K hK => ?_); rotate_left 1; (intro w' hCw; (try dsimp only at hCw); go_simp; with_reducible rfl); go_simp; refine hK _ ?_; clear hK K)
            | (refine Lx.lexI_read (v := ?_) rfl (by first | exact Lx.w0 rfl | exact Lx.w1 rfl rfl rfl (by with_reducible rfl)) ?_ (fun K hK => ?_); rotate_left 1; (go_simp; done); go_simp; refine hK _ ?_; clear hK K)
            | (refine Lx.lexI_read (v := ?_) rfl (by first | exact Lx.w0 rfl | exact Lx.w1 rfl rfl rfl (by with_reducible rfl)) ?_ (fun K hK => ?_); rotate_left 1; (go_simp; with_reducible rfl); go_simp; refine hK _ ?_; clear hK K)
            | (refine Lx.lexI_eff rfl (by first | exact Lx.w0 rfl | exact Lx.w1 rfl rfl rfl (by with_reducible rfl)) (fun K hK => ?_); go_simp; (first | fail | skip); refine hK _ _ (trivial) ?_; clear hK K))
          all_goals (refine Lx.lexI_nil ?_)
          go_wp2_with fail
          go_roundw
          case rel => exact ⟨k + 1, _, _, by omega, by go_num, (HMK.out.next (wr.heap.size + 1) (wr.heap.size) (.inr ⟨rfl, rfl⟩)).drew⟩
          case measure => simp only [intOf]; omega
        ·
          repeat' (first
            | (refine Lx.lexI_no (Lx.n1 rfl rfl rfl (by with_reducible rfl)) (fun K hK => ?_); go_simp; refine hK _ ?_; clear hK K)
            | (refine Lx.lexI_no (Lx.n0 rfl rfl rfl (by with_reducible rfl)) (fun K hK => ?_); go_simp; refine hK _ ?_; clear hK K)
            | (refine Lx.lexI_no (Lx.n2 rfl rfl rfl) (fun K hK => ?_); go_simp; refine hK _ ?_; clear hK K)
            | (refine Lx.lexI_pure (v := ?_) rfl (by first | exact Lx.w0 rfl | exact Lx.w1 rfl rfl rfl (by with_reducible rfl)) ?_ (fun K hK => ?_); rotate_left 1; (intro w' hCw; (try dsimp only at hCw); go_simp; done); go_simp; refine hK _ ?_; clear hK K)
            | (refine Lx.lexI_pure (v := ?_) rfl (by first | exact Lx.w0 rfl | exact Lx.w1 rfl rfl rfl (by with_reducible rfl)) ?_ (fun K hK => ?_); rotate_left 1; (intro w' hCw; (try dsimp only at hCw); go_simp; with_reducible rfl); go_simp; refine hK _ ?_; clear hK K)
            | (refine Lx.lexI_read (v := ?_) rfl (by first | exact Lx.w0 rfl | exact Lx.w1 rfl rfl rfl (by with_reducible rfl)) ?_ (fun K hK => ?_); rotate_left 1; (go_simp; done); go_simp; refine hK _ ?_; clear hK K)
            | (refine Lx.lexI_read (v := ?_) rfl (by first | exact Lx.w0 rfl | exact Lx.w1 rfl rfl rfl (by with_reducible rfl)) ?_ (fun K hK => ?_); rotate_left 1; (go_simp; with_reducible rfl); go_simp; refine hK _ ?_; clear hK K)
            | (refine Lx.lexI_eff rfl (by first | exact Lx.w0 rfl | exact Lx.w1 rfl rfl rfl (by with_reducible rfl)) (fun K hK => ?_); go_simp; (first | fail | skip); refine hK _ _ (trivial) ?_; clear hK K))
          all_goals (refine Lx.lexI_nil ?_)
          go_wp2_with fail
          go_roundw
          case rel => exact ⟨k + 1, _, _, by omega, by go_num, (HMK.out.next (wr.heap.size) (wr.heap.size + 1) (.inl ⟨rfl, rfl⟩)).drew⟩
          case measure => simp only [intOf]; omega
      · obtain rfl : k = B + 1 := by omega
        have HT := Lib.hid hm.tab
        clear hm HMK HM lv lc hgg
        have b0 := (HT.out.bl.cell (p := ⟨a, 0, none⟩) hal).trans a0
        have x1 := HT.out.cc (Nat.le_refl B)
        have x2 := HT.out.xc (Nat.le_refl B) (s := 0) (by omega)
        have f1 := (HT.out.rc B (Nat.le_refl B)).frozen 0
        have l1 := (HT.out.rc B (Nat.le_refl B)).lt
        have j0 : (0 : Int) < (N : Int) := by omega
        have HT2 : Hid (Tab w (wr.setCell ⟨cb B, 0, none⟩ (.int .i64 1)) B N gv gc vb cb (dpT n B (cnOf l) (nth fx) (valOf vs) 0)) := Lib.hid ((HT.out.setC (s := 0) (Nat.le_refl B) 1).congr (fun r s _ _ => start_zero))
        have j1 : (B : Int) < (B : Int) + 1 := by omega
        have b0' := (HT2.out.bl.cell (p := ⟨a, 0, none⟩) hal).trans a0
        go_wp2_with fail
        clear HT b0 x1 x2 f1 l1 j0 j1 b0'
        go_loopw [8] (fun i wr => ∃ e : Nat, e ≤ B ∧ i = .int .i64 ((e : Int) - 1) ∧ Tab w wr B N gv gc vb cb (dpT n B (cnOf l) (nth fx) (valOf vs) (B - e))) (fun i _ => (intOf i + 1).toNat)
        case atStart => exact ⟨B, Nat.le_refl _, rfl, by rw [Nat.sub_self]; exact HT2.out⟩
        case round =>
          clear HT2
          obtain ⟨e, he, rfl, ht⟩ := hrel
          obtain ⟨wo, rfl⟩ : ∃ wo : World, wo = wr := ⟨_, rfl⟩
          rcases Nat.eq_zero_or_pos e with he0 | he0
          · subst he0
            rw [Nat.sub_zero] at ht
            have hN1' : N - 1 < N := by omega
            have y1 := ht.cv (Nat.zero_le B)
            have y2 := ht.cc (Nat.zero_le B)
            have y3 := ht.xv (Nat.zero_le B) hN1'
            have y4 := ht.xc (Nat.zero_le B) hN1'
            have bl := Lib.hid ht.bl
            have hw1 : IntKind.i64.wrap ((N : Int) - 1) = (N : Int) - 1 := IntWalk.i64_in _ (by omega)
            have i1 : ((N : Int) - 1).toNat = N - 1 := by omega
            have i2 : (0 : Int) ≤ (N : Int) - 1 := by omega
            have i3 : (N : Int) - 1 < (N : Int) := by omega
            have i4 : (1 : Int) ≤ (N : Int) := by omega
            have i5 : (0 : Int) < (B : Int) + 1 := by omega
            have HNN := Eqn.mk (congrArg (· - 1) HN.out)
            clear ht
            have e0 : ((0 : Nat) : Int) - 1 = -1 := rfl
            rw [e0]
            go_wp2_with fail
            refine Lx.region (C := fun _ => True) (hs := []) (by kernel_rfl) (by kernel_rfl) trivial ?_
            repeat' (first
              | (refine Lx.lex_no (Lx.n1 rfl rfl rfl (by with_reducible rfl)) (fun K hK => ?_); go_simp; refine hK _ ?_; clear hK K)
              | (refine Lx.lex_no (Lx.n0 rfl rfl rfl (by with_reducible rfl)) (fun K hK => ?_); go_simp; refine hK _ ?_; clear hK K)
              | (refine Lx.lex_no (Lx.n2 rfl rfl rfl) (fun K hK => ?_); go_simp; refine hK _ ?_; clear hK K)
              | (refine Lx.lex_pure (v := ?_) rfl (by first | exact Lx.w0 rfl | exact Lx.w1 rfl rfl rfl (by with_reducible rfl)) ?_ (fun K hK => ?_); rotate_left 1; (intro w' hCw; (try dsimp only at hCw); go_simp; done); go_simp; refine hK _ ?_; clear hK K)
              | (refine Lx.lex_pure (v := ?_) rfl (by first | exact Lx.w0 rfl | exact Lx.w1 rfl rfl rfl (by with_reducible rfl)) ?_ (fun K hK => ?_); rotate_left 1; (intro w' hCw; (try dsimp only at hCw); go_simp; with_reducible rfl); go_simp; refine hK _ ?_; clear hK K)
              | (refine Lx.lex_read (v := ?_) rfl (by first | exact Lx.w0 rfl | exact Lx.w1 rfl rfl rfl (by with_reducible rfl)) ?_ (fun K hK => ?_); rotate_left 1; (go_simp; done); go_simp; refine hK _ ?_; clear hK K)
              | (refine Lx.lex_read (v := ?_) rfl (by first | exact Lx.w0 rfl | exact Lx.w1 rfl rfl rfl (by with_reducible rfl)) ?_ (fun K hK => ?_); rotate_left 1; (go_simp; with_reducible rfl); go_simp; refine hK _ ?_; clear hK K)
              | (refine Lx.lex_eff rfl (by first | exact Lx.w0 rfl | exact Lx.w1 rfl rfl rfl (by with_reducible rfl)) (fun K hK => ?_); go_simp; (first | fail | skip); refine hK _ _ (trivial) ?_; clear hK K)
              | (refine Lx.lex_cases rfl rfl rfl (fun hgd K hK => ?_) (fun hgd K hK => ?_) <;> (try simp only [decide_eq_true_eq, decide_eq_false_iff_not] at hgd) <;> (first | (exfalso; omega) | (go_simp; refine hK _ ?_; clear hK K))))
            all_goals (refine Lx.lex_nil ?_)
            clear hw1 i1
            go_wp2_with fail
            go_ret2
            refine ⟨?_, bl.out.drew⟩
            rw [show 2 ^ n - 1 = N - 1 from HNN.out.symm]
            rfl
          · obtain ⟨r, rfl⟩ : ∃ r, e = r + 1 := ⟨e - 1, by omega⟩
            obtain ⟨d, hd⟩ : ∃ d, d = B - (r + 1) := ⟨_, rfl⟩
            rw [← hd] at ht
            have hrd : r + (d + 1) = B := by omega
            have HRD := Lib.hid hrd
            have HT := Lib.hid ht
            clear ht hrd
            have er : ((r + 1 : Nat) : Int) - 1 = (r : Int) := by omega
            have j0 : (0 : Int) ≤ (r : Int) := by omega
            rw [er]
            clear er
            have HD := Eqn.mk hd
            clear hd
            go_wp2_with fail
            refine midC a B n N r d gv gc vb cb w _ l vs fx A1 A2 A3 c1 c2 c3 hB' hn HN.out HRD.out HL.out HV.out hal a0 a1 a2 a3 R1.out R2.out R3.out HT.out _ _ _ _ _ _ _ _ _ _ _ _ _ _ _ _ _ _ _ _ _ _ _ _ _ _ _ _ _ _ _ _ _ _ _ _ _ _ _ _ _ _ _ _ _ _ _ _ _ _ _ _ _ _ _ _ _ _ _ _ _ _ _ _ _ _ _ _ _ _ _ _ _ _ _ _ _ _ _ _ _ _ _ _ _ _ _ _ _ _ _ _ _ _ _ _ _ _ _ _ _ _ _ _ _ _ _ _ _ _ _ _ _ _ _ _ _ _ _ _ _ _ _ _ _ _ _ _ _ _ _ _ _ _ _ _ _ _ _ _ _ _ _ _ _ _ _ _ _ _ _ _ _ _ _ _ _ _ _ _ _ _ _ _ _ _ _ _ _ _ _ _ _ _ _ _ _ _ _ _ _ _ _ _ _ _ _ _ _ _ _ _ _ _ _ _ _ _ _ _ _ _ _ _ _ _ _ _ _ _ _ _ _ _ _ _ _ _ _ _ _ _ _ _ _ _ _ ?_
            intro u9 u10 u11 u12 u13 u14 u67 u68 u69 u70 u71 u72 u73 u74 u75 u76 u77 u78 u79 u80 u81 u82 u83 u84 u85 u86 u87 u88 u89 u90 u91 u92 u93 u94 u95 u96 u97 u98 u99 u100 u101 u102 u103 u104 u105 u106 u107 u108 u109 u110 u111 u112 u113 u114 u115 u116 u117 u118 u119 u120 u121 u122 u123 u124 u125 u126 u127 u128 u129 u130 u131 u132 u133 u134 u135 u136 u137 u138 u139 u140 u141 u142 u143 u144 u145 u146 u147 u148 u149 u150 u151 u152 u153 u154 u155 u156 u157 u158 u159 u160 u161 u162 u163 u164 u165 u166 u167 u168 u169 u170 u171 u172 u173 u174 u175 u176 u177 u178 u179 u180 u181 u182 u183 u184 u185 u186 u187 u188 u189 u190 u191 u192 u193 u194 u195 u196 u197 u198 u199 u200 u201 u202 u203 u204 u205 u206 u207 u208 u209 u210 u211 u212 u213 u214 u215 u216 u217 u218 w5 ht5
            have HT5 := Lib.hid ht5
            clear ht5 HT
            go_wp2_with fail
            go_roundw
            case rel => exact ⟨r, by omega, rfl, by rw [show B - r = d + 1 by have := HRD.out; omega]; exact HT5.out⟩
            case measure => simp only [intOf]; omega
end Go.Proofs.Yteckijkmcafpaaa
