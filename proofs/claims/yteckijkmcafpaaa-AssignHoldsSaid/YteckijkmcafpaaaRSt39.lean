/- Contract of the reference's Starts. -/
import Derived.Test.YteckijkmcafpaaaRSol39
import Derived.Test.YteckijkmcafpaaaStart39
import Derived.Deep.DeepCutAuto
namespace Go.Proofs.Yteckijkmcafpaaa
open Go.RowKit

theorem claim_info : (Try.prog.info? 59).map (fun i => (i.zero, i.size, i.bytes)) = some (some (.agg (List.replicate 2 (.int .i64 0)).toArray), 2, 16) := by kernel_rfl

theorem flat_len {α : Type} (sz : Nat) (f : α → Nat → Value) (ys : List α) : (flat sz f ys).length = ys.length * sz := by
  induction ys with
  | nil => simp [flat]
  | cons y ys ih =>
    have : flat sz f (y :: ys) = (List.range sz).map (f y) ++ flat sz f ys := rfl
    rw [this, List.length_append, ih, List.length_cons, Nat.succ_mul]; simp; omega
theorem flat_append {α : Type} (sz : Nat) (f : α → Nat → Value) (xs ys : List α) : flat sz f (xs ++ ys) = flat sz f xs ++ flat sz f ys := by simp [flat]
theorem row_flat {α : Type} {sz : Nat} {f : α → Nat → Value} {w : World} {D g o n : Nat} {l : List α} (hsz : 0 < sz) (h : RowS sz f w D (some ⟨g, o, none⟩) n l) (a m : Nat) : ∀ j u, (flat sz f ((l.drop a).take m))[j]? = some u → w.cell? ((⟨g, o + a * sz, none⟩ : Addr).add j) = some u := by
  intro j u hu
  have hj : j < ((l.drop a).take m).length * sz := by
    rw [← flat_len sz f]; exact (List.getElem?_eq_some_iff.1 hu).1
  have hk : j / sz < ((l.drop a).take m).length := Nat.div_lt_of_lt_mul (by rw [Nat.mul_comm]; exact hj)
  obtain ⟨x, hx⟩ : ∃ x, ((l.drop a).take m)[j / sz]? = some x := ⟨_, List.getElem?_eq_getElem hk⟩
  have h1 := flat_at sz f _ (j / sz) x hx (j % sz) (Nat.mod_lt _ hsz)
  rw [Nat.div_add_mod' j sz] at h1
  rw [h1] at hu
  injection hu with hu
  have hx2 : l[a + j / sz]? = some x := by
    rw [List.getElem?_take] at hx
    split at hx
    · rw [List.getElem?_drop] at hx; exact hx
    · cases hx
  have hn0 : 0 < n := by
    rw [← h.1]
    exact Nat.lt_of_le_of_lt (Nat.zero_le _) (List.getElem?_eq_some_iff.1 hx2).1
  obtain ⟨b, off, he, _, hc⟩ := h.2 hn0
  simp only [Option.some.injEq, Addr.mk.injEq, and_true] at he
  obtain ⟨rfl, rfl⟩ := he
  have h2 := hc (a + j / sz) x hx2 (j % sz) (Nat.mod_lt _ hsz)
  have he2 : o + (a + j / sz) * sz + j % sz = o + a * sz + j := by
    have := Nat.div_add_mod' j sz
    rw [Nat.add_mul]; omega
  rw [he2, hu] at h2
  unfold Addr.add
  by_cases h0 : j = 0
  · subst h0; simpa using h2
  · rw [if_neg h0]; exact h2
theorem flat_one (xs : List Claim) : ∀ u ∈ flat 2 Claim.cell xs, u.oneCell' = true := by
  intro u hu
  unfold flat at hu
  obtain ⟨x, _, hx⟩ := List.mem_flatMap.1 hu
  obtain ⟨j, _, rfl⟩ := List.mem_map.1 hx
  unfold Claim.cell
  split <;> rfl
theorem erase_split {α : Type} (l : List α) (k : Nat) : l.eraseIdx k = l.take k ++ l.drop (k + 1) := by
  rw [List.eraseIdx_eq_take_drop_succ]

theorem okV_nil (l : List Claim) : okV (psOf l [] []) := by
  intro p hp s
  unfold psOf at hp
  obtain ⟨c, _, rfl⟩ := List.mem_map.1 hp
  dsimp only
  unfold fuOf
  split
  · simp [wishF]
  · omega

set_option maxRecDepth 100000 in
set_option maxHeartbeats 8000000 in
theorem rstarts_any (b x : Int) (A : Option Addr) (n c : Nat) (w : World) (l : List Claim) (hn : n ≤ 1000) (hc : n ≤ c) (hcm : c ≤ 9223372036854775807) (hl : RowS 2 Claim.cell w w.heap.size A n l) :
    Calls Try.prog 18 #[.int .i64 b, .slice A n c, .int .i64 x] w (ListPost (startsF b l x) w) := by
  obtain ⟨i0, hi, hz0, hz1, hz2⟩ := info_get int_info
  obtain ⟨i1, hi', hz0', hz1', hz2'⟩ := info_get claim_info
  have Hl := Lib.hid hl
  have Hlen := Eqn.mk hl.1
  clear hl
  cases hv : validF b l with
  | false =>
    have HV := Eqn.mk hv
    have HF : Eqn (startsF b l x) ([], 2) := by unfold startsF; rw [if_neg (by rw [hv]; simp)]; rfl
    clear hv
    go_enter Try.func18, Try.ntmps18
    go_wp2_with fail
    refine (rvalid_any b A n c _ l hn Hl.out).mono ?_
    rw [HV.out]
    rintro e w1 ⟨rfl, hb1⟩
    go_wp2_with fail
    go_ret2
    rw [HF.out]
    exact ⟨_, rfl, World.ownsRow_nil _ _ _ _, hb1⟩
  | true =>
    have HV := Eqn.mk hv
    obtain ⟨v1, v2', v3, v4⟩ := validF_all hv
    obtain ⟨N, rfl⟩ := Int.eq_ofNat_of_zero_le (show 0 ≤ b by omega)
    rcases findC_cases l x with hneg | ⟨k, p, hfk, hp, hpw⟩
    · have HF : Eqn (startsF N l x) ([], 9) := by unfold startsF; rw [if_pos hv, if_pos (by omega)]; rfl
      have HNG := Eqn.mk hneg
      clear hv hneg v4
      go_enter Try.func18, Try.ntmps18
      go_wp2_with fail
      refine (rvalid_any N A n c _ l hn Hl.out).mono ?_
      rw [HV.out]
      rintro e w1 ⟨rfl, hb1⟩
      have B1 := Lib.hid hb1
      clear hb1
      go_wp2_with fail
      refine (rfind_any A n c x _ w.heap.size l hn (by exact Hl.out.below B1.out)).mono ?_
      rw [HNG.out]
      rintro e w2 ⟨rfl, rfl⟩
      go_wp2_with fail
      go_ret2
      rw [HF.out]
      exact ⟨_, rfl, World.ownsRow_nil _ _ _ _, B1.out⟩
    · have hpb := v4 p (List.mem_of_getElem? hp)
      obtain ⟨q, hq⟩ := Int.eq_ofNat_of_zero_le (show 0 ≤ p.cnt by omega)
      have hca : cntAt l (findC l x) = q := by unfold cntAt; rw [hfk, Int.toNat_natCast, hp]; exact hq
      have HF : Eqn (startsF N l x) (startsL l N k q (N + 1 - q), 0) := by
        unfold startsF; rw [if_pos hv, if_neg (by omega), hca, hfk]; rfl
      have hkn : k < n := by rw [← Hlen.out]; exact (List.getElem?_eq_some_iff.1 hp).1
      have HFK := Eqn.mk hfk
      rw [Hlen.out] at v3
      have H4 := Lib.hid v4
      obtain ⟨g1, o1, rfl, hg1, hc1⟩ := Hl.out.2 (by omega)
      have q1 := hc1 k p hp 1 (by omega)
      simp only [Claim.cell] at q1
      rw [hq] at q1 hpb
      have Q1 := Lib.hid q1
      obtain ⟨hp1, hp2, hp3, hp4⟩ := hpb
      have mkB := fun w => mk_bools N (by omega) w
      have j0 : (0 : Int) ≤ (k : Int) := by omega
      have j1 : (k : Int) ≤ (c : Int) := by omega
      have j2 : (k : Int) + 1 ≤ (n : Int) := by omega
      have j3 : (0 : Int) ≤ (k : Int) + 1 := by omega
      have j4 : ((k : Int) + 1).toNat = k + 1 := by omega
      have hwr : IntKind.i64.wrap ((k : Int) + 1) = (k : Int) + 1 := IntWalk.i64_in _ (by omega)
      clear hv v4 hp hfk hca hc1 q1 hq hpw
      go_enter Try.func18, Try.ntmps18
      go_wp2_with fail
      refine (rvalid_any N _ n c _ l hn Hl.out).mono ?_
      rw [HV.out]
      rintro e w1 ⟨rfl, hb1⟩
      have B1 := Lib.hid hb1
      clear hb1
      go_wp2_with fail
      refine (rfind_any _ n c x _ w.heap.size l hn (by exact Hl.out.below B1.out)).mono ?_
      rw [HFK.out]
      rintro e w2 ⟨rfl, rfl⟩
      have RW : Hid (RowS 2 Claim.cell w1.drew w.heap.size (some ⟨g1, o1, none⟩) n l) := Lib.hid (Hl.out.below B1.out.drew)
      go_upto_region 6 with (fail)
      go_cut [9] (fun s9 wx => wx.ownsRow w.heap.size 59 2 s9 (n - 1) (flat 2 Claim.cell (l.eraseIdx k)) ∧ Below w.heap.size w wx)
      case first =>
        by_cases hce : c = k + 1
        · have j5 : ¬ (k : Int) + 1 < (c : Int) := by omega
          have j6 : ¬ k + 1 < c := by omega
          have HCE := Lib.hid hce
          clear hce
          refine Lx.region (C := fun _ => True) (hs := []) (by kernel_rfl) (by kernel_rfl) trivial ?_
          repeat' (first
            | (refine Lx.lex_no (Lx.n1 rfl rfl rfl (by with_reducible rfl)) (fun K hK => ?_); go_simp; refine hK _ ?_; clear hK K)
            | (refine Lx.lex_no (Lx.n0 rfl rfl rfl (by with_reducible rfl)) (fun K hK => ?_); go_simp; refine hK _ ?_; clear hK K)
            | (refine Lx.lex_no (Lx.n2 rfl rfl rfl) (fun K hK => ?_); go_simp; refine hK _ ?_; clear hK K)
            | (refine Lx.lex_pure (v := ?_) rfl (by first | exact Lx.w0 rfl | exact Lx.w1 rfl rfl rfl (by with_reducible rfl)) ?_ (fun K hK => ?_); rotate_left 1; (intro w' hCw; (try dsimp only at hCw); go_simp; done); go_simp; refine hK _ ?_; clear hK K)
            | (refine Lx.lex_pure (v := ?_) rfl (by first | exact Lx.w0 rfl | exact Lx.w1 rfl rfl rfl (by with_reducible rfl)) ?_ (fun K hK => ?_); rotate_left 1; (intro w' hCw; (try dsimp only at hCw); go_simp; with_reducible rfl); go_simp; refine hK _ ?_; clear hK K)
            | (refine Lx.lex_read (v := ?_) rfl (by first | exact Lx.w0 rfl | exact Lx.w1 rfl rfl rfl (by with_reducible rfl)) ?_ (fun K hK => ?_); rotate_left 1; (go_simp; done); go_simp; refine hK _ ?_; clear hK K)
            | (refine Lx.lex_read (v := ?_) rfl (by first | exact Lx.w0 rfl | exact Lx.w1 rfl rfl rfl (by with_reducible rfl)) ?_ (fun K hK => ?_); rotate_left 1; (go_simp; with_reducible rfl); go_simp; refine hK _ ?_; clear hK K)
            | (refine Lx.lex_eff rfl (by first | exact Lx.w0 rfl | exact Lx.w1 rfl rfl rfl (by with_reducible rfl)) (fun K hK => ?_); go_simp; (first | fail | skip); refine hK _ _ (trivial) ?_; clear hK K)
            | (refine Lx.lex_cases rfl rfl rfl (fun hgd K hK => ?_) (fun hgd K hK => ?_) <;> (try simp only [decide_eq_true_eq, decide_eq_false_iff_not] at hgd) <;> (first | (exfalso; omega) | (go_simp; refine hK _ ?_; clear hK K))))
          refine Lx.lex_append rfl rfl _ _ 22 rfl w.heap.size 59 i1 (.agg (List.replicate 2 (.int .i64 0)).toArray) 2 16 Try.underlying22 hi' hz0' hz1' hz2' rfl (by decide) _ 0 [] rfl (World.ownsRow_nil _ _ _ _) ⟨g1, o1, none⟩ k c (flat 2 Claim.cell ((l.drop 0).take k)) rfl (by rw [flat_len, List.drop_zero, List.length_take, Hlen.out, Nat.min_eq_left (by omega)]) (by have := row_flat (by omega) RW.out 0 k; rw [Nat.zero_mul, Nat.add_zero] at this; exact this) (flat_one _) (by unfold maxLen; omega) (by omega) B1.out.size ?_
          intro v3 w3 hown3 hgrow3 hat3
          refine ⟨trivial, ?_⟩
          rw [Nat.zero_add, List.nil_append] at hown3
          have HO3 := Lib.hid hown3
          have B3 : Hid (Below w.heap.size w w3) := Lib.hid (B1.out.drew.grown hgrow3 B1.out.size (fun g hg => by cases hg))
          have RW3 : Hid (RowS 2 Claim.cell w3 w.heap.size (some ⟨g1, o1, none⟩) n l) := Lib.hid (Hl.out.below B3.out)
          clear hown3 hgrow3 hat3
          repeat' (first
            | (refine Lx.lex_no (Lx.n1 rfl rfl rfl (by with_reducible rfl)) (fun K hK => ?_); go_simp; refine hK _ ?_; clear hK K)
            | (refine Lx.lex_no (Lx.n0 rfl rfl rfl (by with_reducible rfl)) (fun K hK => ?_); go_simp; refine hK _ ?_; clear hK K)
            | (refine Lx.lex_no (Lx.n2 rfl rfl rfl) (fun K hK => ?_); go_simp; refine hK _ ?_; clear hK K)
            | (refine Lx.lex_pure (v := ?_) rfl (by first | exact Lx.w0 rfl | exact Lx.w1 rfl rfl rfl (by with_reducible rfl)) ?_ (fun K hK => ?_); rotate_left 1; (intro w' hCw; (try dsimp only at hCw); go_simp; done); go_simp; refine hK _ ?_; clear hK K)
            | (refine Lx.lex_pure (v := ?_) rfl (by first | exact Lx.w0 rfl | exact Lx.w1 rfl rfl rfl (by with_reducible rfl)) ?_ (fun K hK => ?_); rotate_left 1; (intro w' hCw; (try dsimp only at hCw); go_simp; with_reducible rfl); go_simp; refine hK _ ?_; clear hK K)
            | (refine Lx.lex_read (v := ?_) rfl (by first | exact Lx.w0 rfl | exact Lx.w1 rfl rfl rfl (by with_reducible rfl)) ?_ (fun K hK => ?_); rotate_left 1; (go_simp; done); go_simp; refine hK _ ?_; clear hK K)
            | (refine Lx.lex_read (v := ?_) rfl (by first | exact Lx.w0 rfl | exact Lx.w1 rfl rfl rfl (by with_reducible rfl)) ?_ (fun K hK => ?_); rotate_left 1; (go_simp; with_reducible rfl); go_simp; refine hK _ ?_; clear hK K)
            | (refine Lx.lex_eff rfl (by first | exact Lx.w0 rfl | exact Lx.w1 rfl rfl rfl (by with_reducible rfl)) (fun K hK => ?_); go_simp; (first | fail | skip); refine hK _ _ (trivial) ?_; clear hK K)
            | (refine Lx.lex_cases rfl rfl rfl (fun hgd K hK => ?_) (fun hgd K hK => ?_) <;> (try simp only [decide_eq_true_eq, decide_eq_false_iff_not] at hgd) <;> (first | (exfalso; omega) | (go_simp; refine hK _ ?_; clear hK K))))
          rw [if_pos HCE.out]
          have hce := HCE.out
          refine Lx.lex_append rfl rfl _ _ 22 rfl w.heap.size 59 i1 (.agg (List.replicate 2 (.int .i64 0)).toArray) 2 16 Try.underlying22 hi' hz0' hz1' hz2' rfl (by decide) _ k (flat 2 Claim.cell ((l.drop 0).take k)) rfl HO3.out ⟨g1, o1, none⟩ (n - (k + 1)) (c - (k + 1)) [] rfl (by simp; omega) (by intro j u h; simp at h) (by intro u h; cases h) (by unfold maxLen; omega) (by omega) B3.out.size ?_
          intro v4 w4 hown4 hgrow4 hat4
          refine ⟨trivial, ?_⟩
          have HO4 : Hid (w4.ownsRow w.heap.size 59 2 v4 (n - 1) (flat 2 Claim.cell (l.eraseIdx k))) := Lib.hid (by
            have he : l.eraseIdx k = (l.drop 0).take k := by
              rw [erase_split, List.drop_zero, drop_end (xs := l) (by rw [Hlen.out]; omega), List.append_nil]
            rw [he, show n - 1 = k + (n - (k + 1)) by omega, ← List.append_nil (flat 2 Claim.cell ((l.drop 0).take k))]
            exact hown4)
          have B4 : Hid (Below w.heap.size w w4) := Lib.hid (B3.out.grown hgrow4 B3.out.size (own_ge HO3.out))
          clear hown4 hgrow4 hat4 hce
          repeat' (first
            | (refine Lx.lex_no (Lx.n1 rfl rfl rfl (by with_reducible rfl)) (fun K hK => ?_); go_simp; refine hK _ ?_; clear hK K)
            | (refine Lx.lex_no (Lx.n0 rfl rfl rfl (by with_reducible rfl)) (fun K hK => ?_); go_simp; refine hK _ ?_; clear hK K)
            | (refine Lx.lex_no (Lx.n2 rfl rfl rfl) (fun K hK => ?_); go_simp; refine hK _ ?_; clear hK K)
            | (refine Lx.lex_pure (v := ?_) rfl (by first | exact Lx.w0 rfl | exact Lx.w1 rfl rfl rfl (by with_reducible rfl)) ?_ (fun K hK => ?_); rotate_left 1; (intro w' hCw; (try dsimp only at hCw); go_simp; done); go_simp; refine hK _ ?_; clear hK K)
            | (refine Lx.lex_pure (v := ?_) rfl (by first | exact Lx.w0 rfl | exact Lx.w1 rfl rfl rfl (by with_reducible rfl)) ?_ (fun K hK => ?_); rotate_left 1; (intro w' hCw; (try dsimp only at hCw); go_simp; with_reducible rfl); go_simp; refine hK _ ?_; clear hK K)
            | (refine Lx.lex_read (v := ?_) rfl (by first | exact Lx.w0 rfl | exact Lx.w1 rfl rfl rfl (by with_reducible rfl)) ?_ (fun K hK => ?_); rotate_left 1; (go_simp; done); go_simp; refine hK _ ?_; clear hK K)
            | (refine Lx.lex_read (v := ?_) rfl (by first | exact Lx.w0 rfl | exact Lx.w1 rfl rfl rfl (by with_reducible rfl)) ?_ (fun K hK => ?_); rotate_left 1; (go_simp; with_reducible rfl); go_simp; refine hK _ ?_; clear hK K)
            | (refine Lx.lex_eff rfl (by first | exact Lx.w0 rfl | exact Lx.w1 rfl rfl rfl (by with_reducible rfl)) (fun K hK => ?_); go_simp; (first | fail | skip); refine hK _ _ (trivial) ?_; clear hK K)
            | (refine Lx.lex_cases rfl rfl rfl (fun hgd K hK => ?_) (fun hgd K hK => ?_) <;> (try simp only [decide_eq_true_eq, decide_eq_false_iff_not] at hgd) <;> (first | (exfalso; omega) | (go_simp; refine hK _ ?_; clear hK K))))
          all_goals (refine Lx.lex_nil ?_)
          go_wp2_with fail
          go_meet
          exact ⟨HO4.out, B4.out⟩
        · have j5 : (k : Int) + 1 < (c : Int) := by omega
          have j6 : k + 1 < c := by omega
          refine Lx.region (C := fun _ => True) (hs := []) (by kernel_rfl) (by kernel_rfl) trivial ?_
          repeat' (first
            | (refine Lx.lex_no (Lx.n1 rfl rfl rfl (by with_reducible rfl)) (fun K hK => ?_); go_simp; refine hK _ ?_; clear hK K)
            | (refine Lx.lex_no (Lx.n0 rfl rfl rfl (by with_reducible rfl)) (fun K hK => ?_); go_simp; refine hK _ ?_; clear hK K)
            | (refine Lx.lex_no (Lx.n2 rfl rfl rfl) (fun K hK => ?_); go_simp; refine hK _ ?_; clear hK K)
            | (refine Lx.lex_pure (v := ?_) rfl (by first | exact Lx.w0 rfl | exact Lx.w1 rfl rfl rfl (by with_reducible rfl)) ?_ (fun K hK => ?_); rotate_left 1; (intro w' hCw; (try dsimp only at hCw); go_simp; done); go_simp; refine hK _ ?_; clear hK K)
            | (refine Lx.lex_pure (v := ?_) rfl (by first | exact Lx.w0 rfl | exact Lx.w1 rfl rfl rfl (by with_reducible rfl)) ?_ (fun K hK => ?_); rotate_left 1; (intro w' hCw; (try dsimp only at hCw); go_simp; with_reducible rfl); go_simp; refine hK _ ?_; clear hK K)
            | (refine Lx.lex_read (v := ?_) rfl (by first | exact Lx.w0 rfl | exact Lx.w1 rfl rfl rfl (by with_reducible rfl)) ?_ (fun K hK => ?_); rotate_left 1; (go_simp; done); go_simp; refine hK _ ?_; clear hK K)
            | (refine Lx.lex_read (v := ?_) rfl (by first | exact Lx.w0 rfl | exact Lx.w1 rfl rfl rfl (by with_reducible rfl)) ?_ (fun K hK => ?_); rotate_left 1; (go_simp; with_reducible rfl); go_simp; refine hK _ ?_; clear hK K)
            | (refine Lx.lex_eff rfl (by first | exact Lx.w0 rfl | exact Lx.w1 rfl rfl rfl (by with_reducible rfl)) (fun K hK => ?_); go_simp; (first | fail | skip); refine hK _ _ (trivial) ?_; clear hK K)
            | (refine Lx.lex_cases rfl rfl rfl (fun hgd K hK => ?_) (fun hgd K hK => ?_) <;> (try simp only [decide_eq_true_eq, decide_eq_false_iff_not] at hgd) <;> (first | (exfalso; omega) | (go_simp; refine hK _ ?_; clear hK K))))
          refine Lx.lex_append rfl rfl _ _ 22 rfl w.heap.size 59 i1 (.agg (List.replicate 2 (.int .i64 0)).toArray) 2 16 Try.underlying22 hi' hz0' hz1' hz2' rfl (by decide) _ 0 [] rfl (World.ownsRow_nil _ _ _ _) ⟨g1, o1, none⟩ k c (flat 2 Claim.cell ((l.drop 0).take k)) rfl (by rw [flat_len, List.drop_zero, List.length_take, Hlen.out, Nat.min_eq_left (by omega)]) (by have := row_flat (by omega) RW.out 0 k; rw [Nat.zero_mul, Nat.add_zero] at this; exact this) (flat_one _) (by unfold maxLen; omega) (by omega) B1.out.size ?_
          intro v3 w3 hown3 hgrow3 hat3
          refine ⟨trivial, ?_⟩
          rw [Nat.zero_add, List.nil_append] at hown3
          have HO3 := Lib.hid hown3
          have B3 : Hid (Below w.heap.size w w3) := Lib.hid (B1.out.drew.grown hgrow3 B1.out.size (fun g hg => by cases hg))
          have RW3 : Hid (RowS 2 Claim.cell w3 w.heap.size (some ⟨g1, o1, none⟩) n l) := Lib.hid (Hl.out.below B3.out)
          clear hown3 hgrow3 hat3
          repeat' (first
            | (refine Lx.lex_no (Lx.n1 rfl rfl rfl (by with_reducible rfl)) (fun K hK => ?_); go_simp; refine hK _ ?_; clear hK K)
            | (refine Lx.lex_no (Lx.n0 rfl rfl rfl (by with_reducible rfl)) (fun K hK => ?_); go_simp; refine hK _ ?_; clear hK K)
            | (refine Lx.lex_no (Lx.n2 rfl rfl rfl) (fun K hK => ?_); go_simp; refine hK _ ?_; clear hK K)
            | (refine Lx.lex_pure (v := ?_) rfl (by first | exact Lx.w0 rfl | exact Lx.w1 rfl rfl rfl (by with_reducible rfl)) ?_ (fun K hK => ?_); rotate_left 1; (intro w' hCw; (try dsimp only at hCw); go_simp; done); go_simp; refine hK _ ?_; clear hK K)
            | (refine Lx.lex_pure (v := ?_) rfl (by first | exact Lx.w0 rfl | exact Lx.w1 rfl rfl rfl (by with_reducible rfl)) ?_ (fun K hK => ?_); rotate_left 1; (intro w' hCw; (try dsimp only at hCw); go_simp; with_reducible rfl); go_simp; refine hK _ ?_; clear hK K)
            | (refine Lx.lex_read (v := ?_) rfl (by first | exact Lx.w0 rfl | exact Lx.w1 rfl rfl rfl (by with_reducible rfl)) ?_ (fun K hK => ?_); rotate_left 1; (go_simp; done); go_simp; refine hK _ ?_; clear hK K)
            | (refine Lx.lex_read (v := ?_) rfl (by first | exact Lx.w0 rfl | exact Lx.w1 rfl rfl rfl (by with_reducible rfl)) ?_ (fun K hK => ?_); rotate_left 1; (go_simp; with_reducible rfl); go_simp; refine hK _ ?_; clear hK K)
            | (refine Lx.lex_eff rfl (by first | exact Lx.w0 rfl | exact Lx.w1 rfl rfl rfl (by with_reducible rfl)) (fun K hK => ?_); go_simp; (first | fail | skip); refine hK _ _ (trivial) ?_; clear hK K)
            | (refine Lx.lex_cases rfl rfl rfl (fun hgd K hK => ?_) (fun hgd K hK => ?_) <;> (try simp only [decide_eq_true_eq, decide_eq_false_iff_not] at hgd) <;> (first | (exfalso; omega) | (go_simp; refine hK _ ?_; clear hK K))))
          refine Lx.lex_append rfl rfl _ _ 22 rfl w.heap.size 59 i1 (.agg (List.replicate 2 (.int .i64 0)).toArray) 2 16 Try.underlying22 hi' hz0' hz1' hz2' rfl (by decide) _ k (flat 2 Claim.cell ((l.drop 0).take k)) rfl HO3.out ⟨g1, o1 + (k + 1) * 2, none⟩ (n - (k + 1)) (c - (k + 1)) (flat 2 Claim.cell ((l.drop (k + 1)).take (n - (k + 1)))) rfl (by rw [flat_len, List.length_take, List.length_drop, Hlen.out, Nat.min_self]) (by exact row_flat (by omega) RW3.out (k + 1) (n - (k + 1))) (flat_one _) (by unfold maxLen; omega) (by omega) B3.out.size ?_
          intro v4 w4 hown4 hgrow4 hat4
          refine ⟨trivial, ?_⟩
          have HO4 : Hid (w4.ownsRow w.heap.size 59 2 v4 (n - 1) (flat 2 Claim.cell (l.eraseIdx k))) := Lib.hid (by
            have he : l.eraseIdx k = (l.drop 0).take k ++ (l.drop (k + 1)).take (n - (k + 1)) := by
              rw [erase_split, List.drop_zero, List.take_of_length_le (l := l.drop (k + 1)) (by rw [List.length_drop, Hlen.out]; omega)]
            rw [he, flat_append, show n - 1 = k + (n - (k + 1)) by omega]
            exact hown4)
          have B4 : Hid (Below w.heap.size w w4) := Lib.hid (B3.out.grown hgrow4 B3.out.size (own_ge HO3.out))
          clear hown4 hgrow4 hat4
          repeat' (first
            | (refine Lx.lex_no (Lx.n1 rfl rfl rfl (by with_reducible rfl)) (fun K hK => ?_); go_simp; refine hK _ ?_; clear hK K)
            | (refine Lx.lex_no (Lx.n0 rfl rfl rfl (by with_reducible rfl)) (fun K hK => ?_); go_simp; refine hK _ ?_; clear hK K)
            | (refine Lx.lex_no (Lx.n2 rfl rfl rfl) (fun K hK => ?_); go_simp; refine hK _ ?_; clear hK K)
            | (refine Lx.lex_pure (v := ?_) rfl (by first | exact Lx.w0 rfl | exact Lx.w1 rfl rfl rfl (by with_reducible rfl)) ?_ (fun K hK => ?_); rotate_left 1; (intro w' hCw; (try dsimp only at hCw); go_simp; done); go_simp; refine hK _ ?_; clear hK K)
            | (refine Lx.lex_pure (v := ?_) rfl (by first | exact Lx.w0 rfl | exact Lx.w1 rfl rfl rfl (by with_reducible rfl)) ?_ (fun K hK => ?_); rotate_left 1; (intro w' hCw; (try dsimp only at hCw); go_simp; with_reducible rfl); go_simp; refine hK _ ?_; clear hK K)
            | (refine Lx.lex_read (v := ?_) rfl (by first | exact Lx.w0 rfl | exact Lx.w1 rfl rfl rfl (by with_reducible rfl)) ?_ (fun K hK => ?_); rotate_left 1; (go_simp; done); go_simp; refine hK _ ?_; clear hK K)
            | (refine Lx.lex_read (v := ?_) rfl (by first | exact Lx.w0 rfl | exact Lx.w1 rfl rfl rfl (by with_reducible rfl)) ?_ (fun K hK => ?_); rotate_left 1; (go_simp; with_reducible rfl); go_simp; refine hK _ ?_; clear hK K)
            | (refine Lx.lex_eff rfl (by first | exact Lx.w0 rfl | exact Lx.w1 rfl rfl rfl (by with_reducible rfl)) (fun K hK => ?_); go_simp; (first | fail | skip); refine hK _ _ (trivial) ?_; clear hK K)
            | (refine Lx.lex_cases rfl rfl rfl (fun hgd K hK => ?_) (fun hgd K hK => ?_) <;> (try simp only [decide_eq_true_eq, decide_eq_false_iff_not] at hgd) <;> (first | (exfalso; omega) | (go_simp; refine hK _ ?_; clear hK K))))
          all_goals (refine Lx.lex_nil ?_)
          go_wp2_with fail
          go_meet
          exact ⟨HO4.out, B4.out⟩
      case rest =>
        obtain ⟨wy, rfl⟩ : ∃ wy : World, wy = wc := ⟨_, rfl⟩
        obtain ⟨hox, hbx⟩ := hcut
        obtain ⟨A9, c9, hv9, hr9⟩ := own_formS (by omega) hox
        subst hv9
        have RX := Lib.hid hr9
        have BX := Lib.hid hbx
        clear hox hbx hr9
        have HOK : Hid (okV (psOf (l.eraseIdx k) [] [])) := Lib.hid (okV_nil _)
        have H4E : Hid (∀ c ∈ l.eraseIdx k, 1 ≤ c.cnt ∧ c.cnt ≤ (N : Int)) := Lib.hid (fun c hc => ⟨(H4.out c (List.mem_of_mem_eraseIdx hc)).2.2.1, (H4.out c (List.mem_of_mem_eraseIdx hc)).2.2.2⟩)
        have hqw : IntKind.i64.wrap ((N : Int) - (q : Int)) = (N : Int) - (q : Int) := IntWalk.i64_in _ (by omega)
        have HQW := Eqn.mk hqw
        clear hqw
        have hgy : g1 < wy.heap.size := Nat.lt_of_lt_of_le hg1 BX.out.size
        go_wp2_with fail
        go_loopw [10, 11] (fun v i wr => ∃ s : Nat, s ≤ N + 1 - q ∧ i = .int .i64 s ∧ wr.ownsRow wy.heap.size 3 1 v (startsL l N k q s).length ((startsL l N k q s).map intV) ∧ Below wy.heap.size wy wr) (fun _ i _ => N + 1 - q - (intOf i).toNat)
        case atStart => exact ⟨0, Nat.zero_le _, rfl, World.ownsRow_nil _ _ _ _, Below.refl _ _⟩
        case round =>
          obtain ⟨s, hs, rfl, ho, HW⟩ := hrel
          have HWW := Lib.hid HW
          have hws := HW.size
          have BW : Hid (Below w.heap.size w wr) := Lib.hid (BX.out.trans (HW.mono BX.out.size))
          have d1 := (BW.out.cell (p := ⟨g1, o1 + k * 2 + 1, none⟩) hg1).trans Q1.out
          have j1 : (k : Int) < (n : Int) := by omega
          have HOO := Lib.hid ho
          have hqw := HQW.out
          have hgw : g1 < wr.heap.size := Nat.lt_of_lt_of_le hg1 BW.out.size
          obtain ⟨wi, rfl⟩ : ∃ wi : World, wi = wr := ⟨_, rfl⟩
          by_cases hlt : s < N + 1 - q
          · have t1 : (s : Int) ≤ (N : Int) - (q : Int) := by omega
            have HSU := Eqn.mk (startsL_succ l N k q s)
            have HLN := startsL_len l N k q s
            obtain ⟨sr, hsr⟩ : ∃ sr, srF (psOf (l.eraseIdx k) [] []) (markU (List.replicate N false) s q) = sr := ⟨_, rfl⟩
            have HST : Eqn (startT l N k q s) sr.1 := by unfold startT Eqn; rw [hsr]
            have HSR := Eqn.mk hsr
            obtain ⟨s1, s2, s3⟩ := sr
            dsimp only at HST
            have BM : Hid (Below wy.heap.size wy ((wi.alloc (.cells (tabL N fun _ => .bool false).toArray 4)).drew)) := Lib.hid ((HW.alloc hws _).drew)
            have RUB : Hid (Row1 boolV ((wi.alloc (.cells (tabL N fun _ => .bool false).toArray 4)).drew) ((wi.alloc (.cells (tabL N fun _ => .bool false).toArray 4)).drew).heap.size (some ⟨wi.heap.size, 0, none⟩) N (List.replicate N false)) := Lib.hid (((row_bools N wi).below (Below.refl _ _).drew).up (by simp))
            have OM : Hid (((wi.alloc (.cells (tabL N fun _ => .bool false).toArray 4)).drew).ownsRow wy.heap.size 3 1 u10 (startsL l N k q s).length ((startsL l N k q s).map intV)) := Lib.hid ((ho.alloc _).drew)
            have CM : Hid (((wi.alloc (.cells (tabL N fun _ => .bool false).toArray 4)).drew).cell? ⟨g1, o1 + k * 2 + 1, none⟩ = some (.int .i64 (q : Int))) := Lib.hid (((BW.out.alloc BW.out.size _).drew.cell (p := ⟨g1, o1 + k * 2 + 1, none⟩) hg1).trans Q1.out)
            clear ho HW hsr
            go_upto_region 11 with (fail)
            go_cut [12, 13, 14] from 44 to 60 (fun s12 _ _ wx => s12 = .bool s1 ∧ wx.ownsRow wy.heap.size 3 1 u10 (startsL l N k q s).length ((startsL l N k q s).map intV) ∧ Below wy.heap.size wy wx)
            case first =>
              refine Lx.region (C := fun w' => w'.cell? ⟨g1, o1 + k * 2 + 1, none⟩ = some (.int .i64 (q : Int))) (hs := [8]) (by kernel_rfl) (by kernel_rfl) (by exact d1) ?_
              repeat' (first
                | (refine Lx.lex_no (Lx.n1 rfl rfl rfl (by with_reducible rfl)) (fun K hK => ?_); go_simp; refine hK _ ?_; clear hK K)
                | (refine Lx.lex_no (Lx.n0 rfl rfl rfl (by with_reducible rfl)) (fun K hK => ?_); go_simp; refine hK _ ?_; clear hK K)
                | (refine Lx.lex_no (Lx.n2 rfl rfl rfl) (fun K hK => ?_); go_simp; refine hK _ ?_; clear hK K)
                | (refine Lx.lex_pure (v := ?_) rfl (by first | exact Lx.w0 rfl | exact Lx.w1 rfl rfl rfl (by with_reducible rfl)) ?_ (fun K hK => ?_); rotate_left 1; (intro w' hCw; (try dsimp only at hCw); go_simp; done); go_simp; refine hK _ ?_; clear hK K)
                | (refine Lx.lex_pure (v := ?_) rfl (by first | exact Lx.w0 rfl | exact Lx.w1 rfl rfl rfl (by with_reducible rfl)) ?_ (fun K hK => ?_); rotate_left 1; (intro w' hCw; (try dsimp only at hCw); go_simp; with_reducible rfl); go_simp; refine hK _ ?_; clear hK K)
                | (refine Lx.lex_read (v := ?_) rfl (by first | exact Lx.w0 rfl | exact Lx.w1 rfl rfl rfl (by with_reducible rfl)) ?_ (fun K hK => ?_); rotate_left 1; (go_simp; done); go_simp; refine hK _ ?_; clear hK K)
                | (refine Lx.lex_read (v := ?_) rfl (by first | exact Lx.w0 rfl | exact Lx.w1 rfl rfl rfl (by with_reducible rfl)) ?_ (fun K hK => ?_); rotate_left 1; (go_simp; with_reducible rfl); go_simp; refine hK _ ?_; clear hK K)
                | (refine Lx.lex_eff rfl (by first | exact Lx.w0 rfl | exact Lx.w1 rfl rfl rfl (by with_reducible rfl)) (fun K hK => ?_); go_simp; (first | (go_at_call 40; refine (mark_any _ N N s q _ (List.replicate N false) (by omega) (by omega) (by omega) (by exact RUB.out)).mono ?_; rintro e w5 ⟨g', c', rfl, ho5, hb5⟩; obtain ⟨A5, c5, hv5, hr5⟩ := row1_of_own ho5; injection hv5 with hv5 _ hv6; subst hv5 hv6; rw [markU_len, List.length_replicate] at hr5; rw [markU_len, List.length_replicate]; have R5 := Lib.hid hr5; have B5 : Hid (Below wy.heap.size wy w5) := Lib.hid (BM.out.trans (hb5.mono BM.out.size)); have O5 := Lib.hid (own_keep OM.out hb5); have C5 := Lib.hid ((hb5.cell (p := ⟨g1, o1 + k * 2 + 1, none⟩) (by simp; omega)).trans CM.out); clear ho5 hr5 hb5) | (go_at_call 39; refine (search_any A9 (n - 1) c9 (l.eraseIdx k) (by omega) none 0 0 [] (by omega) none 0 0 [] (by omega) HOK.out (n - 1) 0 _ _ N _ (markU (List.replicate N false) s q) (by omega) (by omega) (by omega) H4E.out (by exact (RX.out.below B5.out).up B5.out.size) (RowS.nil _ _ _ _ _) ⟨rfl, fun h => absurd h (Nat.lt_irrefl 0)⟩ (by exact R5.out)).mono ?_; rw [List.drop_zero, HSR.out]; rintro e w6 ⟨v6, rfl, ho6, hb6⟩; have B6 : Hid (Below wy.heap.size wy w6) := Lib.hid (B5.out.trans (hb6.mono B5.out.size)); have O6 := Lib.hid (own_keep O5.out hb6); have C6 := Lib.hid ((hb6.cell (p := ⟨g1, o1 + k * 2 + 1, none⟩) (Nat.lt_of_lt_of_le hgy B5.out.size)).trans C5.out); clear ho6 hb6) | skip); refine hK _ _ (by first | exact C6.out | exact C5.out | exact CM.out) ?_; clear hK K)
                | (refine Lx.lex_cases rfl rfl rfl (fun hgd K hK => ?_) (fun hgd K hK => ?_) <;> (try simp only [decide_eq_true_eq, decide_eq_false_iff_not] at hgd) <;> (first | (exfalso; omega) | (go_simp; refine hK _ ?_; clear hK K))))
              all_goals (refine Lx.lex_nil ?_)
              go_wp2_with fail
              go_meet
              exact ⟨rfl, O6.out, B6.out⟩
            case rest =>
              obtain ⟨rfl, hox, hbx⟩ := hcut
              have OX := Lib.hid hox
              have BXX := Lib.hid hbx
              have hsx := hbx.size
              clear hox hbx RUB OM CM BM HWW HOO BW
              cases s1 with
              | true =>
                rw [HST.out, if_pos rfl] at HSU
                go_wp2_with (at_builtin; refine wpList_append_own_at _ rfl _ _ 27 rfl wy.heap.size 3 i0 (.int .i64 0) 1 8 Try.underlying27 hi hz0 hz1 hz2 rfl (by decide) _ _ _ rfl (OX.out.alloc _) ⟨wc.heap.size, 0, none⟩ 1 1 [.int .i64 (s : Int)] rfl rfl (cell_one_new _ _ _) (by simp [Value.oneCell']) (by unfold maxLen; omega) (by omega) (by simp; omega) ?_; intro v' w6 hown6 hgrow6 hnil6 hat6)
                have HB6 := Lib.hid ((BXX.out.alloc hsx _).grown hgrow6 (by simp; omega) (own_ge OX.out))
                have HO6 : Hid (w6.ownsRow wy.heap.size 3 1 v' (startsL l N k q (s + 1)).length ((startsL l N k q (s + 1)).map intV)) := Lib.hid (by rw [HSU.out, List.length_append, List.map_append]; exact hown6)
                clear hown6 hgrow6 hnil6 hat6
                go_wp2_with fail
                go_roundw
                case rel => exact ⟨s + 1, by omega, by go_num, HO6.out, HB6.out⟩
                case measure => simp only [intOf]; omega
              | false =>
                rw [HST.out, if_neg (by simp)] at HSU
                have HO5 : Hid (wc.ownsRow wy.heap.size 3 1 u10 (startsL l N k q (s + 1)).length ((startsL l N k q (s + 1)).map intV)) := Lib.hid (by rw [HSU.out]; exact OX.out)
                go_wp2_with fail
                go_roundw
                case rel => exact ⟨s + 1, by omega, by go_num, HO5.out, BXX.out⟩
                case measure => simp only [intOf]; omega
          · obtain rfl : s = N + 1 - q := by omega
            have t1 : ¬ ((N + 1 - q : Nat) : Int) ≤ (N : Int) - (q : Int) := by omega
            have BF : Hid (Below w.heap.size w wi) := BW
            have OF := Lib.hid (own_low HOO.out BX.out.size)
            clear ho HW
            go_wp2_with fail
            go_ret2
            rw [HF.out]
            exact ⟨_, rfl, OF.out, BF.out⟩
end Go.Proofs.Yteckijkmcafpaaa
