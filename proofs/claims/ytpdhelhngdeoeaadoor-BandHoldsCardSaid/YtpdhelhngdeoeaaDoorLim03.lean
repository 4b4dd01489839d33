/- Contracts of problem.ValidRules and what it calls. -/
import Derived.Lib.AppendZerosOnto
import Derived.IntWalk
import Derived.Test.YtpdhelhngdeoeaaDoorLim01
import Derived.Test.YtpdhelhngdeoeaaDoorLim02
/- Contracts of band.Channels, of the reference's Channels and of SameInts; the plain law that the two Channels agree. -/
namespace Go.Proofs.YtpdhelhngdeoeaaDoor
open Go.RowKit

theorem own_fresh {W : World} {base e size n : Nat} {v : Value} {xs : List Value} (h : W.ownsRow base e size v n xs) {k : Nat} (hk : W.heap.size ≤ k) : some k ≠ v.ownBlock := by
  rcases h.2 with ⟨rfl, _⟩ | ⟨g', cap, cur, rfl, _, hgb, _⟩
  · simp [Value.ownBlock]
  · intro e'
    simp [Value.ownBlock] at e'
    have := (Array.getElem?_eq_some_iff.1 hgb).1
    omega
def ListPair (r : List Int × Int) (w : World) (e : Ending) (w' : World) : Prop := ∃ v, e = .returned (.tuple #[v, .int .i64 r.2]) ∧ w'.ownsRow w.heap.size 3 1 v r.1.length (r.1.map intV) ∧ Below w.heap.size w w'
/-- k numbers from lo on -/
def upto (lo k : Nat) : List Int := (List.range k).map fun i => ((lo + i : Nat) : Int)
theorem upto_succ (lo k : Nat) : upto lo (k + 1) = upto lo k ++ [((lo + k : Nat) : Int)] := by unfold upto; rw [List.range_succ, List.map_append]; rfl
theorem upto_len (lo k : Nat) : (upto lo k).length = k := by unfold upto; simp
/-- how many channels a band has, and its first one -/
def bandN (n : Int) : Nat × Nat := if n = 1 then (2, 5) else if n = 2 then (7, 7) else if n = 3 then (14, 38) else (0, 0)
def chF (n t : Int) : List Int × Int := if n < 1 ∨ 3 < n ∨ vldT t = false then ([], 2) else ((upto (bandN n).1 (bandN n).2).filter (leftP t), 0)
theorem rng_band {n : Int} (h1 : 1 ≤ n) (h3 : n ≤ 3) : rngF n = (((bandN n).1 : Int), ((bandN n).1 : Int) + ((bandN n).2 : Int) - 1, 0) ∧ (bandN n).2 ≤ 38 ∧ (bandN n).1 ≤ 14 ∧ 1 ≤ (bandN n).2 := by
  have : n = 1 ∨ n = 2 ∨ n = 3 := by omega
  rcases this with rfl | rfl | rfl <;> decide

set_option maxRecDepth 100000 in
set_option maxHeartbeats 2000000 in
theorem channels_any (n t : Int) (w : World) : Calls Tryd.prog 26 #[.int .i64 n, .agg #[.int .i64 t]] w (ListPair (chF n t) w) := by
  obtain ⟨W0, hW0⟩ : ∃ W0, W0 = w.alloc (.cells #[.int .i64 t] 40) := ⟨_, rfl⟩
  have hc0 : W0.cell? ⟨w.heap.size, 0, none⟩ = some (.int .i64 t) := by rw [hW0]; simp [go_sem]
  have hB0 : Below w.heap.size w W0 := by rw [hW0]; exact (Below.refl _ w).alloc (Nat.le_refl _) _
  have h0s : W0.heap.size = w.heap.size + 1 := by rw [hW0]; simp
  have HB0 := Lib.hid hB0
  clear hB0
  by_cases hn : n < 1 ∨ 3 < n
  · have HF : Eqn (chF n t) ([], 2) := by rw [Eqn, chF, if_pos (by omega)]
    have hr : Eqn (rngF n) (0, 0, 2) := by rw [Eqn, rngF, if_neg (by omega), if_neg (by omega), if_neg (by omega)]
    rw [HF.out]
    have HR := Lib.hid (fun W => range_any n W)
    rw [hr.out] at HR
    clear HF hr hn
    go_enter Tryd.func26, Tryd.ntmps26
    go_wp2_with fail
    rw [← hW0]
    clear hW0
    refine (HR.out _).mono ?_
    rintro e w1 ⟨rfl, rfl⟩
    dsimp only [v3]
    go_wp2_with fail
    refine bodyPost_ret (v := .tuple #[.slice none 0 0, .int .i64 2]) (by simp [results, Tryd.results26, go_sem]) rfl ⟨_, rfl, World.ownsRow_nil _ _ _ _, HB0.out⟩
  · obtain ⟨hr, h38, h14, h1n⟩ := rng_band (n := n) (by omega) (by omega)
    have HR := Lib.hid (fun W => range_any n W)
    rw [hr] at HR
    dsimp only [v3] at HR
    have HVL := Lib.hid (fun W => bvalid_any t W)
    cases hv : vldT t with
    | false =>
      have HF : Eqn (chF n t) ([], 2) := by rw [Eqn, chF, if_pos (.inr (.inr hv))]
      rw [HF.out]
      rw [hv] at HVL
      generalize bandN n = bn at *
      obtain ⟨lo, m⟩ := bn
      dsimp only at *
      clear HF hr hn hv
      go_enter Tryd.func26, Tryd.ntmps26
      go_wp2_with fail
      rw [← hW0]
      clear hW0
      refine (HR.out _).mono ?_
      rintro e w1 ⟨rfl, rfl⟩
      go_wp2_with fail
      refine (HVL.out _).mono ?_
      rintro e W1 ⟨rfl, hb1⟩
      have HB1 := Lib.hid (HB0.out.trans (hb1.mono HB0.out.size))
      clear hb1
      go_wp2_with fail
      refine bodyPost_ret (v := .tuple #[.slice none 0 0, .int .i64 2]) (by simp [results, Tryd.results26, go_sem]) rfl ⟨_, rfl, World.ownsRow_nil _ _ _ _, HB1.out⟩
    | true =>
      have HF : Eqn (chF n t) ((upto (bandN n).1 (bandN n).2).filter (leftP t), 0) := by rw [Eqn, chF, if_neg (by rw [hv]; simp; omega)]
      rw [HF.out]
      rw [hv] at HVL
      generalize bandN n = bn at *
      obtain ⟨lo, m⟩ := bn
      dsimp only at *
      clear HF hr hn hv
      go_enter Tryd.func26, Tryd.ntmps26
      go_wp2_with fail
      rw [← hW0]
      clear hW0
      refine (HR.out _).mono ?_
      rintro e w1 ⟨rfl, rfl⟩
      go_wp2_with fail
      refine (HVL.out _).mono ?_
      rintro e W1 ⟨rfl, hb1⟩
      have HB1 := Lib.hid (HB0.out.trans (hb1.mono HB0.out.size))
      have hc1 : W1.cell? ⟨w.heap.size, 0, none⟩ = some (.int .i64 t) := (hb1.cell (p := ⟨w.heap.size, 0, none⟩) (by dsimp only; omega)).trans hc0
      have hs1 := hb1.size
      clear hb1 hc0
      go_wp2_with fail
      go_loopw [9, 10] (fun v i wr => ∃ k : Nat, k ≤ m ∧ i = .int .i64 ((lo + k : Nat) : Int) ∧ wr.ownsRow W1.heap.size 3 1 v ((upto lo k).filter (leftP t)).length (((upto lo k).filter (leftP t)).map intV) ∧ Below W1.heap.size W1 wr) (fun _ i _ => lo + m - (intOf i).toNat)
      case atStart => exact ⟨0, Nat.zero_le _, rfl, World.ownsRow_nil _ _ _ _, Below.refl _ _⟩
      case round =>
        obtain ⟨k, hk, rfl, hO, hB⟩ := hrel
        have hlen : ((upto lo k).filter (leftP t)).length ≤ 38 := by
          have := List.length_filter_le (leftP t) (upto lo k)
          rw [upto_len] at this
          omega
        obtain ⟨A1, c1, rfl, _⟩ := row1_of_own hO
        have hcr : wr.cell? ⟨w.heap.size, 0, none⟩ = some (.int .i64 t) := (hB.cell (p := ⟨w.heap.size, 0, none⟩) (by dsimp only; omega)).trans hc1
        have hbs := hB.size
        have H1 := Lib.hid (And.intro hO hB)
        by_cases hlt : k < m
        · have j0 : ((lo + k : Nat) : Int) ≤ (lo : Int) + (m : Int) - 1 := by omega
          have HS : Eqn ((upto lo (k + 1)).filter (leftP t)) ((upto lo k).filter (leftP t) ++ [((lo + k : Nat) : Int)].filter (leftP t)) := by rw [Eqn, upto_succ, List.filter_append]
          obtain ⟨W2, hW2⟩ : ∃ W2, W2 = wr.alloc (.cells #[.int .i64 ((lo + k : Nat) : Int)] 3) := ⟨_, rfl⟩
          have hO2 : W2.ownsRow W1.heap.size 3 1 (.slice A1 ((upto lo k).filter (leftP t)).length c1) ((upto lo k).filter (leftP t)).length (((upto lo k).filter (leftP t)).map intV) := by rw [hW2]; exact hO.alloc _
          have hr2 : Row1 intV W2 W2.heap.size (some ⟨wr.heap.size, 0, none⟩) 1 [((lo + k : Nat) : Int)] := by
            have := row1_new wr intV 3 [((lo + k : Nat) : Int)]
            rw [hW2, World.size_alloc]; exact this
          have hB2 : Below W1.heap.size W1 W2 := by rw [hW2]; exact hB.alloc hbs _
          have hfr := own_fresh hO (Nat.le_refl wr.heap.size)
          have HL := Lib.hid (left_any _ W1.heap.size t _ 1 1 W2 _ _ (by have := hB2.size; omega) hO2 hr2 (fun a ha => by cases ha; exact hfr) (by omega))
          generalize (upto lo k).filter (leftP t) = L at *
          generalize hcc : ((lo + k : Nat) : Int) = cc at *
          have HCC := Lib.hid hcc
          have HB2 := Lib.hid hB2
          have j1 : 0 ≤ cc := by omega
          have j2 : cc ≤ 1000 := by omega
          clear hO hB hO2 hr2 hB2 hfr hcc
          go_wp2_with fail
          rw [← hW2]
          clear hW2
          refine HL.out.mono ?_
          rintro e w3 ⟨v', rfl, hown, hb3, _, _⟩
          have H3 := Lib.hid (And.intro hown (HB2.out.trans hb3))
          clear hown hb3
          go_wp2_with fail
          go_roundw
          case rel => exact ⟨k + 1, by omega, by have := HCC.out; first | (congr 1; omega) | go_num, by rw [HS.out]; exact H3.out.1, H3.out.2⟩
          case measure => have := HCC.out; simp [intOf]; omega
        · obtain rfl : k = m := by omega
          have j0 : ¬ ((lo + k : Nat) : Int) ≤ (lo : Int) + (k : Int) - 1 := by omega
          clear hO hB
          go_wp2_with fail
          refine bodyPost_ret (v := .tuple #[.slice A1 _ c1, .int .i64 0]) (by simp [results, Tryd.results26, go_sem]) rfl ⟨_, rfl, own_low H1.out.1 (by omega), HB1.out.trans (H1.out.2.mono (by omega))⟩

def chR (n t : Int) (k : Nat) : List Int := (upto 2 k).filter fun c => decide (ofB c = n) && leftR t c
theorem chR_succ (n t : Int) (k : Nat) : chR n t (k + 1) = if ofB ((2 + k : Nat) : Int) = n ∧ leftR t ((2 + k : Nat) : Int) = true then chR n t k ++ [((2 + k : Nat) : Int)] else chR n t k := by
  unfold chR
  rw [upto_succ, List.filter_append]
  generalize ((2 + k : Nat) : Int) = c
  by_cases h1 : ofB c = n
  · by_cases h2 : leftR t c = true
    · simp [h1, h2]
    · simp [h1, h2]
  · simp [h1]
theorem chR_len (n t : Int) (k : Nat) : (chR n t k).length ≤ k := by
  have := List.length_filter_le (fun c => decide (ofB c = n) && leftR t c) (upto 2 k)
  rw [upto_len] at this
  exact this
theorem ch_agree0 : ∀ e : Fin 11, ∀ n : Fin 3, chR ((n.1 : Int) + 1) (keyE e.1) 50 = (chF ((n.1 : Int) + 1) (keyE e.1)).1 := by decide +kernel
theorem vldT_key {t : Int} (h : vldT t = true) : ∃ e, e < 11 ∧ t = keyE e := by
  by_cases h1 : ∃ e, e < 11 ∧ t = keyE e
  · exact h1
  · have := blkN_no t (fun e he h2 => h1 ⟨e, he, h2⟩)
    unfold vldT at h
    rw [this] at h
    cases h
theorem ch_agree {n t : Int} (h1 : 1 ≤ n) (h3 : n ≤ 3) (hv : vldT t = true) : chR n t 50 = (chF n t).1 := by
  obtain ⟨e, he, rfl⟩ := vldT_key hv
  have := ch_agree0 ⟨e, he⟩ ⟨(n - 1).toNat, by omega⟩
  dsimp only at this
  rw [show (((n - 1).toNat : Nat) : Int) + 1 = n by omega] at this
  exact this

def sameL : List Int → List Int → Bool
  | [], [] => true
  | x :: r, y :: s => if x = y then sameL r s else false
  | _, _ => false
theorem sameL_refl (l : List Int) : sameL l l = true := by induction l with | nil => rfl | cons x r ih => simp [sameL, ih]
theorem sameL_iff : ∀ (a b : List Int), sameL a b = true ↔ a = b := by
  intro a
  induction a with
  | nil => intro b; cases b <;> simp [sameL]
  | cons x r ih =>
    intro b
    cases b with
    | nil => simp [sameL]
    | cons y s =>
      rw [sameL]
      by_cases h : x = y
      · rw [if_pos h, ih, h]; simp
      · rw [if_neg h]; simp [h]
theorem sameL_len {a b : List Int} (h : a.length ≠ b.length) : sameL a b = false := by
  cases hs : sameL a b with
  | false => rfl
  | true => exact absurd (congrArg List.length ((sameL_iff a b).1 hs)) h

theorem sameInts_any (A B : Option Addr) (n c m d : Nat) (w : World) (D : Nat) (a b : List Int) (hn : n ≤ 100000) (ha : Row1 intV w D A n a) (hb : Row1 intV w D B m b) :
    Calls Tryd.prog 70 #[.slice A n c, .slice B m d] w fun e w' => e = .returned (.bool (sameL a b)) ∧ Below D w w' := by
  have Ha := Lib.hid ha
  have Hb := Lib.hid hb
  have Hla := Eqn.mk ha.1
  have Hlb := Eqn.mk hb.1
  clear ha hb
  by_cases hnm : n = m
  · subst hnm
    go_enter Tryd.func70, Tryd.ntmps70
    go_wp2_with fail
    go_loopw [5] (fun i wr => ∃ k : Nat, k ≤ n ∧ i = .int .i64 k ∧ Eqn (sameL a b) (sameL (a.drop k) (b.drop k)) ∧ Below D w wr) (fun i _ => n - (intOf i).toNat)
    case atStart => exact ⟨0, Nat.zero_le _, rfl, rfl, Below.refl _ _⟩
    case round =>
      obtain ⟨k, hk, rfl, HE, hB⟩ := hrel
      have HB := Lib.hid hB
      by_cases hlt : k < n
      · obtain ⟨x, hx, hxd⟩ := drop_at (xs := a) (k := k) (by rw [Hla.out]; exact hlt)
        obtain ⟨y, hy, hyd⟩ := drop_at (xs := b) (k := k) (by rw [Hlb.out]; exact hlt)
        obtain ⟨b1, o1, hA, hl1, hc1⟩ := (Ha.out.below hB).2 (by omega)
        obtain ⟨b2, o2, hB2, hl2, hc2⟩ := (Hb.out.below hB).2 (by omega)
        subst hA hB2
        have c1 := hc1 k x hx
        have c2 := hc2 k y hy
        simp only [intV] at c1 c2
        have HE2 := HE.out
        rw [hxd, hyd, sameL] at HE2
        have j0 : (k : Int) < (n : Int) := by omega
        clear hc1 hc2 hx hy hxd hyd HE hB
        by_cases he : x = y
        · have HV := Eqn.mk (HE2.trans (if_pos he))
          have hd : (x == y) = true := by simpa using he
          have hd2 : (x != y) = false := by simpa using he
          clear HE2 he
          go_wp2_with fail
          refine Lx.region (C := fun _ => True) (hs := []) (by kernel_rfl) (by kernel_rfl) trivial ?_
          repeat' (first
            | (refine Lx.lex_no (Lx.n1 rfl rfl rfl (by with_reducible rfl)) (fun K hK => ?_); go_simp; refine hK _ ?_; clear hK K)
            | (refine Lx.lex_no (Lx.n0 rfl rfl rfl (by with_reducible rfl)) (fun K hK => ?_); go_simp; refine hK _ ?_; clear hK K)
            | (refine Lx.lex_no (Lx.n2 rfl rfl rfl) (fun K hK => ?_); go_simp; refine hK _ ?_; clear hK K)
            | (refine Lx.lex_pure (v := ?_) rfl (by first | exact Lx.w0 rfl | exact Lx.w1 rfl rfl rfl (by with_reducible rfl)) ?_ (fun K hK => ?_); rotate_left 1; (intro w' hCw; (try dsimp only at hCw); go_simp; done); go_simp; refine hK _ ?_; clear hK K)
            | (refine Lx.lex_pure (v := ?_) rfl (by first | exact Lx.w0 rfl | exact Lx.w1 rfl rfl rfl (by with_reducible rfl)) ?_ (fun K hK => ?_); rotate_left 1; (intro w' hCw; (try dsimp only at hCw); go_simp; with_reducible rfl); go_simp; refine hK _ ?_; clear hK K)
            | (refine Lx.lex_read (v := ?_) rfl (by first | exact Lx.w0 rfl | exact Lx.w1 rfl rfl rfl (by with_reducible rfl)) ?_ (fun K hK => ?_); rotate_left 1; (go_simp; done); go_simp; refine hK _ ?_; clear hK K)
            | (refine Lx.lex_read (v := ?_) rfl (by first | exact Lx.w0 rfl | exact Lx.w1 rfl rfl rfl (by with_reducible rfl)) ?_ (fun K hK => ?_); rotate_left 1; (go_simp; with_reducible rfl); go_simp; refine hK _ ?_; clear hK K)
            | (refine Lx.lex_eff rfl (by first | exact Lx.w0 rfl | exact Lx.w1 rfl rfl rfl (by with_reducible rfl)) (fun K hK => ?_); go_simp; (first | fail | skip); refine hK _ _ (trivial) ?_; clear hK K)
            | (refine Lx.lex_cases rfl rfl rfl (fun hgd K hK => ?_) (fun hgd K hK => ?_) <;> (try simp only [decide_eq_true_eq, decide_eq_false_iff_not] at hgd) <;> (first | (exfalso; omega) | (go_simp; refine hK _ ?_; clear hK K))))
          all_goals (refine Lx.lex_nil ?_)
          go_wp2_with fail
          go_roundw
          case rel => exact ⟨k + 1, by omega, by go_num, HV, HB.out.drew⟩
          case measure => simp [intOf]; omega
        · have HV := Eqn.mk (HE2.trans (if_neg he))
          have hd : (x == y) = false := by simpa using he
          have hd2 : (x != y) = true := by simpa using he
          clear HE2 he
          go_wp2_with fail
          refine Lx.region (C := fun _ => True) (hs := []) (by kernel_rfl) (by kernel_rfl) trivial ?_
          repeat' (first
            | (refine Lx.lex_no (Lx.n1 rfl rfl rfl (by with_reducible rfl)) (fun K hK => ?_); go_simp; refine hK _ ?_; clear hK K)
            | (refine Lx.lex_no (Lx.n0 rfl rfl rfl (by with_reducible rfl)) (fun K hK => ?_); go_simp; refine hK _ ?_; clear hK K)
            | (refine Lx.lex_no (Lx.n2 rfl rfl rfl) (fun K hK => ?_); go_simp; refine hK _ ?_; clear hK K)
            | (refine Lx.lex_pure (v := ?_) rfl (by first | exact Lx.w0 rfl | exact Lx.w1 rfl rfl rfl (by with_reducible rfl)) ?_ (fun K hK => ?_); rotate_left 1; (intro w' hCw; (try dsimp only at hCw); go_simp; done); go_simp; refine hK _ ?_; clear hK K)
            | (refine Lx.lex_pure (v := ?_) rfl (by first | exact Lx.w0 rfl | exact Lx.w1 rfl rfl rfl (by with_reducible rfl)) ?_ (fun K hK => ?_); rotate_left 1; (intro w' hCw; (try dsimp only at hCw); go_simp; with_reducible rfl); go_simp; refine hK _ ?_; clear hK K)
            | (refine Lx.lex_read (v := ?_) rfl (by first | exact Lx.w0 rfl | exact Lx.w1 rfl rfl rfl (by with_reducible rfl)) ?_ (fun K hK => ?_); rotate_left 1; (go_simp; done); go_simp; refine hK _ ?_; clear hK K)
            | (refine Lx.lex_read (v := ?_) rfl (by first | exact Lx.w0 rfl | exact Lx.w1 rfl rfl rfl (by with_reducible rfl)) ?_ (fun K hK => ?_); rotate_left 1; (go_simp; with_reducible rfl); go_simp; refine hK _ ?_; clear hK K)
            | (refine Lx.lex_eff rfl (by first | exact Lx.w0 rfl | exact Lx.w1 rfl rfl rfl (by with_reducible rfl)) (fun K hK => ?_); go_simp; (first | fail | skip); refine hK _ _ (trivial) ?_; clear hK K)
            | (refine Lx.lex_cases rfl rfl rfl (fun hgd K hK => ?_) (fun hgd K hK => ?_) <;> (try simp only [decide_eq_true_eq, decide_eq_false_iff_not] at hgd) <;> (first | (exfalso; omega) | (go_simp; refine hK _ ?_; clear hK K))))
          all_goals (refine Lx.lex_nil ?_)
          go_wp2_with fail
          go_ret
          exact ⟨ret_bool HV.out.symm, HB.out.drew⟩
      · have HV : Eqn (sameL a b) true := by rw [Eqn, HE.out, drop_end (by rw [Hla.out]; omega), drop_end (by rw [Hlb.out]; omega)]; rfl
        clear HE hB
        go_wp2_with fail
        go_ret
        exact ⟨ret_bool HV.out.symm, HB.out⟩
  · have HV := Eqn.mk (sameL_len (a := a) (b := b) (by rw [Hla.out, Hlb.out]; exact hnm))
    have hne : ((n : Int) != (m : Int)) = true := by simp; omega
    go_enter Tryd.func70, Tryd.ntmps70
    go_wp2_with fail
    go_ret
    exact ⟨ret_bool HV.out.symm, Below.refl _ _⟩
end Go.Proofs.YtpdhelhngdeoeaaDoor

/- Contracts of slices.Grow at the nil slice and of slices.Concat at two rows of numbers. -/
namespace Go.Proofs.YtpdhelhngdeoeaaDoor
open Go.RowKit

theorem zeroCells_size (z : Value) (n : Nat) (h : z.cells.size = 1) : (Builtin.zeroCells z.cells n).size = n := by simp [Builtin.zeroCells, h]

set_option maxRecDepth 100000 in
set_option maxHeartbeats 2000000 in
theorem grow_any (n : Nat) (w : World) (hn : n ≤ 100000) : Calls Tryd.prog 80 #[.slice none 0 0, .int .i64 n] w (NewInts [] w) := by
  by_cases h0 : n = 0
  · subst h0
    go_enter Tryd.func80, Tryd.ntmps80
    go_wp2_with fail
    go_ret
    exact ⟨_, rfl, World.ownsRow_nil _ _ _ _, Below.refl _ _⟩
  · obtain ⟨i0, hi, hz0, hz1, hz2⟩ := info_parts int_info
    have hrz : ∀ ty, (Builtin.append_ #[34, 3] ty #[.slice none 0 0, .int .i64 (n : Int)]).run Tryd.prog w = .ok (.slice (some ⟨w.heap.size, 0, none⟩) n (grownCap w n 0 3)) (w.drew.alloc (.cells (Builtin.zeroCells (Value.int .i64 0).cells n ++ Builtin.zeroCells (Value.int .i64 0).cells (grownCap w n 0 3 - n)) 3)) := fun ty => by
      have h := Lib.run_append_grow_zeros (P := Tryd.prog) w 34 3 ty 3 i0 (.int .i64 0) .i64 .i64 Tryd.underlying34 Tryd.underlying3 hi hz0 none 0 0 [] (run_firstCells_none w.drew i0.size 0 0 0) n (by omega) (by rw [hz1]; decide) (by omega) (by omega) (by rw [hz2]; omega) (by rw [hz2]; exact growslice_fits (by omega) (by omega))
      simpa using h
    have hge : n ≤ grownCap w n 0 3 := grownCap_ge w _ _ _
    have hle : grownCap w n 0 3 ≤ maxLen := grownCap_le_maxLen w n 0 3 (by unfold maxLen; omega)
    generalize grownCap w n 0 3 = G at *
    have HROW : Hid ((w.drew.alloc (.cells (Builtin.zeroCells (Value.int .i64 0).cells n ++ Builtin.zeroCells (Value.int .i64 0).cells (G - n)) 3)).ownsRow w.heap.size 3 1 (.slice (some ⟨w.heap.size, 0, none⟩) 0 G) 0 []) := Lib.hid ⟨rfl, .inr ⟨w.heap.size, G, _, rfl, Nat.le_refl _, heap_alloc_new w.drew _, Nat.zero_le _, hle, by rw [Array.size_append, zeroCells_size _ _ rfl, zeroCells_size _ _ rfl]; omega, by simp⟩⟩
    have HB : Hid (Below w.heap.size w (w.drew.alloc (.cells (Builtin.zeroCells (Value.int .i64 0).cells n ++ Builtin.zeroCells (Value.int .i64 0).cells (G - n)) 3))) := Lib.hid ((Below.refl _ w).drew.alloc (Nat.le_refl _) _)
    have hG63 : (G : Int) ≤ 9223372036854775807 := by unfold maxLen at hle; omega
    have h1 : ¬ ((n : Int) < 0) := by omega
    have h4 : (0 : Int) < (n : Int) := by omega
    have hn1 : (n : Int) ≤ 100000 := by omega
    clear hi hz0 hz1 hz2 hle h0
    go_enter Tryd.func80, Tryd.ntmps80
    go_wp2_with (at_builtin; refine Lib.wpList_append_run _ rfl _ _ _ _ rfl _ _ rfl rfl _ _ (hrz _) ?_)
    all_goals (go_ret; exact ⟨_, rfl, HROW.out, HB.out⟩)

set_option maxRecDepth 100000 in
set_option maxHeartbeats 2000000 in
theorem concat2_any (g : Nat) (A1 A2 : Option Addr) (n1 c1 n2 c2 : Nat) (w : World) (a b : List Int) (hg : g < w.heap.size) (h0 : w.cell? ⟨g, 0, none⟩ = some (.slice A1 n1 c1)) (h1 : w.cell? ⟨g, 1, none⟩ = some (.slice A2 n2 c2))
    (ha : Row1 intV w w.heap.size A1 n1 a) (hb : Row1 intV w w.heap.size A2 n2 b) (hn1 : n1 ≤ 10000) (hn2 : n2 ≤ 10000) : Calls Tryd.prog 45 #[.slice (some ⟨g, 0, none⟩) 2 2] w (NewInts (a ++ b) w) := by
  obtain ⟨i0, hi, hz0, hz1, hz2⟩ := info_parts int_info
  have Ha := Lib.hid ha
  have Hb := Lib.hid hb
  have hal := ha.1
  have hbl := hb.1
  have k1 : (n1 : Int) ≤ 10000 := by omega
  have k2 : (n2 : Int) ≤ 10000 := by omega
  have HG := Lib.hid (grow_any (n1 + n2) w (by omega))
  have hsum : ((n1 + n2 : Nat) : Int) = (n1 : Int) + (n2 : Int) := by omega
  rw [hsum] at HG
  have HC0 := Lib.hid (And.intro h0 h1)
  clear ha hb hsum
  go_enter Tryd.func45, Tryd.ntmps45
  go_wp2_with fail
  refine wp_loop_rounds 3 ?_
  rw [rounds_succ]
  go_wp2_with fail
  rw [rounds_succ]
  go_wp2_with fail
  rw [rounds_succ]
  go_wp2_with fail
  refine HG.out.mono ?_
  rintro e W1 ⟨v0, rfl, hown0, hb1⟩
  have H1 := Lib.hid (And.intro hown0 hb1)
  have hs1 := hb1.size
  have q0 := (hb1.cell (p := ⟨g, 0, none⟩) hg).trans HC0.out.1
  have q1 := (hb1.cell (p := ⟨g, 1, none⟩) hg).trans HC0.out.2
  clear h0 h1 hown0 hb1
  go_wp2_with fail
  refine wp_loop_rounds 3 ?_
  rw [rounds_succ]
  go_wp2_with (at_builtin; refine wpList_append_row rfl _ _ 34 rfl intV_one w.heap.size 3 i0 (.int .i64 0) 8 Tryd.underlying34 hi hz0 hz1 hz2 rfl v0 0 [] rfl H1.out.1 A1 n1 c1 a w.heap.size rfl (by exact Ha.out.below H1.out.2) (by unfold maxLen; omega) (by omega) hs1 ?_; intro v1 w1 hown hgrow hat; rw [Nat.zero_add, List.nil_append] at hown; have H2 : Hid (w1.ownsRow w.heap.size 3 1 v1 n1 (a.map intV) ∧ Below w.heap.size w w1) := Lib.hid ⟨hown, H1.out.2.grown hgrow hs1 (fun g hg => own_ge H1.out.1 g hg)⟩; have hs2 := H2.out.2.size; have p1 := (H2.out.2.cell (p := ⟨g, 1, none⟩) hg).trans HC0.out.2; clear hown hgrow hat q0 q1)
  rw [rounds_succ]
  go_wp2_with (at_builtin; refine wpList_append_row rfl _ _ 34 rfl intV_one w.heap.size 3 i0 (.int .i64 0) 8 Tryd.underlying34 hi hz0 hz1 hz2 rfl v1 n1 (a.map intV) rfl H2.out.1 A2 n2 c2 b w.heap.size rfl (by exact Hb.out.below H2.out.2) (by unfold maxLen; omega) (by omega) hs2 ?_; intro v2 w2 hown hgrow hat; rw [← List.map_append] at hown; have H3 : Hid (w2.ownsRow w.heap.size 3 1 v2 (n1 + n2) ((a ++ b).map intV) ∧ Below w.heap.size w w2) := Lib.hid ⟨hown, H2.out.2.grown hgrow hs2 (fun g hg => own_ge H2.out.1 g hg)⟩; clear hown hgrow hat p1)
  rw [rounds_succ]
  go_wp2_with fail
  go_ret
  exact ⟨_, rfl, by rw [List.length_append, hal, hbl]; exact H3.out.1, H3.out.2⟩
end Go.Proofs.YtpdhelhngdeoeaaDoor

/- The types of layers 17 and 26 as plain data: pairs and loads (five numbers), caps (four), domains and bands (a station and numbers); plain functions of validity. -/
namespace Go.Proofs.YtpdhelhngdeoeaaDoor
open Go.RowKit

structure R5 where
  a : Int
  b : Int
  c : Int
  d : Int
  e : Int
deriving DecidableEq
structure R4 where
  a : Int
  b : Int
  c : Int
  d : Int
deriving DecidableEq
/-- a station and a slice of numbers -/
structure Dom where
  st : Int
  adr : Option Addr
  len : Nat
  cap : Nat
  chs : List Int
def R5.cell (x : R5) : Nat → Value
  | 0 => .int .i64 x.a
  | 1 => .int .i64 x.b
  | 2 => .int .i64 x.c
  | 3 => .int .i64 x.d
  | _ => .int .i64 x.e
def R5.val (x : R5) : Value := .agg #[.int .i64 x.a, .int .i64 x.b, .int .i64 x.c, .int .i64 x.d, .int .i64 x.e]
def R4.cell (x : R4) : Nat → Value
  | 0 => .int .i64 x.a
  | 1 => .int .i64 x.b
  | 2 => .int .i64 x.c
  | _ => .int .i64 x.d
def R4.val (x : R4) : Value := .agg #[.int .i64 x.a, .int .i64 x.b, .int .i64 x.c, .int .i64 x.d]
def Dom.cell (x : Dom) : Nat → Value
  | 0 => .int .i64 x.st
  | _ => .slice x.adr x.len x.cap
def Dom.val (x : Dom) : Value := .agg #[.int .i64 x.st, .slice x.adr x.len x.cap]
/-- a slice of domains (or of bands) -/
def DomsAt (w : World) (D : Nat) (A : Option Addr) (n : Nat) (ds : List Dom) : Prop := RowS 2 Dom.cell w D A n ds ∧ ∀ d ∈ ds, Row1 intV w D d.adr d.len d.chs
theorem DomsAt.below {w w' : World} {D : Nat} {A : Option Addr} {n : Nat} {ds : List Dom} (h : DomsAt w D A n ds) (hb : Below D w w') : DomsAt w' D A n ds := ⟨h.1.below hb, fun b hm => (h.2 b hm).below hb⟩
theorem DomsAt.up {w : World} {D D' : Nat} {A : Option Addr} {n : Nat} {ds : List Dom} (h : DomsAt w D A n ds) (hD : D ≤ D') : DomsAt w D' A n ds := ⟨h.1.up hD, fun b hm => (h.2 b hm).up hD⟩
theorem DomsAt.keep {w w' : World} {A : Option Addr} {n : Nat} {ds : List Dom} (h : DomsAt w w.heap.size A n ds) (hb : Below w.heap.size w w') : DomsAt w' w'.heap.size A n ds := (h.below hb).up hb.size
/-- what a domain says: the station and the numbers -/
def Dom.say (d : Dom) : Int × List Int := (d.st, d.chs)

/-- the constraints -/
structure Rul where
  pairs : List R5
  loads : List R5
  caps : List R4
deriving DecidableEq

def stF (n : Int) : Bool := decide (0 ≤ n) && decide (n ≤ 511)
def spF (lo hi : Int) : Bool := decide (2 ≤ lo) && decide (lo ≤ hi) && decide (hi ≤ 51)
def goodP (x : R5) : Bool := stF x.a && stF x.b && decide (x.a < x.b) && (decide (-1 ≤ x.c) && decide (x.c ≤ 1)) && spF x.d x.e
def goodL (x : R5) : Bool := stF x.a && stF x.b && !decide (x.a = x.b) && (decide (1 ≤ x.c) && decide (x.c ≤ 1073741824)) && spF x.d x.e
def goodC (x : R4) : Bool := stF x.a && (decide (0 ≤ x.b) && decide (x.b ≤ 1099511627776)) && spF x.c x.d
def cmpF (x y : Int) : Int := if x < y then -1 else if y < x then 1 else 0
def orL5 : List Int → Int
  | [] => 0
  | x :: r => if x ≠ 0 then x else orL5 r
def cmp5 (x y : R5) : Int := orL5 [cmpF x.a y.a, cmpF x.b y.b, cmpF x.c y.c, cmpF x.d y.d, cmpF x.e y.e]
def cmp4 (x y : R4) : Int := orL5 [cmpF x.a y.a, cmpF x.b y.b, cmpF x.c y.c, cmpF x.d y.d]
/-- each element is below the next one -/
def incF {α : Type} (cmp : α → α → Int) : List α → Bool
  | [] => true
  | x :: r => match r with | [] => true | y :: _ => if 0 ≤ cmp x y then false else incF cmp r
def rulesF (r : Rul) : Bool := decide (r.pairs.length ≤ 4096) && r.pairs.all goodP && incF cmp5 r.pairs && decide (r.loads.length ≤ 1024) && r.loads.all goodL && incF cmp5 r.loads && decide (r.caps.length ≤ 1024) && r.caps.all goodC && incF cmp4 r.caps

/-- the reference's order: the first numbers that differ -/
def lessL : List Int → List Int → Bool
  | x :: r, y :: s => if x ≠ y then decide (x < y) else lessL r s
  | _, _ => false
def R5.nums (x : R5) : List Int := [x.a, x.b, x.c, x.d, x.e]
def R4.nums (x : R4) : List Int := [x.a, x.b, x.c, x.d]
theorem orL_less : ∀ (l : List (Int × Int)), decide (0 ≤ orL5 (l.map fun p => cmpF p.1 p.2)) = !lessL (l.map (·.1)) (l.map (·.2)) := by
  intro l
  induction l with
  | nil => rfl
  | cons p r ih =>
    simp only [List.map_cons, orL5, lessL]
    by_cases h : p.1 = p.2
    · have h0 : cmpF p.1 p.2 = 0 := by unfold cmpF; rw [h]; simp
      rw [h0, if_neg (by simp), if_neg (by simp [h]), ih]
    · rw [if_pos h]
      by_cases h2 : p.1 < p.2
      · have h0 : cmpF p.1 p.2 = -1 := by unfold cmpF; simp [h2]
        rw [h0, if_pos (by decide)]
        simp [h2]
      · have h0 : cmpF p.1 p.2 = 1 := by unfold cmpF; rw [if_neg h2, if_pos (by omega)]
        rw [h0, if_pos (by decide)]
        simp; omega
theorem cmp5_less (x y : R5) : decide (0 ≤ cmp5 x y) = !lessL x.nums y.nums := orL_less [(x.a, y.a), (x.b, y.b), (x.c, y.c), (x.d, y.d), (x.e, y.e)]
theorem cmp4_less (x y : R4) : decide (0 ≤ cmp4 x y) = !lessL x.nums y.nums := orL_less [(x.a, y.a), (x.b, y.b), (x.c, y.c), (x.d, y.d)]

/-- the reference's way: element by element, with the one before it -/
def goF {α : Type} (good : α → Bool) (nums : α → List Int) : Option α → List α → Bool
  | _, [] => true
  | prev, x :: r => if good x && (match prev with | none => true | some y => lessL (nums y) (nums x)) then goF good nums (some x) r else false
theorem goF_eq {α : Type} (good : α → Bool) (nums : α → List Int) (cmp : α → α → Int) (hc : ∀ x y, decide (0 ≤ cmp x y) = !lessL (nums x) (nums y)) :
    ∀ (l : List α) (x : α), goF good nums (some x) l = (l.all good && incF cmp (x :: l)) := by
  intro l
  induction l with
  | nil => intro x; rfl
  | cons y r ih =>
    intro x
    rw [goF, ih, List.all_cons, incF]
    have h := hc x y
    by_cases hg : good y = true
    · by_cases hl : lessL (nums x) (nums y) = true
      · rw [hl] at h
        have h2 : ¬ 0 ≤ cmp x y := by simpa using h
        simp [hg, hl, h2]
      · have hl' : lessL (nums x) (nums y) = false := by simpa using hl
        rw [hl'] at h
        have h2 : 0 ≤ cmp x y := by simpa using h
        simp [hg, hl', h2]
    · simp [hg]
theorem goF_none {α : Type} (good : α → Bool) (nums : α → List Int) (cmp : α → α → Int) (hc : ∀ x y, decide (0 ≤ cmp x y) = !lessL (nums x) (nums y)) (l : List α) : goF good nums none l = (l.all good && incF cmp l) := by
  cases l with
  | nil => rfl
  | cons x r => rw [goF, goF_eq good nums cmp hc, List.all_cons]; by_cases h : good x = true <;> simp [h]
def rulesR (r : Rul) : Bool := if 4096 < r.pairs.length ∨ 1024 < r.loads.length ∨ 1024 < r.caps.length then false else goF goodP R5.nums none r.pairs && goF goodL R5.nums none r.loads && goF goodC R4.nums none r.caps
theorem rules_eq (r : Rul) : rulesR r = rulesF r := by
  unfold rulesR rulesF
  rw [goF_none _ _ _ cmp5_less, goF_none _ _ _ cmp5_less, goF_none _ _ _ cmp4_less]
  by_cases h1 : r.pairs.length ≤ 4096
  · by_cases h2 : r.loads.length ≤ 1024
    · by_cases h3 : r.caps.length ≤ 1024
      · rw [if_neg (by omega)]
        simp [h1, h2, h3, Bool.and_assoc]
      · rw [if_pos (by omega)]; simp [h3]
    · rw [if_pos (by omega)]; simp [h2]
  · rw [if_pos (by omega)]; simp [h1]
end Go.Proofs.YtpdhelhngdeoeaaDoor

namespace Go.Proofs.YtpdhelhngdeoeaaDoor
open Go.RowKit

theorem isNaN_any (x : Int) (w : World) : Calls Tryd.prog 91 #[.int .i64 x] w fun e w' => e = .returned (.bool false) ∧ w = w' := by
  have h : (x != x) = false := by simp
  go_enter Tryd.func91, Tryd.ntmps91
  go_wp2
  go_ret
  exact ⟨rfl, rfl⟩
theorem compare_any (x y : Int) (w : World) : Calls Tryd.prog 55 #[.int .i64 x, .int .i64 y] w fun e w' => e = .returned (.int .i64 (cmpF x y)) ∧ w = w' := by
  unfold cmpF
  by_cases h1 : x < y
  · rw [if_pos h1]
    go_enter Tryd.func55, Tryd.ntmps55
    go_wp2_with (go_at_call 91; refine (isNaN_any _ _).mono ?_; rintro e w' ⟨rfl, rfl⟩)
    go_ret
    exact ⟨rfl, rfl⟩
  · rw [if_neg h1]
    by_cases h2 : y < x
    · rw [if_pos h2]
      go_enter Tryd.func55, Tryd.ntmps55
      go_wp2_with (go_at_call 91; refine (isNaN_any _ _).mono ?_; rintro e w' ⟨rfl, rfl⟩)
      go_ret
      exact ⟨rfl, rfl⟩
    · rw [if_neg h2]
      go_enter Tryd.func55, Tryd.ntmps55
      go_wp2_with (go_at_call 91; refine (isNaN_any _ _).mono ?_; rintro e w' ⟨rfl, rfl⟩)
      go_ret
      exact ⟨rfl, rfl⟩

theorem orS_any (A : Option Addr) (n c : Nat) (w : World) (D : Nat) (l : List Int) (hn : n ≤ 100000) (hl : Row1 intV w D A n l) :
    Calls Tryd.prog 95 #[.slice A n c] w fun e w' => e = .returned (.int .i64 (orL5 l)) ∧ w = w' := by
  have Hl := Lib.hid hl
  have Hlen := Eqn.mk hl.1
  clear hl
  go_enter Tryd.func95, Tryd.ntmps95
  go_wp2
  go_loop [8] (fun i => ∃ k : Nat, k ≤ n ∧ i = .int .i64 k ∧ Eqn (orL5 l) (orL5 (l.drop k))) (fun i => n - (intOf i).toNat)
  case atStart => exact ⟨0, Nat.zero_le _, rfl, rfl⟩
  case round =>
    obtain ⟨k, hk, rfl, HR⟩ := hrel
    by_cases hlt : k < n
    · obtain ⟨p, hp, hpd⟩ := drop_at (xs := l) (k := k) (by rw [Hlen.out]; exact hlt)
      obtain ⟨b, off, rfl, hbl, hc⟩ := Hl.out.2 (by omega)
      have c0 := hc k p hp
      simp only [intV] at c0
      have HR' : Eqn (orL5 l) (if p ≠ 0 then p else orL5 (l.drop (k + 1))) := by
        have := HR.out; rw [hpd, orL5] at this; exact this
      have j0 : (k : Int) < (n : Int) := by omega
      clear hc hp hpd HR
      by_cases he : p = 0
      · have hd : (p != 0) = false := by simpa using he
        have HR2 : Eqn (orL5 l) (orL5 (l.drop (k + 1))) := by rw [Eqn, HR'.out, if_neg (by simpa using he)]
        clear he HR'
        go_wp2
        go_round
        case rel => exact ⟨k + 1, by omega, by go_num, HR2⟩
        case measure => simp [intOf]; omega
      · have hd : (p != 0) = true := by simpa using he
        have HR2 : Eqn (orL5 l) p := by rw [Eqn, HR'.out, if_pos he]
        clear he HR'
        go_wp2
        go_ret
        exact ⟨ret_int HR2.out.symm, rfl⟩
    · have HR2 : Eqn (orL5 l) 0 := by rw [Eqn, HR.out, drop_end (by rw [Hlen.out]; omega)]; rfl
      clear HR
      go_wp2
      go_ret
      exact ⟨ret_int HR2.out.symm, rfl⟩

def betwF (n lo hi : Int) : Bool := decide (lo ≤ n) && decide (n ≤ hi)
theorem betw_any (n lo hi : Int) (w : World) : Calls Tryd.prog 87 #[.int .i64 n, .int .i64 lo, .int .i64 hi] w fun e w' => e = .returned (.bool (betwF n lo hi)) ∧ w = w' := by
  unfold betwF
  by_cases h1 : lo ≤ n
  · go_enter Tryd.func87, Tryd.ntmps87
    go_wp2
    go_ret
    exact ⟨ret_bool (by first | (simp; omega) | simp [h1]), rfl⟩
  · go_enter Tryd.func87, Tryd.ntmps87
    go_wp2
    go_ret
    exact ⟨ret_bool (by first | (simp; omega) | simp [h1]), rfl⟩
theorem isSt_any (n : Int) (w : World) : Calls Tryd.prog 88 #[.int .i64 n] w fun e w' => e = .returned (.bool (stF n)) ∧ w = w' := by
  have HB := Lib.hid (betw_any n 0 511 w)
  have hs : betwF n 0 511 = stF n := rfl
  rw [hs] at HB
  generalize stF n = r at *
  clear hs
  go_enter Tryd.func88, Tryd.ntmps88
  go_wp2_with fail
  refine HB.out.mono ?_
  rintro e w' ⟨rfl, rfl⟩
  go_wp2_with fail
  go_ret
  exact ⟨rfl, rfl⟩
theorem isRg_any (lo hi : Int) (w : World) : Calls Tryd.prog 94 #[.int .i64 lo, .int .i64 hi] w fun e w' => e = .returned (.bool (spF lo hi)) ∧ w = w' := by
  unfold spF
  by_cases h1 : 2 ≤ lo
  · by_cases h2 : lo ≤ hi
    · go_enter Tryd.func94, Tryd.ntmps94
      go_wp2
      go_ret
      exact ⟨ret_bool (by first | (simp; omega) | simp [h1, h2]), rfl⟩
    · go_enter Tryd.func94, Tryd.ntmps94
      go_wp2
      go_ret
      exact ⟨ret_bool (by first | (simp; omega) | simp [h1, h2]), rfl⟩
  · go_enter Tryd.func94, Tryd.ntmps94
    go_wp2
    go_ret
    exact ⟨ret_bool (by first | (simp; omega) | simp [h1]), rfl⟩
set_option maxHeartbeats 1000000 in
theorem goodP_any (x : R5) (w : World) : Calls Tryd.prog 71 #[x.val] w (RetPost (.bool (goodP x)) w.heap.size w) := by
  obtain ⟨a, b, c, d, f⟩ := x
  have HB : Hid (Below w.heap.size w (w.alloc (.cells #[.int .i64 a, .int .i64 b, .int .i64 c, .int .i64 d, .int .i64 f] 73))) := Lib.hid ((Below.refl _ w).alloc (Nat.le_refl _) _)
  unfold R5.val goodP
  dsimp only
  have HC0 := Lib.hid (fun W => isSt_any a W)
  generalize stF a = t0 at *
  have HC1 := Lib.hid (fun W => isSt_any b W)
  generalize stF b = t1 at *
  have HC3 := Lib.hid (fun W => betw_any c (-1) 1 W)
  unfold betwF at HC3
  generalize (decide (-1 ≤ c) && decide (c ≤ 1)) = t3 at *
  have HC4 := Lib.hid (fun W => isRg_any d f W)
  generalize spF d f = t4 at *
  go_enter Tryd.func71, Tryd.ntmps71
  go_wp2_with fail
  refine (HC0.out _).mono ?_
  rintro e w1 ⟨rfl, rfl⟩
  cases t0 with
  | false =>
    clear HC0 HC1 HC3 HC4
    go_wp2_with fail
    go_ret
    exact ⟨ret_bool (by first | rfl | (simp; done) | (have := HCC.out; simp; intros; omega) | (simp [HCC.out]; done)), HB.out⟩
  | true =>
    go_wp2_with fail
    refine (HC1.out _).mono ?_
    rintro e w1 ⟨rfl, rfl⟩
    cases t1 with
    | false =>
      clear HC1 HC3 HC4
      go_wp2_with fail
      go_ret
      exact ⟨ret_bool (by first | rfl | (simp; done) | (have := HCC.out; simp; intros; omega) | (simp [HCC.out]; done)), HB.out⟩
    | true =>
      by_cases hc : a < b
      · have HCC := Lib.hid hc
        go_wp2_with fail
        refine (HC3.out _).mono ?_
        rintro e w1 ⟨rfl, rfl⟩
        cases t3 with
        | false =>
          clear HC3 HC4
          go_wp2_with fail
          go_ret
          exact ⟨ret_bool (by first | rfl | (simp; done) | (have := HCC.out; simp; intros; omega) | (simp [HCC.out]; done)), HB.out⟩
        | true =>
          go_wp2_with fail
          refine (HC4.out _).mono ?_
          rintro e w1 ⟨rfl, rfl⟩
          go_wp2_with fail
          go_ret
          exact ⟨ret_bool (by first | rfl | (simp; done) | (have := HCC.out; simp; intros; omega) | (simp [HCC.out]; done)), HB.out⟩
      · have HCC := Lib.hid hc
        go_wp2_with fail
        go_ret
        exact ⟨ret_bool (by first | rfl | (simp; done) | (have := HCC.out; simp; intros; omega) | (simp [HCC.out]; done)), HB.out⟩
set_option maxHeartbeats 1000000 in
theorem goodL_any (x : R5) (w : World) : Calls Tryd.prog 74 #[x.val] w (RetPost (.bool (goodL x)) w.heap.size w) := by
  obtain ⟨a, b, c, d, f⟩ := x
  have HB : Hid (Below w.heap.size w (w.alloc (.cells #[.int .i64 a, .int .i64 b, .int .i64 c, .int .i64 d, .int .i64 f] 77))) := Lib.hid ((Below.refl _ w).alloc (Nat.le_refl _) _)
  unfold R5.val goodL
  dsimp only
  have HC0 := Lib.hid (fun W => isSt_any a W)
  generalize stF a = t0 at *
  have HC1 := Lib.hid (fun W => isSt_any b W)
  generalize stF b = t1 at *
  have HC3 := Lib.hid (fun W => betw_any c (1) 1073741824 W)
  unfold betwF at HC3
  generalize (decide (1 ≤ c) && decide (c ≤ 1073741824)) = t3 at *
  have HC4 := Lib.hid (fun W => isRg_any d f W)
  generalize spF d f = t4 at *
  go_enter Tryd.func74, Tryd.ntmps74
  go_wp2_with fail
  refine (HC0.out _).mono ?_
  rintro e w1 ⟨rfl, rfl⟩
  cases t0 with
  | false =>
    clear HC0 HC1 HC3 HC4
    go_wp2_with fail
    go_ret
    exact ⟨ret_bool (by first | rfl | (simp; done) | (have := HCC.out; simp; intros; omega) | (simp [HCC.out]; done)), HB.out⟩
  | true =>
    go_wp2_with fail
    refine (HC1.out _).mono ?_
    rintro e w1 ⟨rfl, rfl⟩
    cases t1 with
    | false =>
      clear HC1 HC3 HC4
      go_wp2_with fail
      go_ret
      exact ⟨ret_bool (by first | rfl | (simp; done) | (have := HCC.out; simp; intros; omega) | (simp [HCC.out]; done)), HB.out⟩
    | true =>
      by_cases hc : a = b
      · have HCC := Lib.hid hc
        have hc2 : (a != b) = false := by simp [hc]
        clear hc
        go_wp2_with fail
        go_ret
        exact ⟨ret_bool (by first | rfl | (simp; done) | (have := HCC.out; simp; intros; omega) | (simp [HCC.out]; done)), HB.out⟩
      · have HCC := Lib.hid hc
        have hc2 : (a != b) = true := by simp [hc]
        clear hc
        go_wp2_with fail
        refine (HC3.out _).mono ?_
        rintro e w1 ⟨rfl, rfl⟩
        cases t3 with
        | false =>
          clear HC3 HC4
          go_wp2_with fail
          go_ret
          exact ⟨ret_bool (by first | rfl | (simp; done) | (have := HCC.out; simp; intros; omega) | (simp [HCC.out]; done)), HB.out⟩
        | true =>
          go_wp2_with fail
          refine (HC4.out _).mono ?_
          rintro e w1 ⟨rfl, rfl⟩
          go_wp2_with fail
          go_ret
          exact ⟨ret_bool (by first | rfl | (simp; done) | (have := HCC.out; simp; intros; omega) | (simp [HCC.out]; done)), HB.out⟩
set_option maxHeartbeats 1000000 in
theorem goodC_any (x : R4) (w : World) : Calls Tryd.prog 77 #[x.val] w (RetPost (.bool (goodC x)) w.heap.size w) := by
  obtain ⟨a, b, c, d⟩ := x
  have HB : Hid (Below w.heap.size w (w.alloc (.cells #[.int .i64 a, .int .i64 b, .int .i64 c, .int .i64 d] 79))) := Lib.hid ((Below.refl _ w).alloc (Nat.le_refl _) _)
  unfold R4.val goodC
  dsimp only
  have HC0 := Lib.hid (fun W => isSt_any a W)
  generalize stF a = t0 at *
  have HC1 := Lib.hid (fun W => betw_any b (0) 1099511627776 W)
  unfold betwF at HC1
  generalize (decide (0 ≤ b) && decide (b ≤ 1099511627776)) = t1 at *
  have HC2 := Lib.hid (fun W => isRg_any c d W)
  generalize spF c d = t2 at *
  go_enter Tryd.func77, Tryd.ntmps77
  go_wp2_with fail
  refine (HC0.out _).mono ?_
  rintro e w1 ⟨rfl, rfl⟩
  cases t0 with
  | false =>
    clear HC0 HC1 HC2
    go_wp2_with fail
    go_ret
    exact ⟨ret_bool (by first | rfl | (simp; done) | (have := HCC.out; simp; intros; omega) | (simp [HCC.out]; done)), HB.out⟩
  | true =>
    go_wp2_with fail
    refine (HC1.out _).mono ?_
    rintro e w1 ⟨rfl, rfl⟩
    cases t1 with
    | false =>
      clear HC1 HC2
      go_wp2_with fail
      go_ret
      exact ⟨ret_bool (by first | rfl | (simp; done) | (have := HCC.out; simp; intros; omega) | (simp [HCC.out]; done)), HB.out⟩
    | true =>
      go_wp2_with fail
      refine (HC2.out _).mono ?_
      rintro e w1 ⟨rfl, rfl⟩
      go_wp2_with fail
      go_ret
      exact ⟨ret_bool (by first | rfl | (simp; done) | (have := HCC.out; simp; intros; omega) | (simp [HCC.out]; done)), HB.out⟩
end Go.Proofs.YtpdhelhngdeoeaaDoor
