/- Contracts of checked and Best, and of the reference's Among, Best and All. -/
import Derived.Test.YteckijkmcafpaaaCnt39
namespace Go.Proofs.Yteckijkmcafpaaa
open Go.RowKit

def incF : List Int → Bool
  | [] => true
  | [_] => true
  | x :: y :: r => if y ≤ x then false else incF (y :: r)
def foundF (l : List Claim) : List Int → Bool
  | [] => true
  | x :: r => if findC l x < 0 then false else foundF l r
def amongF (l : List Claim) (wn : List Int) : Int := if incF wn = true then (if foundF l wn = true then 0 else 9) else 2
def checkedF (b : Int) (l : List Claim) (ws : List Wish) (wn : List Int) : Int := if vwF b l ws = true then amongF l wn else 2
def bestF (b : Int) (l : List Claim) (ws : List Wish) (wn : List Int) : Int × Int := if checkedF b l ws wn = 0 then ((srF (psOf l ws wn) (List.replicate b.toNat false)).2.1, 0) else (0, checkedF b l ws wn)

theorem inc_step {wn : List Int} {k : Nat} {x y : Int} (hk : 0 < k) (hx : wn[k - 1]? = some x) (hy : wn[k]? = some y) : wn.drop (k - 1) = x :: y :: wn.drop (k + 1) ∧ wn.drop k = y :: wn.drop (k + 1) := by
  obtain ⟨h1, e1⟩ := List.getElem?_eq_some_iff.1 hx
  obtain ⟨h2, e2⟩ := List.getElem?_eq_some_iff.1 hy
  have a := List.drop_eq_getElem_cons h1
  have b := List.drop_eq_getElem_cons h2
  rw [e1, show k - 1 + 1 = k by omega] at a
  rw [e2] at b
  exact ⟨by rw [a, b], b⟩
theorem inc_end {wn : List Int} {k : Nat} (hk : wn.length ≤ k) : incF (wn.drop (k - 1)) = true := by
  match h : wn.drop (k - 1) with
  | [] => rfl
  | [_] => rfl
  | a :: b :: r =>
    have := congrArg List.length h
    simp at this
    omega

set_option maxHeartbeats 4000000 in
theorem among_any (A W : Option Addr) (n c p pc : Nat) (w : World) (l : List Claim) (wn : List Int) (hn : n ≤ 1000) (hp : p ≤ 1000) (hl : RowS 2 Claim.cell w w.heap.size A n l) (hwn : Row1 intV w w.heap.size W p wn) :
    Calls Try.prog 44 #[.slice A n c, .slice W p pc] w (RetPost (.int .i64 (amongF l wn)) w.heap.size w) := by
  have Hl := Lib.hid hl
  have Hn := Lib.hid hwn
  have Hnl := Eqn.mk hwn.1
  clear hl hwn
  have B1 : Hid (Below w.heap.size w w) := Lib.hid (Below.refl _ _)
  go_enter Try.func44, Try.ntmps44
  go_wp2_with fail
  go_loopw [5] (fun i wr => ∃ k : Nat, 0 < k ∧ k ≤ p + 1 ∧ i = .int .i64 k ∧ Eqn (incF wn) (incF (wn.drop (k - 1))) ∧ Below w.heap.size w wr) (fun i _ => p + 1 - (intOf i).toNat)
  case atStart => exact ⟨1, by omega, by omega, rfl, rfl, B1.out⟩
  case round =>
    clear B1
    obtain ⟨k, hk0, hk, rfl, HR, HW⟩ := hrel
    have HWW := Lib.hid HW
    by_cases hlt : k < p
    · obtain ⟨y, hy, _⟩ := drop_at (xs := wn) (k := k) (by rw [Hnl.out]; exact hlt)
      obtain ⟨x, hx, _⟩ := drop_at (xs := wn) (k := k - 1) (by rw [Hnl.out]; omega)
      obtain ⟨g, off, rfl, hg, hc⟩ := (Hn.out.below HW).2 (by omega)
      have c0 := hc k y hy
      have c1 := hc (k - 1) x hx
      simp only [intV] at c0 c1
      obtain ⟨s1, s2⟩ := inc_step hk0 hx hy
      have HR' : Eqn (incF wn) (if y ≤ x then false else incF (wn.drop k)) := by
        have := HR.out; rw [s1, incF] at this; rw [s2]; exact this
      have j0 : (k : Int) < (p : Int) := by omega
      have j1 : (0 : Int) ≤ (k : Int) - 1 := by omega
      have j2 : (k : Int) - 1 < (p : Int) := by omega
      have j3 : (1 : Int) ≤ (k : Int) := by omega
      have hwr : IntKind.i64.wrap ((k : Int) - 1) = (k : Int) - 1 := IntWalk.i64_in _ (by omega)
      have htn : ((k : Int) - 1).toNat = k - 1 := by omega
      clear hc hx hy s1 s2 HR HW
      by_cases hle : y ≤ x
      · have HI : Eqn (incF wn) false := by rw [Eqn, HR'.out, if_pos hle]
        have HB : Eqn (amongF l wn) 2 := by unfold amongF; rw [if_neg (by rw [HI.out]; simp)]; rfl
        go_wp2_with fail
        refine Lx.region (C := fun _ => True) (hs := []) (by kernel_rfl) (by kernel_rfl) trivial ?_
        repeat' (first
          | (refine Lx.lex_no (Lx.n1 rfl rfl rfl (by with_reducible rfl)) (fun K hK => ?_); go_simp; refine hK _ ?_; clear hK K)
          | (refine Lx.lex_no (Lx.n0 rfl rfl rfl (by with_reducible rfl)) (fun K hK => ?_); go_simp; refine hK _ ?_; clear hK K)
          | (refine Lx.lex_no (Lx.n2 rfl rfl rfl) (fun K hK => ?_); go_simp; refine hK _ ?_; clear hK K)
          | (refine Lx.lex_pure (v := ?_) rfl (by first | exact Lx.w0 rfl | exact Lx.w1 rfl rfl rfl (by with_reducible rfl)) ?_ (fun K hK => ?_); rotate_left 1; (intro w' hCw; (try dsimp only at hCw); go_simp; done); go_simp; refine hK _ ?_; clear hK K)
          | (refine Lx.lex_pure (v := ?_) rfl (by first | exact Lx.w0 rfl | exact Lx.w1 rfl rfl rfl (by with_reducible rfl)) ?_ (fun K hK => ?_); rotate_left 1; (intro w' hCw; (try dsimp only at hCw); go_simp; with_reducible rfl); go_simp; refine hK _ ?_; clear hK K)
          | (refine Lx.lex_read (v := ?_) rfl (by first | exact Lx.w0 rfl | exact Lx.w1 rfl rfl rfl (by with_reducible rfl)) ?_ (fun K hK => ?_); rotate_left 1; (go_simp; done); go_simp; refine hK _ ?_; clear hK K)
          | (refine Lx.lex_read (v := ?_) rfl (by first | exact Lx.w0 rfl | exact Lx.w1 rfl rfl rfl (by with_reducible rfl)) ?_ (fun K hK => ?_); rotate_left 1; (go_simp; with_reducible rfl); go_simp; refine hK _ ?_; clear hK K)
          | (refine Lx.lex_eff rfl (by first | exact Lx.w0 rfl | exact Lx.w1 rfl rfl rfl (by with_reducible rfl)) (fun K hK => ?_); go_simp; (first | fail | skip); refine hK _ _ (trivial) ?_; clear hK K)
          | (refine Lx.lex_cases rfl rfl rfl (fun hgd K hK => ?_) (fun hgd K hK => ?_) <;> (try simp only [decide_eq_true_eq, decide_eq_false_iff_not] at hgd) <;> (first | (exfalso; omega) | (go_simp; refine hK _ ?_; clear hK K))))
        all_goals (refine Lx.lex_nil ?_)
        clear hwr htn
        go_wp2_with fail
        go_ret
        exact ⟨by rw [HB.out]; rfl, HWW.out.drew⟩
      · have HI : Eqn (incF wn) (incF (wn.drop k)) := by rw [Eqn, HR'.out, if_neg hle]
        go_wp2_with fail
        refine Lx.region (C := fun _ => True) (hs := []) (by kernel_rfl) (by kernel_rfl) trivial ?_
        repeat' (first
          | (refine Lx.lex_no (Lx.n1 rfl rfl rfl (by with_reducible rfl)) (fun K hK => ?_); go_simp; refine hK _ ?_; clear hK K)
          | (refine Lx.lex_no (Lx.n0 rfl rfl rfl (by with_reducible rfl)) (fun K hK => ?_); go_simp; refine hK _ ?_; clear hK K)
          | (refine Lx.lex_no (Lx.n2 rfl rfl rfl) (fun K hK => ?_); go_simp; refine hK _ ?_; clear hK K)
          | (refine Lx.lex_pure (v := ?_) rfl (by first | exact Lx.w0 rfl | exact Lx.w1 rfl rfl rfl (by with_reducible rfl)) ?_ (fun K hK => ?_); rotate_left 1; (intro w' hCw; (try dsimp only at hCw); go_simp; done); go_simp; refine hK _ ?_; clear hK K)
          | (refine Lx.lex_pure (v := ?_) rfl (by first | exact Lx.w0 rfl | exact Lx.w1 rfl rfl rfl (by with_reducible rfl)) ?_ (fun K hK => ?_); rotate_left 1; (intro w' hCw; (try dsimp only at hCw); go_simp; with_reducible rfl); go_simp; refine hK _ ?_; clear hK K)
          | (refine Lx.lex_read (v := ?_) rfl (by first | exact Lx.w0 rfl | exact Lx.w1 rfl rfl rfl (by with_reducible rfl)) ?_ (fun K hK => ?_); rotate_left 1; (go_simp; done); go_simp; refine hK _ ?_; clear hK K)
          | (refine Lx.lex_read (v := ?_) rfl (by first | exact Lx.w0 rfl | exact Lx.w1 rfl rfl rfl (by with_reducible rfl)) ?_ (fun K hK => ?_); rotate_left 1; (go_simp; with_reducible rfl); go_simp; refine hK _ ?_; clear hK K)
          | (refine Lx.lex_eff rfl (by first | exact Lx.w0 rfl | exact Lx.w1 rfl rfl rfl (by with_reducible rfl)) (fun K hK => ?_); go_simp; (first | fail | skip); refine hK _ _ (trivial) ?_; clear hK K)
          | (refine Lx.lex_cases rfl rfl rfl (fun hgd K hK => ?_) (fun hgd K hK => ?_) <;> (try simp only [decide_eq_true_eq, decide_eq_false_iff_not] at hgd) <;> (first | (exfalso; omega) | (go_simp; refine hK _ ?_; clear hK K))))
        all_goals (refine Lx.lex_nil ?_)
        clear hwr htn
        go_wp2_with fail
        go_roundw
        case rel => exact ⟨k + 1, by omega, by omega, by go_num, HI, HWW.out.drew⟩
        case measure => simp [intOf]; omega
    · have HI : Eqn (incF wn) true := by rw [Eqn, HR.out, inc_end (by rw [Hnl.out]; omega)]
      have BO := Lib.hid HW
      clear HW HR HWW
      obtain ⟨wo, rfl⟩ : ∃ wo : World, wo = wr := ⟨_, rfl⟩
      go_wp2_with fail
      go_loopw [6] (fun i wr => ∃ k : Nat, k ≤ p ∧ i = .int .i64 k ∧ Eqn (foundF l wn) (foundF l (wn.drop k)) ∧ Below w.heap.size w wr) (fun i _ => p - (intOf i).toNat)
      case atStart => exact ⟨0, Nat.zero_le _, rfl, rfl, BO.out⟩
      case round =>
        clear BO
        obtain ⟨k2, hk2, rfl, HR, HW⟩ := hrel
        have HWW := Lib.hid HW
        have hws := HW.size
        by_cases hlt2 : k2 < p
        · obtain ⟨y, hy, hyd⟩ := drop_at (xs := wn) (k := k2) (by rw [Hnl.out]; exact hlt2)
          obtain ⟨g, off, rfl, hg, hc⟩ := (Hn.out.below HW).2 (by omega)
          have c0 := hc k2 y hy
          simp only [intV] at c0
          have HR' : Eqn (foundF l wn) (if findC l y < 0 then false else foundF l (wn.drop (k2 + 1))) := by
            have := HR.out; rw [hyd, foundF] at this; exact this
          have j0 : (k2 : Int) < (p : Int) := by omega
          obtain ⟨ii, hii⟩ : ∃ ii, findC l y = ii := ⟨_, rfl⟩
          rw [hii] at HR'
          have HII := Eqn.mk hii
          obtain ⟨wq, rfl⟩ : ∃ wq : World, wq = wr := ⟨_, rfl⟩
          clear hc hy hyd HR HW hii
          by_cases hneg : ii < 0
          · have HFF : Eqn (foundF l wn) false := by rw [Eqn, HR'.out, if_pos hneg]
            have HB : Eqn (amongF l wn) 9 := by unfold amongF; rw [if_pos HI.out, if_neg (by rw [HFF.out]; simp)]; rfl
            go_wp2_with fail
            refine (rfind_any A n c y _ w.heap.size l hn (by exact Hl.out.below HWW.out)).mono ?_
            rw [HII.out]
            rintro e w5 ⟨rfl, rfl⟩
            go_wp2_with fail
            go_ret
            exact ⟨by rw [HB.out]; rfl, HWW.out⟩
          · have HFF : Eqn (foundF l wn) (foundF l (wn.drop (k2 + 1))) := by rw [Eqn, HR'.out, if_neg hneg]
            go_wp2_with fail
            refine (rfind_any A n c y _ w.heap.size l hn (by exact Hl.out.below HWW.out)).mono ?_
            rw [HII.out]
            rintro e w5 ⟨rfl, rfl⟩
            go_wp2_with fail
            go_roundw
            case rel => exact ⟨k2 + 1, by omega, by go_num, HFF, HWW.out⟩
            case measure => simp [intOf]; omega
        · have HFF : Eqn (foundF l wn) true := by rw [Eqn, HR.out, drop_end (by rw [Hnl.out]; omega)]; rfl
          have HB : Eqn (amongF l wn) 0 := by unfold amongF; rw [if_pos HI.out, if_pos HFF.out]; rfl
          clear HW HR
          go_wp2_with fail
          go_ret
          exact ⟨by rw [HB.out]; rfl, HWW.out⟩

set_option maxHeartbeats 4000000 in
theorem checked_any (b : Int) (A B W : Option Addr) (n c m d p pc : Nat) (w : World) (l : List Claim) (ws : List Wish) (wn : List Int) (hn : n ≤ 1000) (hp : p ≤ 1000) (hl : RowS 2 Claim.cell w w.heap.size A n l) (hm : m ≤ 1000) (hw : RowS 3 Wish.cell w w.heap.size B m ws) (hwn : Row1 intV w w.heap.size W p wn) :
    Calls Try.prog 41 #[.int .i64 b, .slice A n c, .slice B m d, .slice W p pc] w (RetPost (.int .i64 (checkedF b l ws wn)) w.heap.size w) := by
  have Hl := Lib.hid hl
  have Hn := Lib.hid hwn
  have Hnl := Eqn.mk hwn.1
  have Hw := Lib.hid hw
  clear hl hwn hw
  cases hv : vwF b l ws with
  | false =>
    have HV := Eqn.mk hv
    have HB : Eqn (checkedF b l ws wn) 2 := by unfold checkedF; rw [if_neg (by rw [hv]; simp)]; rfl
    clear hv
    go_enter Try.func41, Try.ntmps41
    go_wp2_with fail
    refine (vw_any b A B n c m d _ l ws hn hm Hl.out Hw.out).mono ?_
    rw [HV.out]
    rintro e w1 ⟨rfl, hb1⟩
    go_wp2_with fail
    go_ret
    exact ⟨by rw [HB.out]; rfl, hb1⟩
  | true =>
  have HV := Eqn.mk hv
  clear hv
  go_enter Try.func41, Try.ntmps41
  go_wp2_with fail
  refine (vw_any b A B n c m d _ l ws hn hm Hl.out Hw.out).mono ?_
  rw [HV.out]
  rintro e w1 ⟨rfl, hb1⟩
  have B1 := Lib.hid hb1
  clear hb1
  go_wp2_with fail
  go_loopw [9] (fun i wr => ∃ k : Nat, 0 < k ∧ k ≤ p + 1 ∧ i = .int .i64 k ∧ Eqn (incF wn) (incF (wn.drop (k - 1))) ∧ Below w.heap.size w wr) (fun i _ => p + 1 - (intOf i).toNat)
  case atStart => exact ⟨1, by omega, by omega, rfl, rfl, B1.out⟩
  case round =>
    clear B1
    obtain ⟨k, hk0, hk, rfl, HR, HW⟩ := hrel
    have HWW := Lib.hid HW
    by_cases hlt : k < p
    · obtain ⟨y, hy, _⟩ := drop_at (xs := wn) (k := k) (by rw [Hnl.out]; exact hlt)
      obtain ⟨x, hx, _⟩ := drop_at (xs := wn) (k := k - 1) (by rw [Hnl.out]; omega)
      obtain ⟨g, off, rfl, hg, hc⟩ := (Hn.out.below HW).2 (by omega)
      have c0 := hc k y hy
      have c1 := hc (k - 1) x hx
      simp only [intV] at c0 c1
      obtain ⟨s1, s2⟩ := inc_step hk0 hx hy
      have HR' : Eqn (incF wn) (if y ≤ x then false else incF (wn.drop k)) := by
        have := HR.out; rw [s1, incF] at this; rw [s2]; exact this
      have j0 : (k : Int) < (p : Int) := by omega
      have j1 : (0 : Int) ≤ (k : Int) - 1 := by omega
      have j2 : (k : Int) - 1 < (p : Int) := by omega
      have j3 : (1 : Int) ≤ (k : Int) := by omega
      have hwr : IntKind.i64.wrap ((k : Int) - 1) = (k : Int) - 1 := IntWalk.i64_in _ (by omega)
      have htn : ((k : Int) - 1).toNat = k - 1 := by omega
      clear hc hx hy s1 s2 HR HW
      by_cases hle : y ≤ x
      · have HI : Eqn (incF wn) false := by rw [Eqn, HR'.out, if_pos hle]
        have HB : Eqn (checkedF b l ws wn) 2 := by unfold checkedF amongF; rw [if_pos HV.out, if_neg (by rw [HI.out]; simp)]; rfl
        go_wp2_with fail
        refine Lx.region (C := fun _ => True) (hs := []) (by kernel_rfl) (by kernel_rfl) trivial ?_
        repeat' (first
          | (refine Lx.lex_no (Lx.n1 rfl rfl rfl (by with_reducible rfl)) (fun K hK => ?_); go_simp; refine hK _ ?_; clear hK K)
          | (refine Lx.lex_no (Lx.n0 rfl rfl rfl (by with_reducible rfl)) (fun K hK => ?_); go_simp; refine hK _ ?_; clear hK K)
          | (refine Lx.lex_no (Lx.n2 rfl rfl rfl) (fun K hK => ?_); go_simp; refine hK _ ?_; clear hK K)
          | (refine Lx.lex_pure (v := ?_) rfl (by first | exact Lx.w0 rfl | exact Lx.w1 rfl rfl rfl (by with_reducible rfl)) ?_ (fun K hK => ?_); rotate_left 1; (intro w' hCw; (try dsimp only at hCw); go_simp; done); go_simp; refine hK _ ?_; clear hK K)
          | (refine Lx.lex_pure (v := ?_) rfl (by first | exact Lx.w0 rfl | exact Lx.w1 rfl rfl rfl (by with_reducible rfl)) ?_ (fun K hK => ?_); rotate_left 1; (intro w' hCw; (try dsimp only at hCw); go_simp; with_reducible rfl); go_simp; refine hK _ ?_; clear hK K)
          | (refine Lx.lex_read (v := ?_) rfl (by first | exact Lx.w0 rfl | exact Lx.w1 rfl rfl rfl (by with_reducible rfl)) ?_ (fun K hK => ?_); rotate_left 1; (go_simp; done); go_simp; refine hK _ ?_; clear hK K)
          | (refine Lx.lex_read (v := ?_) rfl (by first | exact Lx.w0 rfl | exact Lx.w1 rfl rfl rfl (by with_reducible rfl)) ?_ (fun K hK => ?_); rotate_left 1; (go_simp; with_reducible rfl); go_simp; refine hK _ ?_; clear hK K)
          | (refine Lx.lex_eff rfl (by first | exact Lx.w0 rfl | exact Lx.w1 rfl rfl rfl (by with_reducible rfl)) (fun K hK => ?_); go_simp; (first | fail | skip); refine hK _ _ (trivial) ?_; clear hK K)
          | (refine Lx.lex_cases rfl rfl rfl (fun hgd K hK => ?_) (fun hgd K hK => ?_) <;> (try simp only [decide_eq_true_eq, decide_eq_false_iff_not] at hgd) <;> (first | (exfalso; omega) | (go_simp; refine hK _ ?_; clear hK K))))
        all_goals (refine Lx.lex_nil ?_)
        clear hwr htn
        go_wp2_with fail
        go_ret
        exact ⟨by rw [HB.out]; rfl, HWW.out.drew⟩
      · have HI : Eqn (incF wn) (incF (wn.drop k)) := by rw [Eqn, HR'.out, if_neg hle]
        go_wp2_with fail
        refine Lx.region (C := fun _ => True) (hs := []) (by kernel_rfl) (by kernel_rfl) trivial ?_
        repeat' (first
          | (refine Lx.lex_no (Lx.n1 rfl rfl rfl (by with_reducible rfl)) (fun K hK => ?_); go_simp; refine hK _ ?_; clear hK K)
          | (refine Lx.lex_no (Lx.n0 rfl rfl rfl (by with_reducible rfl)) (fun K hK => ?_); go_simp; refine hK _ ?_; clear hK K)
          | (refine Lx.lex_no (Lx.n2 rfl rfl rfl) (fun K hK => ?_); go_simp; refine hK _ ?_; clear hK K)
          | (refine Lx.lex_pure (v := ?_) rfl (by first | exact Lx.w0 rfl | exact Lx.w1 rfl rfl rfl (by with_reducible rfl)) ?_ (fun K hK => ?_); rotate_left 1; (intro w' hCw; (try dsimp only at hCw); go_simp; done); go_simp; refine hK _ ?_; clear hK K)
          | (refine Lx.lex_pure (v := ?_) rfl (by first | exact Lx.w0 rfl | exact Lx.w1 rfl rfl rfl (by with_reducible rfl)) ?_ (fun K hK => ?_); rotate_left 1; (intro w' hCw; (try dsimp only at hCw); go_simp; with_reducible rfl); go_simp; refine hK _ ?_; clear hK K)
          | (refine Lx.lex_read (v := ?_) rfl (by first | exact Lx.w0 rfl | exact Lx.w1 rfl rfl rfl (by with_reducible rfl)) ?_ (fun K hK => ?_); rotate_left 1; (go_simp; done); go_simp; refine hK _ ?_; clear hK K)
          | (refine Lx.lex_read (v := ?_) rfl (by first | exact Lx.w0 rfl | exact Lx.w1 rfl rfl rfl (by with_reducible rfl)) ?_ (fun K hK => ?_); rotate_left 1; (go_simp; with_reducible rfl); go_simp; refine hK _ ?_; clear hK K)
          | (refine Lx.lex_eff rfl (by first | exact Lx.w0 rfl | exact Lx.w1 rfl rfl rfl (by with_reducible rfl)) (fun K hK => ?_); go_simp; (first | fail | skip); refine hK _ _ (trivial) ?_; clear hK K)
          | (refine Lx.lex_cases rfl rfl rfl (fun hgd K hK => ?_) (fun hgd K hK => ?_) <;> (try simp only [decide_eq_true_eq, decide_eq_false_iff_not] at hgd) <;> (first | (exfalso; omega) | (go_simp; refine hK _ ?_; clear hK K))))
        all_goals (refine Lx.lex_nil ?_)
        clear hwr htn
        go_wp2_with fail
        go_roundw
        case rel => exact ⟨k + 1, by omega, by omega, by go_num, HI, HWW.out.drew⟩
        case measure => simp [intOf]; omega
    · have HI : Eqn (incF wn) true := by rw [Eqn, HR.out, inc_end (by rw [Hnl.out]; omega)]
      have BO := Lib.hid HW
      clear HW HR HWW
      obtain ⟨wo, rfl⟩ : ∃ wo : World, wo = wr := ⟨_, rfl⟩
      go_wp2_with fail
      go_loopw [35] (fun i wr => ∃ k : Nat, k ≤ p ∧ i = .int .i64 k ∧ Eqn (foundF l wn) (foundF l (wn.drop k)) ∧ Below w.heap.size w wr) (fun i _ => p - (intOf i).toNat)
      case atStart => exact ⟨0, Nat.zero_le _, rfl, rfl, BO.out⟩
      case round =>
        clear BO
        obtain ⟨k2, hk2, rfl, HR, HW⟩ := hrel
        have HWW := Lib.hid HW
        have hws := HW.size
        by_cases hlt2 : k2 < p
        · obtain ⟨y, hy, hyd⟩ := drop_at (xs := wn) (k := k2) (by rw [Hnl.out]; exact hlt2)
          obtain ⟨g, off, rfl, hg, hc⟩ := (Hn.out.below HW).2 (by omega)
          have c0 := hc k2 y hy
          simp only [intV] at c0
          have HR' : Eqn (foundF l wn) (if findC l y < 0 then false else foundF l (wn.drop (k2 + 1))) := by
            have := HR.out; rw [hyd, foundF] at this; exact this
          have j0 : (k2 : Int) < (p : Int) := by omega
          obtain ⟨ii, hii⟩ : ∃ ii, findC l y = ii := ⟨_, rfl⟩
          rw [hii] at HR'
          have HII := Eqn.mk hii
          obtain ⟨wq, rfl⟩ : ∃ wq : World, wq = wr := ⟨_, rfl⟩
          clear hc hy hyd HR HW hii
          by_cases hneg : ii < 0
          · have HFF : Eqn (foundF l wn) false := by rw [Eqn, HR'.out, if_pos hneg]
            have HB : Eqn (checkedF b l ws wn) 9 := by unfold checkedF amongF; rw [if_pos HV.out, if_pos HI.out, if_neg (by rw [HFF.out]; simp)]; rfl
            go_wp2_with fail
            refine (claim_any A n c y _ l hn (by exact (Hl.out.below HWW.out).up hws)).mono ?_
            rw [HII.out]
            rintro e w5 ⟨rfl, hb5⟩
            have B5 := Lib.hid (HWW.out.trans (hb5.mono hws))
            clear hb5
            go_wp2_with fail
            go_ret
            exact ⟨by rw [HB.out]; rfl, B5.out⟩
          · have HFF : Eqn (foundF l wn) (foundF l (wn.drop (k2 + 1))) := by rw [Eqn, HR'.out, if_neg hneg]
            go_wp2_with fail
            refine (claim_any A n c y _ l hn (by exact (Hl.out.below HWW.out).up hws)).mono ?_
            rw [HII.out]
            rintro e w5 ⟨rfl, hb5⟩
            have B5 := Lib.hid (HWW.out.trans (hb5.mono hws))
            clear hb5
            go_wp2_with fail
            go_roundw
            case rel => exact ⟨k2 + 1, by omega, by go_num, HFF, B5.out⟩
            case measure => simp [intOf]; omega
        · have HFF : Eqn (foundF l wn) true := by rw [Eqn, HR.out, drop_end (by rw [Hnl.out]; omega)]; rfl
          have HB : Eqn (checkedF b l ws wn) 0 := by unfold checkedF amongF; rw [if_pos HV.out, if_pos HI.out, if_pos HFF.out]; rfl
          clear HW HR
          go_wp2_with fail
          go_ret
          exact ⟨by rw [HB.out]; rfl, HWW.out⟩


theorem checked_yes {b : Int} {l : List Claim} {ws : List Wish} {wn : List Int} (h : checkedF b l ws wn = 0) : vwF b l ws = true ∧ amongF l wn = 0 := by
  unfold checkedF at h
  split at h
  · rename_i hv; exact ⟨hv, h⟩
  · cases h

set_option maxHeartbeats 4000000 in
theorem rbest_any (b : Int) (A B W : Option Addr) (n c m d p pc : Nat) (w : World) (l : List Claim) (ws : List Wish) (wn : List Int) (hn : n ≤ 1000) (hm : m ≤ 1000) (hp : p ≤ 1000) (hl : RowS 2 Claim.cell w w.heap.size A n l) (hw : RowS 3 Wish.cell w w.heap.size B m ws) (hwn : Row1 intV w w.heap.size W p wn) :
    Calls Try.prog 24 #[.int .i64 b, .slice A n c, .slice B m d, .slice W p pc] w (RetPost (v2 (bestF b l ws wn)) w.heap.size w) := by
  have Hl := Lib.hid hl
  have Hw := Lib.hid hw
  have Hn := Lib.hid hwn
  have Hlen := Eqn.mk hl.1
  clear hl hw hwn
  cases hv : vwF b l ws with
  | false =>
    have HV := Eqn.mk hv
    have HF : Eqn (bestF b l ws wn) (0, 2) := by
      have : checkedF b l ws wn = 2 := by unfold checkedF; rw [if_neg (by rw [hv]; simp)]
      unfold bestF; rw [if_neg (by rw [this]; decide), this]; rfl
    clear hv
    go_enter Try.func24, Try.ntmps24
    go_wp2_with fail
    refine (rvw_any b A B n c m d _ l ws hn hm Hl.out Hw.out).mono ?_
    rw [HV.out]
    rintro e w1 ⟨rfl, hb1⟩
    go_wp2_with fail
    go_ret2
    rw [HF.out]
    exact ⟨rfl, hb1⟩
  | true =>
    have HV := Eqn.mk hv
    obtain ⟨hva, _⟩ := vwF_yes hv
    obtain ⟨v1, v2', v3, v4⟩ := validF_all hva
    have HOK := Lib.hid (okV_ps hv wn)
    obtain ⟨N, rfl⟩ := Int.eq_ofNat_of_zero_le (show 0 ≤ b by omega)
    have hck : checkedF N l ws wn = amongF l wn := by unfold checkedF; rw [if_pos hv]
    obtain ⟨am, ham⟩ : ∃ am, amongF l wn = am := ⟨_, rfl⟩
    have HAM := Eqn.mk ham
    rw [ham] at hck
    have H4 := Lib.hid v4
    have mkB := fun w => mk_bools N (by omega) w
    rw [Hlen.out] at v3
    clear hv v4 hva ham
    by_cases h0 : am = 0
    · have HF : Eqn (bestF N l ws wn) ((srF (psOf l ws wn) (List.replicate N false)).2.1, 0) := by unfold bestF; rw [if_pos (by rw [hck, h0])]; rfl
      have t0 : (am != 0) = false := by simpa using h0
      clear hck h0
      go_enter Try.func24, Try.ntmps24
      go_wp2_with fail
      refine (rvw_any N A B n c m d _ l ws hn hm Hl.out Hw.out).mono ?_
      rw [HV.out]
      rintro e w1 ⟨rfl, hb1⟩
      have B1 := Lib.hid hb1
      clear hb1
      go_wp2_with fail
      refine (among_any A W n c p pc _ l wn hn hp (by exact (Hl.out.below B1.out).up B1.out.size) (by exact (Hn.out.below B1.out).up B1.out.size)).mono ?_
      rw [HAM.out]
      rintro e w2 ⟨rfl, hb2⟩
      have B2 : Hid (Below w.heap.size w (w2.alloc (.cells (tabL N fun _ => .bool false).toArray 4))) := Lib.hid ((B1.out.trans (hb2.mono B1.out.size)).alloc (Nat.le_trans B1.out.size hb2.size) _)
      clear hb2
      go_wp2_with fail
      refine (search_any A n c l v3 B m d ws hm W p pc wn hp HOK.out n 0 _ _ N _ (List.replicate N false) (by omega) (by omega) (by omega) (fun x hx => ⟨(H4.out x hx).2.2.1, (H4.out x hx).2.2.2⟩) (by exact (Hl.out.below B2.out).up B2.out.size) (by exact (Hw.out.below B2.out).up B2.out.size) (by exact (Hn.out.below B2.out).up B2.out.size) (by exact (row_bools N w2).up (by simp))).mono ?_
      rw [List.drop_zero]
      generalize srF (psOf l ws wn) (List.replicate N false) = qq at *
      rintro e w3 ⟨v, rfl, ho, hb3⟩
      have B3 := Lib.hid (B2.out.trans (hb3.mono B2.out.size))
      clear hb3 ho
      go_wp2_with fail
      go_ret2
      rw [HF.out]
      exact ⟨rfl, B3.out⟩
    · have HF : Eqn (bestF N l ws wn) (0, am) := by unfold bestF; rw [if_neg (by rw [hck]; exact h0), hck]; rfl
      have t0 : (am != 0) = true := by simpa using h0
      clear hck h0
      go_enter Try.func24, Try.ntmps24
      go_wp2_with fail
      refine (rvw_any N A B n c m d _ l ws hn hm Hl.out Hw.out).mono ?_
      rw [HV.out]
      rintro e w1 ⟨rfl, hb1⟩
      have B1 := Lib.hid hb1
      clear hb1
      go_wp2_with fail
      refine (among_any A W n c p pc _ l wn hn hp (by exact (Hl.out.below B1.out).up B1.out.size) (by exact (Hn.out.below B1.out).up B1.out.size)).mono ?_
      rw [HAM.out]
      rintro e w2 ⟨rfl, hb2⟩
      have B2 := Lib.hid (B1.out.trans (hb2.mono B1.out.size))
      clear hb2
      go_wp2_with fail
      go_ret2
      rw [HF.out]
      exact ⟨rfl, B2.out⟩

set_option maxHeartbeats 4000000 in
theorem best_any (b : Int) (A B W : Option Addr) (n c m d p pc : Nat) (w : World) (l : List Claim) (ws : List Wish) (wn : List Int) (hn : n ≤ 1000) (hm : m ≤ 1000) (hp : p ≤ 1000) (hl : RowS 2 Claim.cell w w.heap.size A n l) (hw : RowS 3 Wish.cell w w.heap.size B m ws) (hwn : Row1 intV w w.heap.size W p wn) :
    Calls Try.prog 23 #[.int .i64 b, .slice A n c, .slice B m d, .slice W p pc] w (RetPost (v2 (bestF b l ws wn)) w.heap.size w) := by
  have B0 : Hid (Below w.heap.size w (w.alloc (.cells #[.slice W p pc] 27))) := Lib.hid ((Below.refl _ _).alloc (Nat.le_refl _) _)
  have Hl := Lib.hid (hl.keep B0.out)
  have Hw := Lib.hid (hw.keep B0.out)
  have Hn := Lib.hid (hwn.keep B0.out)
  have HlW := Lib.hid hl
  have Hlen := Eqn.mk hl.1
  have cW : Hid ((w.alloc (.cells #[.slice W p pc] 27)).cell? ⟨w.heap.size, 0, none⟩ = some (.slice W p pc)) := Lib.hid ((blk_new w [.slice W p pc] 27).cell rfl)
  clear hl hw hwn
  obtain ⟨ck, hck⟩ : ∃ ck, checkedF b l ws wn = ck := ⟨_, rfl⟩
  have HCK := Eqn.mk hck
  by_cases h0 : ck = 0
  · subst h0
    obtain ⟨hv, _⟩ := checked_yes hck
    obtain ⟨hva, hvg⟩ := vwF_yes hv
    obtain ⟨v1, v2', v3, v4⟩ := validF_all hva
    obtain ⟨N, rfl⟩ := Int.eq_ofNat_of_zero_le (show 0 ≤ b by omega)
    have HF : Eqn (bestF N l ws wn) ((srF (psOf l ws wn) (List.replicate N false)).2.1, 0) := by unfold bestF; rw [if_pos hck]; rfl
    have HDP := Eqn.mk (dp_all (wn := wn) (P := hasF wn) hv (fun c hc => rfl) rfl Hlen.out).1
    have HWO := Lib.hid (fun x hx => (vw_ok hva ws none hvg x hx).1)
    have HBD := Lib.hid (valOf_bd (n := n) (K := 1099511627776) (by omega) (tabG_bd l (hasF wn) ws (fun _ _ => 0) (fun x hx => (vw_ok hva ws none hvg x hx).2) (fun i s => by omega)))
    have H4 := Lib.hid v4
    have t0 : ((0 : Int) != 0) = false := by simp
    rw [Hlen.out] at v3
    clear hv v4 hva hck hvg
    go_enter Try.func23, Try.ntmps23
    go_wp2_with fail
    refine (checked_any N A B W n c m d p pc _ l ws wn hn hp Hl.out hm Hw.out Hn.out).mono ?_
    rw [HCK.out]
    rintro e w1 ⟨rfl, hb1⟩
    have Hl1 := Lib.hid (Hl.out.keep hb1)
    have Hw1 := Lib.hid (Hw.out.keep hb1)
    have Hn1 := Lib.hid (Hn.out.keep hb1)
    have c1 := Lib.hid ((hb1.cell (p := ⟨w.heap.size, 0, none⟩) (by simp)).trans cW.out)
    have z1 : w.heap.size < w1.heap.size := Nat.lt_of_lt_of_le (by simp) hb1.size
    have B1 := Lib.hid (B0.out.trans (hb1.mono B0.out.size))
    clear hb1 Hl Hw Hn cW B0
    go_wp2_with fail
    refine (table_best A B n c m d w1 l ws w.heap.size W p pc wn hp z1 c1.out Hn1.out hn hm Hl1.out Hw1.out HWO.out).mono ?_
    rintro e w2 ⟨gt, rfl, hgt, ht, hb2⟩
    have HT := Lib.hid ht
    have B2 := Lib.hid (B1.out.trans (hb2.mono B1.out.size))
    have hg2 : w.heap.size ≤ gt := Nat.le_trans B1.out.size hgt
    clear ht hb2 hgt
    go_wp2_with fail
    refine (newArea_any N n A c gt w.heap.size w2 l _ hn B2.out.size hg2 (by exact HlW.out.below B2.out) HT.out).mono ?_
    rintro e w3 ⟨g, gf, rfl, ha, hb3⟩
    have HA := Lib.hid ha
    have B3 := Lib.hid (B2.out.trans (hb3.mono B2.out.size))
    clear ha hb3 HT
    go_wp2_with fail
    refine (solve_any g N n w3 l _ _ (by omega) (by omega) v3 (fun x hx => ⟨(H4.out x hx).2.2.1, by have := (H4.out x hx).2.2.2; omega⟩) HBD.out HA.out.at).mono ?_
    rw [HDP.out]
    rintro e w4 ⟨rfl, hb4⟩
    have B4 := Lib.hid (B3.out.trans (hb4.mono B3.out.size))
    clear hb4
    simp only [v2n]
    go_wp2_with fail
    go_ret2
    rw [HF.out]
    exact ⟨rfl, B4.out⟩
  · have HF : Eqn (bestF b l ws wn) (0, ck) := by unfold bestF; rw [if_neg (by rw [hck]; exact h0), hck]; rfl
    have t0 : (ck != 0) = true := by simpa using h0
    clear hck h0
    go_enter Try.func23, Try.ntmps23
    go_wp2_with fail
    refine (checked_any b A B W n c m d p pc _ l ws wn hn hp Hl.out hm Hw.out Hn.out).mono ?_
    rw [HCK.out]
    rintro e w1 ⟨rfl, hb1⟩
    have B1 := Lib.hid (B0.out.trans (hb1.mono B0.out.size))
    clear hb1
    go_wp2_with fail
    go_ret2
    rw [HF.out]
    exact ⟨rfl, B1.out⟩
end Go.Proofs.Yteckijkmcafpaaa
