/- The contract of band.validBands. -/
import Derived.Test.YtpdhelhngdeoeaaVt17
import Derived.Test.YtpdhelhngdeoeaaCk26
namespace Go.Proofs.Ytpdhelhngdeoeaa
open Go.RowKit

/-- whether a number stands behind the one before it -/
def notUp (prev : Option Int) (x : Int) : Bool := match prev with | none => false | some y => decide (x ≤ y)
/-- the bands of a station: from 1 to 3, increasing -/
def vbIn : Option Int → List Int → Bool
  | _, [] => true
  | prev, x :: r => if x < 1 ∨ 3 < x ∨ notUp prev x = true then false else vbIn (some x) r
/-- a list of bands: stations from 0 to 511, increasing, each with bands -/
def vbGo : Option Int → List Dom → Bool
  | _, [] => true
  | prev, d :: r => if d.st < 0 ∨ 512 ≤ d.st ∨ notUp prev d.st = true ∨ d.chs = [] then false else if vbIn none d.chs then vbGo (some d.st) r else false
def prevOf {α : Type} (f : α → Int) (l : List α) (k : Nat) : Option Int := if k = 0 then none else (l[k - 1]?).map f
theorem prevOf_zero {α : Type} (f : α → Int) (l : List α) : prevOf f l 0 = none := rfl
theorem prevOf_succ {α : Type} (f : α → Int) (l : List α) (k : Nat) : prevOf f l (k + 1) = (l[k]?).map f := by unfold prevOf; rw [if_neg (by omega), Nat.add_sub_cancel]

set_option maxRecDepth 100000 in
set_option maxHeartbeats 4000000 in
theorem vbands_any (A : Option Addr) (n c : Nat) (w : World) (ds : List Dom) (hn : n ≤ 1000) (hd : ∀ d ∈ ds, d.len ≤ 1000) (hl : DomsAt w w.heap.size A n ds) :
    Calls Try.prog 34 #[.slice A n c] w (RetPost (.bool (vbGo none ds)) w.heap.size w) := by
  have Hl := Lib.hid hl
  have Hlen := Eqn.mk hl.1.1
  have HD := Lib.hid hd
  clear hl hd
  go_enter Try.func34, Try.ntmps34
  go_wp2_with fail
  go_loopw [9] (fun i wr => ∃ k : Nat, k ≤ n ∧ i = .int .i64 k ∧ Eqn (vbGo none ds) (vbGo (prevOf Dom.st ds k) (ds.drop k)) ∧ Below w.heap.size w wr) (fun i _ => n - (intOf i).toNat)
  case atStart => exact ⟨0, Nat.zero_le _, rfl, rfl, Below.refl _ _⟩
  case round =>
    obtain ⟨k, hk, rfl, HR, hB⟩ := hrel
    have HB := Lib.hid hB
    have hbs := hB.size
    by_cases hlt : k < n
    · obtain ⟨p, hp, hpd⟩ := drop_at (xs := ds) (k := k) (by rw [Hlen.out]; exact hlt)
      obtain ⟨b, off, hA, hbl, hc⟩ := (Hl.out.1.below hB).2 (by omega)
      subst hA
      have hrow := (Hl.out.2 p (List.mem_of_getElem? hp)).below hB
      have hpl := HD.out p (List.mem_of_getElem? hp)
      have HR2 := HR.out
      rw [hpd, vbGo] at HR2
      have hnx : prevOf Dom.st ds (k + 1) = some p.st := by rw [prevOf_succ, hp]; rfl
      have c0 := hc k p hp 0 (by omega)
      have c1 := hc k p hp 1 (by omega)
      simp only [Dom.cell, Nat.add_zero] at c0 c1
      have hbw : b < wr.heap.size := by omega
      -- the element ahead
      obtain ⟨qs, hqs, hprev⟩ : ∃ qs : Int, (0 < k → wr.cell? ⟨b, off + (k - 1) * 2, none⟩ = some (.int .i64 qs)) ∧ (0 < k → prevOf Dom.st ds k = some qs) := by
        by_cases h0 : 0 < k
        · obtain ⟨q, hq, _⟩ := drop_at (xs := ds) (k := k - 1) (by rw [Hlen.out]; omega)
          refine ⟨q.st, fun _ => ?_, fun _ => ?_⟩
          · have := hc (k - 1) q hq 0 (by omega); simpa [Dom.cell] using this
          · unfold prevOf; rw [if_neg (by omega), hq]; rfl
        · exact ⟨0, fun h => absurd h h0, fun h => absurd h h0⟩
      obtain ⟨st, adr, len, cap, chs⟩ := p
      dsimp only at *
      obtain ⟨W2, hW2⟩ : ∃ W2, W2 = wr.alloc (.cells #[.int .i64 st, .slice adr len cap] 67) := ⟨_, rfl⟩
      have hB2 : Below wr.heap.size wr W2 := by rw [hW2]; exact (Below.refl _ wr).alloc (Nat.le_refl _) _
      have x0 : W2.cell? ⟨wr.heap.size, 0, none⟩ = some (.int .i64 st) := by rw [hW2]; simp [go_sem]
      have x1 : W2.cell? ⟨wr.heap.size, 1, none⟩ = some (.slice adr len cap) := by rw [hW2]; simp [go_sem]
      have hW2s : W2.heap.size = wr.heap.size + 1 := by rw [hW2]; simp
      have hbw2 : b < W2.heap.size := by omega
      have hww2 : wr.heap.size < W2.heap.size := by omega
      have HB2 := Lib.hid (HB.out.trans (hB2.mono hbs))
      have HROW := Lib.hid ((hrow.up (show w.heap.size ≤ wr.heap.size from hbs)).keep hB2)
      have HQ : Hid (0 < k → W2.cell? ⟨b, off + (k - 1) * 2, none⟩ = some (.int .i64 qs)) := Lib.hid (fun h => (hB2.cell (p := ⟨b, off + (k - 1) * 2, none⟩) hbw).trans (hqs h))
      have HP := Lib.hid hprev
      have HNX := Eqn.mk hnx
      have HCL : Hid (chs.length = len) := Lib.hid hrow.1
      have HRR := Eqn.mk HR2
      have j0 : (k : Int) < (n : Int) := by omega
      clear hc hp hpd HR HR2 hB hrow hqs hprev hnx hB2
      -- what the tests answer
      by_cases hbad : st < 0 ∨ 512 ≤ st ∨ notUp (prevOf Dom.st ds k) st = true ∨ chs = []
      · have HV := Eqn.mk (HRR.out.trans (if_pos hbad))
        by_cases b1 : st < 0
        · clear hbad HRR
          go_wp2_with fail
          rw [← hW2]
          clear hW2 c0 c1
          refine Lx.region (C := fun _ => True) (hs := []) (by kernel_rfl) (by kernel_rfl) trivial ?_
          repeat' (first
            | (refine Lx.lex_no (Lx.n1 rfl rfl rfl (by with_reducible rfl)) (fun K hK => ?_); go_simp; skip; refine hK _ ?_; clear hK K)
            | (refine Lx.lex_no (Lx.n0 rfl rfl rfl (by with_reducible rfl)) (fun K hK => ?_); go_simp; skip; refine hK _ ?_; clear hK K)
            | (refine Lx.lex_no (Lx.n2 rfl rfl rfl) (fun K hK => ?_); go_simp; skip; refine hK _ ?_; clear hK K)
            | (refine Lx.lex_pure (v := ?_) rfl (by first | exact Lx.w0 rfl | exact Lx.w1 rfl rfl rfl (by with_reducible rfl)) ?_ (fun K hK => ?_); rotate_left 1; (intro w' hCw; (try dsimp only at hCw); go_simp; first | done | with_reducible rfl); go_simp; skip; refine hK _ ?_; clear hK K)
            | (refine Lx.lex_read (v := ?_) rfl (by first | exact Lx.w0 rfl | exact Lx.w1 rfl rfl rfl (by with_reducible rfl)) ?_ (fun K hK => ?_); rotate_left 1; (go_simp; first | done | with_reducible rfl); go_simp; skip; refine hK _ ?_; clear hK K)
            | (refine Lx.lex_eff rfl (by first | exact Lx.w0 rfl | exact Lx.w1 rfl rfl rfl (by with_reducible rfl)) (fun K hK => ?_); go_simp; (first | fail); refine hK _ _ (trivial) ?_; clear hK K))
          all_goals (refine Lx.lex_nil ?_)
          go_wp2_with fail
          go_ret
          exact ⟨ret_bool HV.out.symm, HB2.out.drew⟩
        · by_cases b2 : 512 ≤ st
          · have hd1 : decide (st < 0) = false := decide_eq_false b1
            clear hbad HRR
            go_wp2_with fail
            rw [← hW2]
            clear hW2 c0 c1
            refine Lx.region (C := fun _ => True) (hs := []) (by kernel_rfl) (by kernel_rfl) trivial ?_
            repeat' (first
              | (refine Lx.lex_no (Lx.n1 rfl rfl rfl (by with_reducible rfl)) (fun K hK => ?_); go_simp; skip; refine hK _ ?_; clear hK K)
              | (refine Lx.lex_no (Lx.n0 rfl rfl rfl (by with_reducible rfl)) (fun K hK => ?_); go_simp; skip; refine hK _ ?_; clear hK K)
              | (refine Lx.lex_no (Lx.n2 rfl rfl rfl) (fun K hK => ?_); go_simp; skip; refine hK _ ?_; clear hK K)
              | (refine Lx.lex_pure (v := ?_) rfl (by first | exact Lx.w0 rfl | exact Lx.w1 rfl rfl rfl (by with_reducible rfl)) ?_ (fun K hK => ?_); rotate_left 1; (intro w' hCw; (try dsimp only at hCw); go_simp; first | done | with_reducible rfl); go_simp; skip; refine hK _ ?_; clear hK K)
              | (refine Lx.lex_read (v := ?_) rfl (by first | exact Lx.w0 rfl | exact Lx.w1 rfl rfl rfl (by with_reducible rfl)) ?_ (fun K hK => ?_); rotate_left 1; (go_simp; first | done | with_reducible rfl); go_simp; skip; refine hK _ ?_; clear hK K)
              | (refine Lx.lex_eff rfl (by first | exact Lx.w0 rfl | exact Lx.w1 rfl rfl rfl (by with_reducible rfl)) (fun K hK => ?_); go_simp; (first | fail); refine hK _ _ (trivial) ?_; clear hK K))
            all_goals (refine Lx.lex_nil ?_)
            go_wp2_with fail
            go_ret
            exact ⟨ret_bool HV.out.symm, HB2.out.drew⟩
          · have hd1 : decide (st < 0) = false := decide_eq_false b1
            have hd2 : decide (512 ≤ st) = false := decide_eq_false b2
            by_cases h0 : 0 < k
            · have hup : notUp (prevOf Dom.st ds k) st = decide (st ≤ qs) := by rw [HP.out h0]; rfl
              have qc0 := HQ.out h0
              have k1 : (0 : Int) < (k : Int) := by omega
              have hd3 : decide (0 < (k : Int)) = true := decide_eq_true k1
              have hd5 : decide (0 < k) = true := decide_eq_true (by omega)
              obtain ⟨k', hk'⟩ : ∃ k', k - 1 = k' := ⟨_, rfl⟩
              have e1 : IntKind.i64.wrap ((k : Int) - 1) = (k' : Int) := by rw [IntWalk.i64_in _ (by omega)]; omega
              have e3 : (k : Int) - 1 = (k' : Int) := by omega
              have e9 : IntKind.i64.wrap (k' : Int) = (k' : Int) := by rw [IntWalk.i64_in _ (by omega)]
              have e4 : (0 : Int) ≤ (k' : Int) := by omega
              have e5 : (k' : Int) < (n : Int) := by omega
              rw [hk'] at qc0
              clear hk'
              by_cases b3 : st ≤ qs
              · have hd4 : decide (st ≤ qs) = true := decide_eq_true b3
                clear hbad HRR hup HP h0
                go_wp2_with fail
                rw [← hW2]
                clear hW2 c0 c1
                refine Lx.region (C := fun _ => True) (hs := []) (by kernel_rfl) (by kernel_rfl) trivial ?_
                repeat' (first
                  | (refine Lx.lex_no (Lx.n1 rfl rfl rfl (by with_reducible rfl)) (fun K hK => ?_); go_simp; skip; refine hK _ ?_; clear hK K)
                  | (refine Lx.lex_no (Lx.n0 rfl rfl rfl (by with_reducible rfl)) (fun K hK => ?_); go_simp; skip; refine hK _ ?_; clear hK K)
                  | (refine Lx.lex_no (Lx.n2 rfl rfl rfl) (fun K hK => ?_); go_simp; skip; refine hK _ ?_; clear hK K)
                  | (refine Lx.lex_pure (v := ?_) rfl (by first | exact Lx.w0 rfl | exact Lx.w1 rfl rfl rfl (by with_reducible rfl)) ?_ (fun K hK => ?_); rotate_left 1; (intro w' hCw; (try dsimp only at hCw); go_simp; first | done | with_reducible rfl); go_simp; skip; refine hK _ ?_; clear hK K)
                  | (refine Lx.lex_read (v := ?_) rfl (by first | exact Lx.w0 rfl | exact Lx.w1 rfl rfl rfl (by with_reducible rfl)) ?_ (fun K hK => ?_); rotate_left 1; (go_simp; first | done | with_reducible rfl); go_simp; skip; refine hK _ ?_; clear hK K)
                  | (refine Lx.lex_eff rfl (by first | exact Lx.w0 rfl | exact Lx.w1 rfl rfl rfl (by with_reducible rfl)) (fun K hK => ?_); go_simp; (first | fail); refine hK _ _ (trivial) ?_; clear hK K))
                all_goals (refine Lx.lex_nil ?_)
                go_wp2_with fail
                go_ret
                exact ⟨ret_bool HV.out.symm, HB2.out.drew⟩
              · have hd4 : decide (st ≤ qs) = false := decide_eq_false b3
                have hl0 : len = 0 := by
                  rcases hbad with h | h | h | h
                  · omega
                  · omega
                  · rw [hup] at h; simp at h; omega
                  · rw [← HCL.out, h]; rfl
                have hl1 : ((len : Int) == 0) = true := by simp; omega
                clear hbad HRR hup HP h0 hl0
                go_wp2_with fail
                rw [← hW2]
                clear hW2 c0 c1
                refine Lx.region (C := fun _ => True) (hs := []) (by kernel_rfl) (by kernel_rfl) trivial ?_
                repeat' (first
                  | (refine Lx.lex_no (Lx.n1 rfl rfl rfl (by with_reducible rfl)) (fun K hK => ?_); go_simp; skip; refine hK _ ?_; clear hK K)
                  | (refine Lx.lex_no (Lx.n0 rfl rfl rfl (by with_reducible rfl)) (fun K hK => ?_); go_simp; skip; refine hK _ ?_; clear hK K)
                  | (refine Lx.lex_no (Lx.n2 rfl rfl rfl) (fun K hK => ?_); go_simp; skip; refine hK _ ?_; clear hK K)
                  | (refine Lx.lex_pure (v := ?_) rfl (by first | exact Lx.w0 rfl | exact Lx.w1 rfl rfl rfl (by with_reducible rfl)) ?_ (fun K hK => ?_); rotate_left 1; (intro w' hCw; (try dsimp only at hCw); go_simp; first | done | with_reducible rfl); go_simp; skip; refine hK _ ?_; clear hK K)
                  | (refine Lx.lex_read (v := ?_) rfl (by first | exact Lx.w0 rfl | exact Lx.w1 rfl rfl rfl (by with_reducible rfl)) ?_ (fun K hK => ?_); rotate_left 1; (go_simp; first | done | with_reducible rfl); go_simp; skip; refine hK _ ?_; clear hK K)
                  | (refine Lx.lex_eff rfl (by first | exact Lx.w0 rfl | exact Lx.w1 rfl rfl rfl (by with_reducible rfl)) (fun K hK => ?_); go_simp; (first | fail); refine hK _ _ (trivial) ?_; clear hK K))
                all_goals (refine Lx.lex_nil ?_)
                go_wp2_with fail
                go_ret
                exact ⟨ret_bool HV.out.symm, HB2.out.drew⟩
            · have k1 : ¬ (0 : Int) < (k : Int) := by omega
              have hd3 : decide (0 < (k : Int)) = false := decide_eq_false k1
              have hd5 : decide (0 < k) = false := decide_eq_false (by omega)
              have hl0 : len = 0 := by
                rcases hbad with h | h | h | h
                · omega
                · omega
                · unfold prevOf at h; rw [if_pos (by omega)] at h; simp [notUp] at h
                · rw [← HCL.out, h]; rfl
              have hl1 : ((len : Int) == 0) = true := by simp; omega
              clear hbad HRR HP h0 hl0
              go_wp2_with fail
              rw [← hW2]
              clear hW2 c0 c1
              refine Lx.region (C := fun _ => True) (hs := []) (by kernel_rfl) (by kernel_rfl) trivial ?_
              repeat' (first
                | (refine Lx.lex_no (Lx.n1 rfl rfl rfl (by with_reducible rfl)) (fun K hK => ?_); go_simp; skip; refine hK _ ?_; clear hK K)
                | (refine Lx.lex_no (Lx.n0 rfl rfl rfl (by with_reducible rfl)) (fun K hK => ?_); go_simp; skip; refine hK _ ?_; clear hK K)
                | (refine Lx.lex_no (Lx.n2 rfl rfl rfl) (fun K hK => ?_); go_simp; skip; refine hK _ ?_; clear hK K)
                | (refine Lx.lex_pure (v := ?_) rfl (by first | exact Lx.w0 rfl | exact Lx.w1 rfl rfl rfl (by with_reducible rfl)) ?_ (fun K hK => ?_); rotate_left 1; (intro w' hCw; (try dsimp only at hCw); go_simp; first | done | with_reducible rfl); go_simp; skip; refine hK _ ?_; clear hK K)
                | (refine Lx.lex_read (v := ?_) rfl (by first | exact Lx.w0 rfl | exact Lx.w1 rfl rfl rfl (by with_reducible rfl)) ?_ (fun K hK => ?_); rotate_left 1; (go_simp; first | done | with_reducible rfl); go_simp; skip; refine hK _ ?_; clear hK K)
                | (refine Lx.lex_eff rfl (by first | exact Lx.w0 rfl | exact Lx.w1 rfl rfl rfl (by with_reducible rfl)) (fun K hK => ?_); go_simp; (first | fail); refine hK _ _ (trivial) ?_; clear hK K))
              all_goals (refine Lx.lex_nil ?_)
              go_wp2_with fail
              go_ret
              exact ⟨ret_bool HV.out.symm, HB2.out.drew⟩
      · have HV := Eqn.mk (HRR.out.trans (if_neg hbad))
        have b1 : ¬ st < 0 := fun h => hbad (.inl h)
        have b2 : ¬ 512 ≤ st := fun h => hbad (.inr (.inl h))
        have hl0 : ¬ len = 0 := fun h => hbad (.inr (.inr (.inr (List.eq_nil_of_length_eq_zero (by rw [HCL.out]; exact h)))))
        have hl1 : ((len : Int) == 0) = false := by simp; omega
        have hd1 : decide (st < 0) = false := decide_eq_false b1
        have hd2 : decide (512 ≤ st) = false := decide_eq_false b2
        by_cases h0 : 0 < k
        · have hup : notUp (prevOf Dom.st ds k) st = decide (st ≤ qs) := by rw [HP.out h0]; rfl
          have b3 : ¬ st ≤ qs := fun h => hbad (.inr (.inr (.inl (by rw [hup]; simpa using h))))
          have hd4 : decide (st ≤ qs) = false := decide_eq_false b3
          have qc0 := HQ.out h0
          have k1 : (0 : Int) < (k : Int) := by omega
          have hd3 : decide (0 < (k : Int)) = true := decide_eq_true k1
          have hd5 : decide (0 < k) = true := decide_eq_true (by omega)
          obtain ⟨k', hk'⟩ : ∃ k', k - 1 = k' := ⟨_, rfl⟩
          have e1 : IntKind.i64.wrap ((k : Int) - 1) = (k' : Int) := by rw [IntWalk.i64_in _ (by omega)]; omega
          have e3 : (k : Int) - 1 = (k' : Int) := by omega
          have e9 : IntKind.i64.wrap (k' : Int) = (k' : Int) := by rw [IntWalk.i64_in _ (by omega)]
          have e4 : (0 : Int) ≤ (k' : Int) := by omega
          have e5 : (k' : Int) < (n : Int) := by omega
          rw [hk'] at qc0
          clear hk'
          clear hbad HRR hup HP h0
          go_wp2_with fail
          rw [← hW2]
          clear hW2 c0 c1
          refine Lx.region (C := fun _ => True) (hs := []) (by kernel_rfl) (by kernel_rfl) trivial ?_
          repeat' (first
            | (refine Lx.lex_no (Lx.n1 rfl rfl rfl (by with_reducible rfl)) (fun K hK => ?_); go_simp; skip; refine hK _ ?_; clear hK K)
            | (refine Lx.lex_no (Lx.n0 rfl rfl rfl (by with_reducible rfl)) (fun K hK => ?_); go_simp; skip; refine hK _ ?_; clear hK K)
            | (refine Lx.lex_no (Lx.n2 rfl rfl rfl) (fun K hK => ?_); go_simp; skip; refine hK _ ?_; clear hK K)
            | (refine Lx.lex_pure (v := ?_) rfl (by first | exact Lx.w0 rfl | exact Lx.w1 rfl rfl rfl (by with_reducible rfl)) ?_ (fun K hK => ?_); rotate_left 1; (intro w' hCw; (try dsimp only at hCw); go_simp; first | done | with_reducible rfl); go_simp; skip; refine hK _ ?_; clear hK K)
            | (refine Lx.lex_read (v := ?_) rfl (by first | exact Lx.w0 rfl | exact Lx.w1 rfl rfl rfl (by with_reducible rfl)) ?_ (fun K hK => ?_); rotate_left 1; (go_simp; first | done | with_reducible rfl); go_simp; skip; refine hK _ ?_; clear hK K)
            | (refine Lx.lex_eff rfl (by first | exact Lx.w0 rfl | exact Lx.w1 rfl rfl rfl (by with_reducible rfl)) (fun K hK => ?_); go_simp; (first | fail); refine hK _ _ (trivial) ?_; clear hK K))
          all_goals (refine Lx.lex_nil ?_)
          go_wp2_with fail
          clear e1 e3 e4 e5 e9
          go_loop [46] (fun i => ∃ m : Nat, m ≤ len ∧ i = .int .i64 m ∧ Eqn (vbIn none chs) (vbIn (prevOf id chs m) (chs.drop m))) (fun i => len - (intOf i).toNat)
          case atStart => exact ⟨0, Nat.zero_le _, rfl, rfl⟩
          case round =>
            obtain ⟨m, hm, rfl, HI⟩ := hrel
            by_cases hml : m < len
            · obtain ⟨y, hy, hyd⟩ := drop_at (xs := chs) (k := m) (by rw [HCL.out]; exact hml)
              obtain ⟨b2, off2, hA2, hbl2, hc2⟩ := HROW.out.2 (by omega)
              have hadr := hA2
              subst hA2
              have y0 := hc2 m y hy
              simp only [intV] at y0
              have m0 : (m : Int) < (len : Int) := by omega
              have HI2 := HI.out
              rw [hyd, vbIn] at HI2
              have hny : prevOf id chs (m + 1) = some y := by rw [prevOf_succ, hy]; rfl
              have HNY := Eqn.mk hny
              by_cases hyb : y < 1 ∨ 3 < y ∨ notUp (prevOf id chs m) y = true
              · have HV2 := Eqn.mk (HI2.trans (if_pos hyb))
                have HV3 : Eqn (vbGo none ds) false := by rw [Eqn, HV.out, HV2.out]; rfl
                by_cases d1 : y < 1
                · clear hyb HI2 HI hc2 hy hyd hny
                  go_wp2_with fail
                  go_ret
                  exact ⟨ret_bool HV3.out.symm, HB2.out.drew⟩
                · by_cases d2 : 3 < y
                  · clear hyb HI2 HI hc2 hy hyd hny
                    go_wp2_with fail
                    go_ret
                    exact ⟨ret_bool HV3.out.symm, HB2.out.drew⟩
                  · have hm0 : 0 < m := by
                      rcases Nat.eq_zero_or_pos m with h | h
                      · unfold prevOf at hyb; rw [if_pos h] at hyb; simp [notUp] at hyb; omega
                      · exact h
                    obtain ⟨z, hz, _⟩ := drop_at (xs := chs) (k := m - 1) (by rw [HCL.out]; omega)
                    have z0 := hc2 (m - 1) z hz
                    simp only [intV] at z0
                    have hzy : y ≤ z := by
                      rcases hyb with h | h | h
                      · omega
                      · omega
                      · unfold prevOf at h; rw [if_neg (by omega), hz] at h; simpa [notUp] using h
                    have m1 : (0 : Int) < (m : Int) := by omega
                    obtain ⟨m', hm'⟩ : ∃ m', m - 1 = m' := ⟨_, rfl⟩
                    have g1 : IntKind.i64.wrap ((m : Int) - 1) = (m' : Int) := by rw [IntWalk.i64_in _ (by omega)]; omega
                    have g3 : (m : Int) - 1 = (m' : Int) := by omega
                    have g9 : IntKind.i64.wrap (m' : Int) = (m' : Int) := by rw [IntWalk.i64_in _ (by omega)]
                    have g4 : (0 : Int) ≤ (m' : Int) := by omega
                    have g5 : (m' : Int) < (len : Int) := by omega
                    rw [hm'] at z0
                    clear hm'
                    clear hyb HI2 HI hc2 hy hyd hny hz
                    go_wp2_with fail
                    go_ret
                    exact ⟨ret_bool HV3.out.symm, HB2.out.drew⟩
              · have HV2 : Eqn (vbIn none chs) (vbIn (prevOf id chs (m + 1)) (chs.drop (m + 1))) := by rw [Eqn, HI2, if_neg hyb, HNY.out]
                have d1 : ¬ y < 1 := fun h => hyb (.inl h)
                have d2 : ¬ 3 < y := fun h => hyb (.inr (.inl h))
                by_cases hm0 : 0 < m
                · obtain ⟨z, hz, _⟩ := drop_at (xs := chs) (k := m - 1) (by rw [HCL.out]; omega)
                  have z0 := hc2 (m - 1) z hz
                  simp only [intV] at z0
                  have hzy : z < y := by
                    have h : ¬ notUp (prevOf id chs m) y = true := fun h => hyb (.inr (.inr h))
                    unfold prevOf at h; rw [if_neg (by omega), hz] at h; simpa [notUp] using h
                  have m1 : (0 : Int) < (m : Int) := by omega
                  obtain ⟨m', hm'⟩ : ∃ m', m - 1 = m' := ⟨_, rfl⟩
                  have g1 : IntKind.i64.wrap ((m : Int) - 1) = (m' : Int) := by rw [IntWalk.i64_in _ (by omega)]; omega
                  have g3 : (m : Int) - 1 = (m' : Int) := by omega
                  have g9 : IntKind.i64.wrap (m' : Int) = (m' : Int) := by rw [IntWalk.i64_in _ (by omega)]
                  have g4 : (0 : Int) ≤ (m' : Int) := by omega
                  have g5 : (m' : Int) < (len : Int) := by omega
                  rw [hm'] at z0
                  clear hm'
                  clear hyb HI2 HI hc2 hy hyd hny hz
                  go_wp2_with fail
                  clear g1 g3 g4 g5 g9
                  go_round
                  case rel => exact ⟨m + 1, by omega, by go_num, HV2⟩
                  case measure => simp [intOf]; omega
                · have m1 : ¬ (0 : Int) < (m : Int) := by omega
                  clear hyb HI2 HI hc2 hy hyd hny hm0
                  go_wp2_with fail
                  go_round
                  case rel => exact ⟨m + 1, by omega, by go_num, HV2⟩
                  case measure => simp [intOf]; omega
            · have HV2 : Eqn (vbIn none chs) true := by rw [Eqn, HI.out, drop_end (by rw [HCL.out]; omega), vbIn]
              have HV3 : Eqn (vbGo none ds) (vbGo (prevOf Dom.st ds (k + 1)) (ds.drop (k + 1))) := by rw [Eqn, HV.out, HV2.out, HNX.out]; rfl
              clear HI
              go_wp2_with fail
              go_roundw
              case rel => exact ⟨k + 1, by omega, by go_num, HV3, HB2.out.drew⟩
              case measure => simp [intOf]; omega
        · have k1 : ¬ (0 : Int) < (k : Int) := by omega
          have hd3 : decide (0 < (k : Int)) = false := decide_eq_false k1
          have hd5 : decide (0 < k) = false := decide_eq_false (by omega)
          clear hbad HRR HP h0
          go_wp2_with fail
          rw [← hW2]
          clear hW2 c0 c1
          refine Lx.region (C := fun _ => True) (hs := []) (by kernel_rfl) (by kernel_rfl) trivial ?_
          repeat' (first
            | (refine Lx.lex_no (Lx.n1 rfl rfl rfl (by with_reducible rfl)) (fun K hK => ?_); go_simp; skip; refine hK _ ?_; clear hK K)
            | (refine Lx.lex_no (Lx.n0 rfl rfl rfl (by with_reducible rfl)) (fun K hK => ?_); go_simp; skip; refine hK _ ?_; clear hK K)
            | (refine Lx.lex_no (Lx.n2 rfl rfl rfl) (fun K hK => ?_); go_simp; skip; refine hK _ ?_; clear hK K)
            | (refine Lx.lex_pure (v := ?_) rfl (by first | exact Lx.w0 rfl | exact Lx.w1 rfl rfl rfl (by with_reducible rfl)) ?_ (fun K hK => ?_); rotate_left 1; (intro w' hCw; (try dsimp only at hCw); go_simp; first | done | with_reducible rfl); go_simp; skip; refine hK _ ?_; clear hK K)
            | (refine Lx.lex_read (v := ?_) rfl (by first | exact Lx.w0 rfl | exact Lx.w1 rfl rfl rfl (by with_reducible rfl)) ?_ (fun K hK => ?_); rotate_left 1; (go_simp; first | done | with_reducible rfl); go_simp; skip; refine hK _ ?_; clear hK K)
            | (refine Lx.lex_eff rfl (by first | exact Lx.w0 rfl | exact Lx.w1 rfl rfl rfl (by with_reducible rfl)) (fun K hK => ?_); go_simp; (first | fail); refine hK _ _ (trivial) ?_; clear hK K))
          all_goals (refine Lx.lex_nil ?_)
          go_wp2_with fail
          go_loop [46] (fun i => ∃ m : Nat, m ≤ len ∧ i = .int .i64 m ∧ Eqn (vbIn none chs) (vbIn (prevOf id chs m) (chs.drop m))) (fun i => len - (intOf i).toNat)
          case atStart => exact ⟨0, Nat.zero_le _, rfl, rfl⟩
          case round =>
            obtain ⟨m, hm, rfl, HI⟩ := hrel
            by_cases hml : m < len
            · obtain ⟨y, hy, hyd⟩ := drop_at (xs := chs) (k := m) (by rw [HCL.out]; exact hml)
              obtain ⟨b2, off2, hA2, hbl2, hc2⟩ := HROW.out.2 (by omega)
              have hadr := hA2
              subst hA2
              have y0 := hc2 m y hy
              simp only [intV] at y0
              have m0 : (m : Int) < (len : Int) := by omega
              have HI2 := HI.out
              rw [hyd, vbIn] at HI2
              have hny : prevOf id chs (m + 1) = some y := by rw [prevOf_succ, hy]; rfl
              have HNY := Eqn.mk hny
              by_cases hyb : y < 1 ∨ 3 < y ∨ notUp (prevOf id chs m) y = true
              · have HV2 := Eqn.mk (HI2.trans (if_pos hyb))
                have HV3 : Eqn (vbGo none ds) false := by rw [Eqn, HV.out, HV2.out]; rfl
                by_cases d1 : y < 1
                · clear hyb HI2 HI hc2 hy hyd hny
                  go_wp2_with fail
                  go_ret
                  exact ⟨ret_bool HV3.out.symm, HB2.out.drew⟩
                · by_cases d2 : 3 < y
                  · clear hyb HI2 HI hc2 hy hyd hny
                    go_wp2_with fail
                    go_ret
                    exact ⟨ret_bool HV3.out.symm, HB2.out.drew⟩
                  · have hm0 : 0 < m := by
                      rcases Nat.eq_zero_or_pos m with h | h
                      · unfold prevOf at hyb; rw [if_pos h] at hyb; simp [notUp] at hyb; omega
                      · exact h
                    obtain ⟨z, hz, _⟩ := drop_at (xs := chs) (k := m - 1) (by rw [HCL.out]; omega)
                    have z0 := hc2 (m - 1) z hz
                    simp only [intV] at z0
                    have hzy : y ≤ z := by
                      rcases hyb with h | h | h
                      · omega
                      · omega
                      · unfold prevOf at h; rw [if_neg (by omega), hz] at h; simpa [notUp] using h
                    have m1 : (0 : Int) < (m : Int) := by omega
                    obtain ⟨m', hm'⟩ : ∃ m', m - 1 = m' := ⟨_, rfl⟩
                    have g1 : IntKind.i64.wrap ((m : Int) - 1) = (m' : Int) := by rw [IntWalk.i64_in _ (by omega)]; omega
                    have g3 : (m : Int) - 1 = (m' : Int) := by omega
                    have g9 : IntKind.i64.wrap (m' : Int) = (m' : Int) := by rw [IntWalk.i64_in _ (by omega)]
                    have g4 : (0 : Int) ≤ (m' : Int) := by omega
                    have g5 : (m' : Int) < (len : Int) := by omega
                    rw [hm'] at z0
                    clear hm'
                    clear hyb HI2 HI hc2 hy hyd hny hz
                    go_wp2_with fail
                    go_ret
                    exact ⟨ret_bool HV3.out.symm, HB2.out.drew⟩
              · have HV2 : Eqn (vbIn none chs) (vbIn (prevOf id chs (m + 1)) (chs.drop (m + 1))) := by rw [Eqn, HI2, if_neg hyb, HNY.out]
                have d1 : ¬ y < 1 := fun h => hyb (.inl h)
                have d2 : ¬ 3 < y := fun h => hyb (.inr (.inl h))
                by_cases hm0 : 0 < m
                · obtain ⟨z, hz, _⟩ := drop_at (xs := chs) (k := m - 1) (by rw [HCL.out]; omega)
                  have z0 := hc2 (m - 1) z hz
                  simp only [intV] at z0
                  have hzy : z < y := by
                    have h : ¬ notUp (prevOf id chs m) y = true := fun h => hyb (.inr (.inr h))
                    unfold prevOf at h; rw [if_neg (by omega), hz] at h; simpa [notUp] using h
                  have m1 : (0 : Int) < (m : Int) := by omega
                  obtain ⟨m', hm'⟩ : ∃ m', m - 1 = m' := ⟨_, rfl⟩
                  have g1 : IntKind.i64.wrap ((m : Int) - 1) = (m' : Int) := by rw [IntWalk.i64_in _ (by omega)]; omega
                  have g3 : (m : Int) - 1 = (m' : Int) := by omega
                  have g9 : IntKind.i64.wrap (m' : Int) = (m' : Int) := by rw [IntWalk.i64_in _ (by omega)]
                  have g4 : (0 : Int) ≤ (m' : Int) := by omega
                  have g5 : (m' : Int) < (len : Int) := by omega
                  rw [hm'] at z0
                  clear hm'
                  clear hyb HI2 HI hc2 hy hyd hny hz
                  go_wp2_with fail
                  clear g1 g3 g4 g5 g9
                  go_round
                  case rel => exact ⟨m + 1, by omega, by go_num, HV2⟩
                  case measure => simp [intOf]; omega
                · have m1 : ¬ (0 : Int) < (m : Int) := by omega
                  clear hyb HI2 HI hc2 hy hyd hny hm0
                  go_wp2_with fail
                  go_round
                  case rel => exact ⟨m + 1, by omega, by go_num, HV2⟩
                  case measure => simp [intOf]; omega
            · have HV2 : Eqn (vbIn none chs) true := by rw [Eqn, HI.out, drop_end (by rw [HCL.out]; omega), vbIn]
              have HV3 : Eqn (vbGo none ds) (vbGo (prevOf Dom.st ds (k + 1)) (ds.drop (k + 1))) := by rw [Eqn, HV.out, HV2.out, HNX.out]; rfl
              clear HI
              go_wp2_with fail
              go_roundw
              case rel => exact ⟨k + 1, by omega, by go_num, HV3, HB2.out.drew⟩
              case measure => simp [intOf]; omega
    · have HV : Eqn (vbGo none ds) true := by rw [Eqn, HR.out, drop_end (by rw [Hlen.out]; omega), vbGo]
      clear HR hB
      go_wp2_with fail
      go_ret
      exact ⟨ret_bool HV.out.symm, HB.out⟩
end Go.Proofs.Ytpdhelhngdeoeaa
