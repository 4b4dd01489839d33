/- The reference of layer 26: ValidBands. -/
import Derived.Test.YtpdhelhngdeoeaaRs17
namespace Go.Proofs.Ytpdhelhngdeoeaa
open Go.RowKit

set_option maxRecDepth 100000 in
set_option maxHeartbeats 4000000 in
theorem rvb_any (A : Option Addr) (n c : Nat) (w : World) (ds : List Dom) (hn : n ≤ 1000) (hd : ∀ d ∈ ds, d.len ≤ 1000) (hl : DomsAt w w.heap.size A n ds) :
    Calls Try.prog 25 #[.slice A n c] w (RetPost (.bool (vbGo none ds)) w.heap.size w) := by
  have Hl := Lib.hid hl
  have Hlen := Eqn.mk hl.1.1
  have HD := Lib.hid hd
  clear hl hd
  go_enter Try.func25, Try.ntmps25
  go_wp2_with fail
  go_loopw [3] (fun i wr => ∃ k : Nat, k ≤ n ∧ i = .int .i64 k ∧ Eqn (vbGo none ds) (vbGo (prevOf Dom.st ds k) (ds.drop k)) ∧ Below w.heap.size w wr) (fun i _ => n - (intOf i).toNat)
  case atStart => exact ⟨0, Nat.zero_le _, rfl, rfl, Below.refl _ _⟩
  case round =>
    obtain ⟨k, hk, rfl, HR, hB⟩ := hrel
    obtain ⟨wo, rfl⟩ : ∃ wo : World, wo = wr := ⟨_, rfl⟩
    have HB := Lib.hid hB
    have hbs := hB.size
    by_cases hlt : k < n
    · obtain ⟨p, hp, hpd⟩ := drop_at (xs := ds) (k := k) (by rw [Hlen.out]; exact hlt)
      obtain ⟨b, off, hA, hbl, hc⟩ := (Hl.out.1.below hB).2 (by omega)
      subst hA
      have hrow := (Hl.out.2 p (List.mem_of_getElem? hp)).below hB
      have hpl := HD.out p (List.mem_of_getElem? hp)
      have HR2 := HR.out
      rw [hpd, vbGo] at HR2
      have hnx : prevOf Dom.st ds (k + 1) = some p.st := by rw [prevOf_succ, hp]; rfl
      have c0 := hc k p hp 0 (by omega)
      have c1 := hc k p hp 1 (by omega)
      simp only [Dom.cell, Nat.add_zero] at c0 c1
      have hbw : b < wo.heap.size := by omega
      obtain ⟨qs, hqs, hprev⟩ : ∃ qs : Int, (0 < k → wo.cell? ⟨b, off + (k - 1) * 2, none⟩ = some (.int .i64 qs)) ∧ (0 < k → prevOf Dom.st ds k = some qs) := by
        by_cases h0 : 0 < k
        · obtain ⟨q, hq, _⟩ := drop_at (xs := ds) (k := k - 1) (by rw [Hlen.out]; omega)
          refine ⟨q.st, fun _ => ?_, fun _ => ?_⟩
          · have := hc (k - 1) q hq 0 (by omega); simpa [Dom.cell] using this
          · unfold prevOf; rw [if_neg (by omega), hq]; rfl
        · exact ⟨0, fun h => absurd h h0, fun h => absurd h h0⟩
      obtain ⟨st, adr, len, cap, chs⟩ := p
      dsimp only at *
      have HROW := Lib.hid (hrow.up hbs)
      have HQ := Lib.hid hqs
      have HP := Lib.hid hprev
      have HNX := Eqn.mk hnx
      have HCL : Hid (chs.length = len) := Lib.hid hrow.1
      have HRR := Eqn.mk HR2
      have j0 : (k : Int) < (n : Int) := by omega
      clear hc hp hpd HR HR2 hB hrow hqs hprev hnx
      by_cases b1 : st < 0
      · have HV := Eqn.mk (HRR.out.trans (if_pos (.inl b1)))
        have hd1 : decide (st < 0) = true := decide_eq_true b1
        clear HRR
        go_wp2_with fail
        refine Lx.region (C := fun _ => True) (hs := []) (by kernel_rfl) (by kernel_rfl) trivial ?_
        repeat' (first
          | (refine Lx.lex_no (Lx.n1 rfl rfl rfl (by with_reducible rfl)) (fun K hK => ?_); go_simp; skip; refine hK _ ?_; clear hK K)
          | (refine Lx.lex_no (Lx.n0 rfl rfl rfl (by with_reducible rfl)) (fun K hK => ?_); go_simp; skip; refine hK _ ?_; clear hK K)
          | (refine Lx.lex_no (Lx.n2 rfl rfl rfl) (fun K hK => ?_); go_simp; skip; refine hK _ ?_; clear hK K)
          | (refine Lx.lex_pure (v := ?_) rfl (by first | exact Lx.w0 rfl | exact Lx.w1 rfl rfl rfl (by with_reducible rfl)) ?_ (fun K hK => ?_); rotate_left 1; (intro w' hCw; (try dsimp only at hCw); go_simp; first | done | with_reducible rfl); go_simp; skip; refine hK _ ?_; clear hK K)
          | (refine Lx.lex_read (v := ?_) rfl (by first | exact Lx.w0 rfl | exact Lx.w1 rfl rfl rfl (by with_reducible rfl)) ?_ (fun K hK => ?_); rotate_left 1; (go_simp; first | done | with_reducible rfl); go_simp; skip; refine hK _ ?_; clear hK K)
          | (refine Lx.lex_eff rfl (by first | exact Lx.w0 rfl | exact Lx.w1 rfl rfl rfl (by with_reducible rfl)) (fun K hK => ?_); go_simp; (first | fail); refine hK _ _ (trivial) ?_; clear hK K))
        all_goals (refine Lx.lex_nil ?_)
        go_wp2_with fail
        go_ret
        exact ⟨ret_bool HV.out.symm, HB.out.drew⟩
      by_cases b2 : 511 < st
      · have HV := Eqn.mk (HRR.out.trans (if_pos (.inr (.inl (by omega)))))
        have hd1 : decide (st < 0) = false := decide_eq_false b1
        have hd2 : decide (511 < st) = true := decide_eq_true b2
        clear HRR b1
        go_wp2_with fail
        refine Lx.region (C := fun _ => True) (hs := []) (by kernel_rfl) (by kernel_rfl) trivial ?_
        repeat' (first
          | (refine Lx.lex_no (Lx.n1 rfl rfl rfl (by with_reducible rfl)) (fun K hK => ?_); go_simp; skip; refine hK _ ?_; clear hK K)
          | (refine Lx.lex_no (Lx.n0 rfl rfl rfl (by with_reducible rfl)) (fun K hK => ?_); go_simp; skip; refine hK _ ?_; clear hK K)
          | (refine Lx.lex_no (Lx.n2 rfl rfl rfl) (fun K hK => ?_); go_simp; skip; refine hK _ ?_; clear hK K)
          | (refine Lx.lex_pure (v := ?_) rfl (by first | exact Lx.w0 rfl | exact Lx.w1 rfl rfl rfl (by with_reducible rfl)) ?_ (fun K hK => ?_); rotate_left 1; (intro w' hCw; (try dsimp only at hCw); go_simp; first | done | with_reducible rfl); go_simp; skip; refine hK _ ?_; clear hK K)
          | (refine Lx.lex_read (v := ?_) rfl (by first | exact Lx.w0 rfl | exact Lx.w1 rfl rfl rfl (by with_reducible rfl)) ?_ (fun K hK => ?_); rotate_left 1; (go_simp; first | done | with_reducible rfl); go_simp; skip; refine hK _ ?_; clear hK K)
          | (refine Lx.lex_eff rfl (by first | exact Lx.w0 rfl | exact Lx.w1 rfl rfl rfl (by with_reducible rfl)) (fun K hK => ?_); go_simp; (first | fail); refine hK _ _ (trivial) ?_; clear hK K))
        all_goals (refine Lx.lex_nil ?_)
        go_wp2_with fail
        go_ret
        exact ⟨ret_bool HV.out.symm, HB.out.drew⟩
      have hd1 : decide (st < 0) = false := decide_eq_false b1
      have hd2 : decide (511 < st) = false := decide_eq_false b2
      have hINNER : Hid (0 < len → (notUp (prevOf Dom.st ds k) st = false) → vbGo none ds = (vbIn none chs && vbGo (prevOf Dom.st ds (k + 1)) (ds.drop (k + 1)))) := Lib.hid (fun h0 h1 => by
        rw [HRR.out, if_neg (by
          rintro (h | h | h | h)
          · omega
          · omega
          · rw [h1] at h; cases h
          · have := HCL.out; rw [h] at this; simp at this; omega), HNX.out]
        by_cases hv : vbIn none chs = true
        · rw [if_pos hv, hv]; rfl
        · rw [if_neg hv]; simp [hv])
      by_cases h0 : 0 < k
      · have hp := HP.out h0
        have qc := HQ.out h0
        have k1 : decide ((0 : Int) < (k : Int)) = true := decide_eq_true (by omega)
        have k5 : decide (0 < k) = true := decide_eq_true h0
        obtain ⟨k', hk'⟩ : ∃ k', k - 1 = k' := ⟨_, rfl⟩
        have e1 : IntKind.i64.wrap ((k : Int) - 1) = (k' : Int) := by rw [IntWalk.i64_in _ (by omega)]; omega
        have e3 : (k : Int) - 1 = (k' : Int) := by omega
        have e9 : IntKind.i64.wrap (k' : Int) = (k' : Int) := by rw [IntWalk.i64_in _ (by omega)]
        have e4 : (0 : Int) ≤ (k' : Int) := by omega
        have e5 : (k' : Int) < (n : Int) := by omega
        rw [hk'] at qc
        have hup0 : notUp (prevOf Dom.st ds k) st = decide (st ≤ qs) := by rw [hp]; rfl
        by_cases b3 : st ≤ qs
        · have HV := Eqn.mk (HRR.out.trans (if_pos (.inr (.inr (.inl (by rw [hup0]; simpa using b3))))))
          have hd3 : decide (st ≤ qs) = true := decide_eq_true b3
          clear HRR hINNER HP HQ hp hup0 hk' h0 b1 b2 b3
          go_wp2_with fail
          refine Lx.region (C := fun _ => True) (hs := []) (by kernel_rfl) (by kernel_rfl) trivial ?_
          repeat' (first
            | (refine Lx.lex_no (Lx.n1 rfl rfl rfl (by with_reducible rfl)) (fun K hK => ?_); go_simp; skip; refine hK _ ?_; clear hK K)
            | (refine Lx.lex_no (Lx.n0 rfl rfl rfl (by with_reducible rfl)) (fun K hK => ?_); go_simp; skip; refine hK _ ?_; clear hK K)
            | (refine Lx.lex_no (Lx.n2 rfl rfl rfl) (fun K hK => ?_); go_simp; skip; refine hK _ ?_; clear hK K)
            | (refine Lx.lex_pure (v := ?_) rfl (by first | exact Lx.w0 rfl | exact Lx.w1 rfl rfl rfl (by with_reducible rfl)) ?_ (fun K hK => ?_); rotate_left 1; (intro w' hCw; (try dsimp only at hCw); go_simp; first | done | with_reducible rfl); go_simp; skip; refine hK _ ?_; clear hK K)
            | (refine Lx.lex_read (v := ?_) rfl (by first | exact Lx.w0 rfl | exact Lx.w1 rfl rfl rfl (by with_reducible rfl)) ?_ (fun K hK => ?_); rotate_left 1; (go_simp; first | done | with_reducible rfl); go_simp; skip; refine hK _ ?_; clear hK K)
            | (refine Lx.lex_eff rfl (by first | exact Lx.w0 rfl | exact Lx.w1 rfl rfl rfl (by with_reducible rfl)) (fun K hK => ?_); go_simp; (first | fail); refine hK _ _ (trivial) ?_; clear hK K))
          all_goals (refine Lx.lex_nil ?_)
          go_wp2_with fail
          go_ret
          exact ⟨ret_bool HV.out.symm, HB.out.drew⟩
        · have hd3 : decide (st ≤ qs) = false := decide_eq_false b3
          have hup : notUp (prevOf Dom.st ds k) st = false := by rw [hup0]; exact hd3
          clear hp hup0 hk' h0 b1 b2 b3 HQ
          by_cases hl0 : len < 1
          · have HV : Eqn (vbGo none ds) false := HRR.out.trans (if_pos (.inr (.inr (.inr (by have := HCL.out; exact List.eq_nil_of_length_eq_zero (by omega))))))
            have hd6 : decide ((len : Int) < 1) = true := decide_eq_true (by omega)
            clear HRR hINNER HP
            go_wp2_with fail
            refine Lx.region (C := fun _ => True) (hs := []) (by kernel_rfl) (by kernel_rfl) trivial ?_
            repeat' (first
              | (refine Lx.lex_no (Lx.n1 rfl rfl rfl (by with_reducible rfl)) (fun K hK => ?_); go_simp; skip; refine hK _ ?_; clear hK K)
              | (refine Lx.lex_no (Lx.n0 rfl rfl rfl (by with_reducible rfl)) (fun K hK => ?_); go_simp; skip; refine hK _ ?_; clear hK K)
              | (refine Lx.lex_no (Lx.n2 rfl rfl rfl) (fun K hK => ?_); go_simp; skip; refine hK _ ?_; clear hK K)
              | (refine Lx.lex_pure (v := ?_) rfl (by first | exact Lx.w0 rfl | exact Lx.w1 rfl rfl rfl (by with_reducible rfl)) ?_ (fun K hK => ?_); rotate_left 1; (intro w' hCw; (try dsimp only at hCw); go_simp; first | done | with_reducible rfl); go_simp; skip; refine hK _ ?_; clear hK K)
              | (refine Lx.lex_read (v := ?_) rfl (by first | exact Lx.w0 rfl | exact Lx.w1 rfl rfl rfl (by with_reducible rfl)) ?_ (fun K hK => ?_); rotate_left 1; (go_simp; first | done | with_reducible rfl); go_simp; skip; refine hK _ ?_; clear hK K)
              | (refine Lx.lex_eff rfl (by first | exact Lx.w0 rfl | exact Lx.w1 rfl rfl rfl (by with_reducible rfl)) (fun K hK => ?_); go_simp; (first | fail); refine hK _ _ (trivial) ?_; clear hK K))
            all_goals (refine Lx.lex_nil ?_)
            go_wp2_with fail
            go_ret
            exact ⟨ret_bool HV.out.symm, HB.out.drew⟩
          have hd6 : decide ((len : Int) < 1) = false := decide_eq_false (by omega)
          have HI : Eqn (vbGo none ds) (vbIn (prevOf id chs 0) (chs.drop 0) && vbGo (prevOf Dom.st ds (k + 1)) (ds.drop (k + 1))) := hINNER.out (by omega) hup
          clear HRR hINNER HP hup
          go_wp2_with fail
          refine Lx.region (C := fun _ => True) (hs := []) (by kernel_rfl) (by kernel_rfl) trivial ?_
          repeat' (first
            | (refine Lx.lex_no (Lx.n1 rfl rfl rfl (by with_reducible rfl)) (fun K hK => ?_); go_simp; skip; refine hK _ ?_; clear hK K)
            | (refine Lx.lex_no (Lx.n0 rfl rfl rfl (by with_reducible rfl)) (fun K hK => ?_); go_simp; skip; refine hK _ ?_; clear hK K)
            | (refine Lx.lex_no (Lx.n2 rfl rfl rfl) (fun K hK => ?_); go_simp; skip; refine hK _ ?_; clear hK K)
            | (refine Lx.lex_pure (v := ?_) rfl (by first | exact Lx.w0 rfl | exact Lx.w1 rfl rfl rfl (by with_reducible rfl)) ?_ (fun K hK => ?_); rotate_left 1; (intro w' hCw; (try dsimp only at hCw); go_simp; first | done | with_reducible rfl); go_simp; skip; refine hK _ ?_; clear hK K)
            | (refine Lx.lex_read (v := ?_) rfl (by first | exact Lx.w0 rfl | exact Lx.w1 rfl rfl rfl (by with_reducible rfl)) ?_ (fun K hK => ?_); rotate_left 1; (go_simp; first | done | with_reducible rfl); go_simp; skip; refine hK _ ?_; clear hK K)
            | (refine Lx.lex_eff rfl (by first | exact Lx.w0 rfl | exact Lx.w1 rfl rfl rfl (by with_reducible rfl)) (fun K hK => ?_); go_simp; (first | fail); refine hK _ _ (trivial) ?_; clear hK K))
          all_goals (refine Lx.lex_nil ?_)
          have HB1 : Hid (Below w.heap.size w wo.drew) := Lib.hid HB.out.drew
          have HBW : Hid (∀ W, Below wo.heap.size wo W → Below w.heap.size w W) := Lib.hid (fun W h => HB.out.trans (h.mono hbs))
          have HCC : Hid (∀ W, Below wo.heap.size wo W → W.cell? ⟨b, off + k * 2 + 1, none⟩ = some (.slice adr len cap)) := Lib.hid (fun W h => (h.cell (p := ⟨b, off + k * 2 + 1, none⟩) hbw).trans c1)
          have HRW : Hid (∀ W, Below wo.heap.size wo W → Row1 intV W wo.heap.size adr len chs) := Lib.hid (fun W h => HROW.out.below h)
          clear c0
          go_wp2_with fail
          clear c1
          go_loopw [4] (fun i wr => ∃ m : Nat, m ≤ len ∧ i = .int .i64 m ∧ Eqn (vbGo none ds) (vbIn (prevOf id chs m) (chs.drop m) && vbGo (prevOf Dom.st ds (k + 1)) (ds.drop (k + 1))) ∧ Below wo.heap.size wo wr) (fun i _ => len - (intOf i).toNat)
          case atStart => exact ⟨0, Nat.zero_le _, rfl, HI, (Below.refl _ _).drew⟩
          case round =>
            clear HI
            obtain ⟨m, hm, rfl, HJ, hBi⟩ := hrel
            have c1 := HCC.out _ hBi
            have his := hBi.size
            have hbw2 : b < wr.heap.size := by omega
            have HBi := Lib.hid hBi
            by_cases hml : m < len
            · obtain ⟨x, hx, hxd⟩ := drop_at (xs := chs) (k := m) (by rw [HCL.out]; exact hml)
              obtain ⟨b2, off2, hA2, hbl2, hc2⟩ := (HRW.out _ hBi).2 (by omega)
              subst hA2
              have x0 := hc2 m x hx
              simp only [intV] at x0
              have HJ2 := HJ.out
              rw [hxd, vbIn] at HJ2
              have hnx : prevOf id chs (m + 1) = some x := by rw [prevOf_succ, hx]; rfl
              obtain ⟨q, hq, hprev⟩ : ∃ q : Int, (0 < m → wr.cell? ⟨b2, off2 + (m - 1), none⟩ = some (.int .i64 q)) ∧ (0 < m → prevOf id chs m = some q) := by
                by_cases h0 : 0 < m
                · obtain ⟨q, hq, _⟩ := drop_at (xs := chs) (k := m - 1) (by rw [HCL.out]; omega)
                  refine ⟨q, fun _ => ?_, fun _ => ?_⟩
                  · have := hc2 (m - 1) q hq; simpa [intV] using this
                  · unfold prevOf; rw [if_neg (by omega), hq]; rfl
                · exact ⟨0, fun h => absurd h h0, fun h => absurd h h0⟩
              have HNX2 := Eqn.mk hnx
              have HJJ := Eqn.mk HJ2
              have HQ2 := Lib.hid hq
              have HP2 := Lib.hid hprev
              have m0 : (m : Int) < (len : Int) := by omega
              have hbw3 : b2 < wr.heap.size := by omega
              clear hc2 hx hxd HJ HJ2 hnx hq hprev hBi
              by_cases a1 : x < 1
              · have HV : Eqn (vbGo none ds) false := by rw [Eqn, HJJ.out, if_pos (.inl a1)]; rfl
                have g1 : decide (x < 1) = true := decide_eq_true a1
                clear HJJ
                go_wp2_with fail
                refine Lx.region (C := fun _ => True) (hs := []) (by kernel_rfl) (by kernel_rfl) trivial ?_
                repeat' (first
                  | (refine Lx.lex_no (Lx.n1 rfl rfl rfl (by with_reducible rfl)) (fun K hK => ?_); go_simp; skip; refine hK _ ?_; clear hK K)
                  | (refine Lx.lex_no (Lx.n0 rfl rfl rfl (by with_reducible rfl)) (fun K hK => ?_); go_simp; skip; refine hK _ ?_; clear hK K)
                  | (refine Lx.lex_no (Lx.n2 rfl rfl rfl) (fun K hK => ?_); go_simp; skip; refine hK _ ?_; clear hK K)
                  | (refine Lx.lex_pure (v := ?_) rfl (by first | exact Lx.w0 rfl | exact Lx.w1 rfl rfl rfl (by with_reducible rfl)) ?_ (fun K hK => ?_); rotate_left 1; (intro w' hCw; (try dsimp only at hCw); go_simp; first | done | with_reducible rfl); go_simp; skip; refine hK _ ?_; clear hK K)
                  | (refine Lx.lex_read (v := ?_) rfl (by first | exact Lx.w0 rfl | exact Lx.w1 rfl rfl rfl (by with_reducible rfl)) ?_ (fun K hK => ?_); rotate_left 1; (go_simp; first | done | with_reducible rfl); go_simp; skip; refine hK _ ?_; clear hK K)
                  | (refine Lx.lex_eff rfl (by first | exact Lx.w0 rfl | exact Lx.w1 rfl rfl rfl (by with_reducible rfl)) (fun K hK => ?_); go_simp; (first | fail); refine hK _ _ (trivial) ?_; clear hK K))
                all_goals (refine Lx.lex_nil ?_)
                go_wp2_with fail
                go_ret
                exact ⟨ret_bool HV.out.symm, HBW.out _ HBi.out.drew⟩
              by_cases a2 : 3 < x
              · have HV : Eqn (vbGo none ds) false := by rw [Eqn, HJJ.out, if_pos (.inr (.inl a2))]; rfl
                have g1 : decide (x < 1) = false := decide_eq_false a1
                have g2 : decide (3 < x) = true := decide_eq_true a2
                clear HJJ a1
                go_wp2_with fail
                refine Lx.region (C := fun _ => True) (hs := []) (by kernel_rfl) (by kernel_rfl) trivial ?_
                repeat' (first
                  | (refine Lx.lex_no (Lx.n1 rfl rfl rfl (by with_reducible rfl)) (fun K hK => ?_); go_simp; skip; refine hK _ ?_; clear hK K)
                  | (refine Lx.lex_no (Lx.n0 rfl rfl rfl (by with_reducible rfl)) (fun K hK => ?_); go_simp; skip; refine hK _ ?_; clear hK K)
                  | (refine Lx.lex_no (Lx.n2 rfl rfl rfl) (fun K hK => ?_); go_simp; skip; refine hK _ ?_; clear hK K)
                  | (refine Lx.lex_pure (v := ?_) rfl (by first | exact Lx.w0 rfl | exact Lx.w1 rfl rfl rfl (by with_reducible rfl)) ?_ (fun K hK => ?_); rotate_left 1; (intro w' hCw; (try dsimp only at hCw); go_simp; first | done | with_reducible rfl); go_simp; skip; refine hK _ ?_; clear hK K)
                  | (refine Lx.lex_read (v := ?_) rfl (by first | exact Lx.w0 rfl | exact Lx.w1 rfl rfl rfl (by with_reducible rfl)) ?_ (fun K hK => ?_); rotate_left 1; (go_simp; first | done | with_reducible rfl); go_simp; skip; refine hK _ ?_; clear hK K)
                  | (refine Lx.lex_eff rfl (by first | exact Lx.w0 rfl | exact Lx.w1 rfl rfl rfl (by with_reducible rfl)) (fun K hK => ?_); go_simp; (first | fail); refine hK _ _ (trivial) ?_; clear hK K))
                all_goals (refine Lx.lex_nil ?_)
                go_wp2_with fail
                go_ret
                exact ⟨ret_bool HV.out.symm, HBW.out _ HBi.out.drew⟩
              have g1 : decide (x < 1) = false := decide_eq_false a1
              have g2 : decide (3 < x) = false := decide_eq_false a2
              by_cases h0 : 0 < m
              · have hp := HP2.out h0
                have qc := HQ2.out h0
                have k1' : decide ((0 : Int) < (m : Int)) = true := decide_eq_true (by omega)
                have k5' : decide (0 < m) = true := decide_eq_true h0
                obtain ⟨m', hm'⟩ : ∃ m', m - 1 = m' := ⟨_, rfl⟩
                have s1 : IntKind.i64.wrap ((m : Int) - 1) = (m' : Int) := by rw [IntWalk.i64_in _ (by omega)]; omega
                have s3 : (m : Int) - 1 = (m' : Int) := by omega
                have s9 : IntKind.i64.wrap (m' : Int) = (m' : Int) := by rw [IntWalk.i64_in _ (by omega)]
                have s4 : (0 : Int) ≤ (m' : Int) := by omega
                have s5 : (m' : Int) < (len : Int) := by omega
                rw [hm'] at qc
                by_cases a3 : x ≤ q
                · have HV : Eqn (vbGo none ds) false := by rw [Eqn, HJJ.out, if_pos (.inr (.inr (by rw [hp]; simpa [notUp] using a3)))]; rfl
                  have g3 : decide (x ≤ q) = true := decide_eq_true a3
                  clear HJJ hp HP2 HQ2 hm' h0 a1 a2 a3
                  go_wp2_with fail
                  refine Lx.region (C := fun _ => True) (hs := []) (by kernel_rfl) (by kernel_rfl) trivial ?_
                  repeat' (first
                    | (refine Lx.lex_no (Lx.n1 rfl rfl rfl (by with_reducible rfl)) (fun K hK => ?_); go_simp; skip; refine hK _ ?_; clear hK K)
                    | (refine Lx.lex_no (Lx.n0 rfl rfl rfl (by with_reducible rfl)) (fun K hK => ?_); go_simp; skip; refine hK _ ?_; clear hK K)
                    | (refine Lx.lex_no (Lx.n2 rfl rfl rfl) (fun K hK => ?_); go_simp; skip; refine hK _ ?_; clear hK K)
                    | (refine Lx.lex_pure (v := ?_) rfl (by first | exact Lx.w0 rfl | exact Lx.w1 rfl rfl rfl (by with_reducible rfl)) ?_ (fun K hK => ?_); rotate_left 1; (intro w' hCw; (try dsimp only at hCw); go_simp; first | done | with_reducible rfl); go_simp; skip; refine hK _ ?_; clear hK K)
                    | (refine Lx.lex_read (v := ?_) rfl (by first | exact Lx.w0 rfl | exact Lx.w1 rfl rfl rfl (by with_reducible rfl)) ?_ (fun K hK => ?_); rotate_left 1; (go_simp; first | done | with_reducible rfl); go_simp; skip; refine hK _ ?_; clear hK K)
                    | (refine Lx.lex_eff rfl (by first | exact Lx.w0 rfl | exact Lx.w1 rfl rfl rfl (by with_reducible rfl)) (fun K hK => ?_); go_simp; (first | fail); refine hK _ _ (trivial) ?_; clear hK K))
                  all_goals (refine Lx.lex_nil ?_)
                  go_wp2_with fail
                  go_ret
                  exact ⟨ret_bool HV.out.symm, HBW.out _ HBi.out.drew⟩
                · have HN : Eqn (vbGo none ds) (vbIn (prevOf id chs (m + 1)) (chs.drop (m + 1)) && vbGo (prevOf Dom.st ds (k + 1)) (ds.drop (k + 1))) := by
                    rw [Eqn, HJJ.out, if_neg (by
                      rintro (h | h | h)
                      · exact a1 h
                      · exact a2 h
                      · rw [hp] at h; simp [notUp] at h; omega), HNX2.out]
                  have g3 : decide (x ≤ q) = false := decide_eq_false a3
                  clear HJJ hp HP2 HQ2 hm' h0 a1 a2 a3
                  go_wp2_with fail
                  refine Lx.region (C := fun _ => True) (hs := []) (by kernel_rfl) (by kernel_rfl) trivial ?_
                  repeat' (first
                    | (refine Lx.lex_no (Lx.n1 rfl rfl rfl (by with_reducible rfl)) (fun K hK => ?_); go_simp; skip; refine hK _ ?_; clear hK K)
                    | (refine Lx.lex_no (Lx.n0 rfl rfl rfl (by with_reducible rfl)) (fun K hK => ?_); go_simp; skip; refine hK _ ?_; clear hK K)
                    | (refine Lx.lex_no (Lx.n2 rfl rfl rfl) (fun K hK => ?_); go_simp; skip; refine hK _ ?_; clear hK K)
                    | (refine Lx.lex_pure (v := ?_) rfl (by first | exact Lx.w0 rfl | exact Lx.w1 rfl rfl rfl (by with_reducible rfl)) ?_ (fun K hK => ?_); rotate_left 1; (intro w' hCw; (try dsimp only at hCw); go_simp; first | done | with_reducible rfl); go_simp; skip; refine hK _ ?_; clear hK K)
                    | (refine Lx.lex_read (v := ?_) rfl (by first | exact Lx.w0 rfl | exact Lx.w1 rfl rfl rfl (by with_reducible rfl)) ?_ (fun K hK => ?_); rotate_left 1; (go_simp; first | done | with_reducible rfl); go_simp; skip; refine hK _ ?_; clear hK K)
                    | (refine Lx.lex_eff rfl (by first | exact Lx.w0 rfl | exact Lx.w1 rfl rfl rfl (by with_reducible rfl)) (fun K hK => ?_); go_simp; (first | fail); refine hK _ _ (trivial) ?_; clear hK K))
                  all_goals (refine Lx.lex_nil ?_)
                  go_wp2_with fail
                  go_roundw
                  case rel => exact ⟨m + 1, by omega, by go_num, HN, HBi.out.drew⟩
                  case measure => simp [intOf]; omega
              · have hp : prevOf id chs m = none := by unfold prevOf; rw [if_pos (by omega)]
                have HN : Eqn (vbGo none ds) (vbIn (prevOf id chs (m + 1)) (chs.drop (m + 1)) && vbGo (prevOf Dom.st ds (k + 1)) (ds.drop (k + 1))) := by
                  rw [Eqn, HJJ.out, if_neg (by
                    rintro (h | h | h)
                    · exact a1 h
                    · exact a2 h
                    · rw [hp] at h; cases h), HNX2.out]
                have k1' : decide ((0 : Int) < (m : Int)) = false := decide_eq_false (by omega)
                have k5' : decide (0 < m) = false := decide_eq_false h0
                clear HJJ hp HP2 HQ2 h0 a1 a2
                go_wp2_with fail
                refine Lx.region (C := fun _ => True) (hs := []) (by kernel_rfl) (by kernel_rfl) trivial ?_
                repeat' (first
                  | (refine Lx.lex_no (Lx.n1 rfl rfl rfl (by with_reducible rfl)) (fun K hK => ?_); go_simp; skip; refine hK _ ?_; clear hK K)
                  | (refine Lx.lex_no (Lx.n0 rfl rfl rfl (by with_reducible rfl)) (fun K hK => ?_); go_simp; skip; refine hK _ ?_; clear hK K)
                  | (refine Lx.lex_no (Lx.n2 rfl rfl rfl) (fun K hK => ?_); go_simp; skip; refine hK _ ?_; clear hK K)
                  | (refine Lx.lex_pure (v := ?_) rfl (by first | exact Lx.w0 rfl | exact Lx.w1 rfl rfl rfl (by with_reducible rfl)) ?_ (fun K hK => ?_); rotate_left 1; (intro w' hCw; (try dsimp only at hCw); go_simp; first | done | with_reducible rfl); go_simp; skip; refine hK _ ?_; clear hK K)
                  | (refine Lx.lex_read (v := ?_) rfl (by first | exact Lx.w0 rfl | exact Lx.w1 rfl rfl rfl (by with_reducible rfl)) ?_ (fun K hK => ?_); rotate_left 1; (go_simp; first | done | with_reducible rfl); go_simp; skip; refine hK _ ?_; clear hK K)
                  | (refine Lx.lex_eff rfl (by first | exact Lx.w0 rfl | exact Lx.w1 rfl rfl rfl (by with_reducible rfl)) (fun K hK => ?_); go_simp; (first | fail); refine hK _ _ (trivial) ?_; clear hK K))
                all_goals (refine Lx.lex_nil ?_)
                go_wp2_with fail
                go_roundw
                case rel => exact ⟨m + 1, by omega, by go_num, HN, HBi.out.drew⟩
                case measure => simp [intOf]; omega
            · obtain rfl : m = len := by omega
              have HN : Eqn (vbGo none ds) (vbGo (prevOf Dom.st ds (k + 1)) (ds.drop (k + 1))) := by rw [Eqn, HJ.out, drop_end (by rw [HCL.out]; omega)]; simp [vbIn]
              clear HJ hBi
              go_wp2_with fail
              clear c1
              go_roundw
              case rel => exact ⟨k + 1, by omega, by go_num, HN, HBW.out _ HBi.out⟩
              case measure => simp [intOf]; omega
      · have hup : notUp (prevOf Dom.st ds k) st = false := by unfold prevOf; rw [if_pos (by omega)]; rfl
        have k1 : decide ((0 : Int) < (k : Int)) = false := decide_eq_false (by omega)
        have k5 : decide (0 < k) = false := decide_eq_false h0
        clear h0 b1 b2 HQ
        by_cases hl0 : len < 1
        · have HV : Eqn (vbGo none ds) false := HRR.out.trans (if_pos (.inr (.inr (.inr (by have := HCL.out; exact List.eq_nil_of_length_eq_zero (by omega))))))
          have hd6 : decide ((len : Int) < 1) = true := decide_eq_true (by omega)
          clear HRR hINNER HP
          go_wp2_with fail
          refine Lx.region (C := fun _ => True) (hs := []) (by kernel_rfl) (by kernel_rfl) trivial ?_
          repeat' (first
            | (refine Lx.lex_no (Lx.n1 rfl rfl rfl (by with_reducible rfl)) (fun K hK => ?_); go_simp; skip; refine hK _ ?_; clear hK K)
            | (refine Lx.lex_no (Lx.n0 rfl rfl rfl (by with_reducible rfl)) (fun K hK => ?_); go_simp; skip; refine hK _ ?_; clear hK K)
            | (refine Lx.lex_no (Lx.n2 rfl rfl rfl) (fun K hK => ?_); go_simp; skip; refine hK _ ?_; clear hK K)
            | (refine Lx.lex_pure (v := ?_) rfl (by first | exact Lx.w0 rfl | exact Lx.w1 rfl rfl rfl (by with_reducible rfl)) ?_ (fun K hK => ?_); rotate_left 1; (intro w' hCw; (try dsimp only at hCw); go_simp; first | done | with_reducible rfl); go_simp; skip; refine hK _ ?_; clear hK K)
            | (refine Lx.lex_read (v := ?_) rfl (by first | exact Lx.w0 rfl | exact Lx.w1 rfl rfl rfl (by with_reducible rfl)) ?_ (fun K hK => ?_); rotate_left 1; (go_simp; first | done | with_reducible rfl); go_simp; skip; refine hK _ ?_; clear hK K)
            | (refine Lx.lex_eff rfl (by first | exact Lx.w0 rfl | exact Lx.w1 rfl rfl rfl (by with_reducible rfl)) (fun K hK => ?_); go_simp; (first | fail); refine hK _ _ (trivial) ?_; clear hK K))
          all_goals (refine Lx.lex_nil ?_)
          go_wp2_with fail
          go_ret
          exact ⟨ret_bool HV.out.symm, HB.out.drew⟩
        have hd6 : decide ((len : Int) < 1) = false := decide_eq_false (by omega)
        have HI : Eqn (vbGo none ds) (vbIn (prevOf id chs 0) (chs.drop 0) && vbGo (prevOf Dom.st ds (k + 1)) (ds.drop (k + 1))) := hINNER.out (by omega) hup
        clear HRR hINNER HP hup
        go_wp2_with fail
        refine Lx.region (C := fun _ => True) (hs := []) (by kernel_rfl) (by kernel_rfl) trivial ?_
        repeat' (first
          | (refine Lx.lex_no (Lx.n1 rfl rfl rfl (by with_reducible rfl)) (fun K hK => ?_); go_simp; skip; refine hK _ ?_; clear hK K)
          | (refine Lx.lex_no (Lx.n0 rfl rfl rfl (by with_reducible rfl)) (fun K hK => ?_); go_simp; skip; refine hK _ ?_; clear hK K)
          | (refine Lx.lex_no (Lx.n2 rfl rfl rfl) (fun K hK => ?_); go_simp; skip; refine hK _ ?_; clear hK K)
          | (refine Lx.lex_pure (v := ?_) rfl (by first | exact Lx.w0 rfl | exact Lx.w1 rfl rfl rfl (by with_reducible rfl)) ?_ (fun K hK => ?_); rotate_left 1; (intro w' hCw; (try dsimp only at hCw); go_simp; first | done | with_reducible rfl); go_simp; skip; refine hK _ ?_; clear hK K)
          | (refine Lx.lex_read (v := ?_) rfl (by first | exact Lx.w0 rfl | exact Lx.w1 rfl rfl rfl (by with_reducible rfl)) ?_ (fun K hK => ?_); rotate_left 1; (go_simp; first | done | with_reducible rfl); go_simp; skip; refine hK _ ?_; clear hK K)
          | (refine Lx.lex_eff rfl (by first | exact Lx.w0 rfl | exact Lx.w1 rfl rfl rfl (by with_reducible rfl)) (fun K hK => ?_); go_simp; (first | fail); refine hK _ _ (trivial) ?_; clear hK K))
        all_goals (refine Lx.lex_nil ?_)
        have HB1 : Hid (Below w.heap.size w wo.drew) := Lib.hid HB.out.drew
        have HBW : Hid (∀ W, Below wo.heap.size wo W → Below w.heap.size w W) := Lib.hid (fun W h => HB.out.trans (h.mono hbs))
        have HCC : Hid (∀ W, Below wo.heap.size wo W → W.cell? ⟨b, off + k * 2 + 1, none⟩ = some (.slice adr len cap)) := Lib.hid (fun W h => (h.cell (p := ⟨b, off + k * 2 + 1, none⟩) hbw).trans c1)
        have HRW : Hid (∀ W, Below wo.heap.size wo W → Row1 intV W wo.heap.size adr len chs) := Lib.hid (fun W h => HROW.out.below h)
        clear c0
        go_wp2_with fail
        clear c1
        go_loopw [4] (fun i wr => ∃ m : Nat, m ≤ len ∧ i = .int .i64 m ∧ Eqn (vbGo none ds) (vbIn (prevOf id chs m) (chs.drop m) && vbGo (prevOf Dom.st ds (k + 1)) (ds.drop (k + 1))) ∧ Below wo.heap.size wo wr) (fun i _ => len - (intOf i).toNat)
        case atStart => exact ⟨0, Nat.zero_le _, rfl, HI, (Below.refl _ _).drew⟩
        case round =>
          clear HI
          obtain ⟨m, hm, rfl, HJ, hBi⟩ := hrel
          have c1 := HCC.out _ hBi
          have his := hBi.size
          have hbw2 : b < wr.heap.size := by omega
          have HBi := Lib.hid hBi
          by_cases hml : m < len
          · obtain ⟨x, hx, hxd⟩ := drop_at (xs := chs) (k := m) (by rw [HCL.out]; exact hml)
            obtain ⟨b2, off2, hA2, hbl2, hc2⟩ := (HRW.out _ hBi).2 (by omega)
            subst hA2
            have x0 := hc2 m x hx
            simp only [intV] at x0
            have HJ2 := HJ.out
            rw [hxd, vbIn] at HJ2
            have hnx : prevOf id chs (m + 1) = some x := by rw [prevOf_succ, hx]; rfl
            obtain ⟨q, hq, hprev⟩ : ∃ q : Int, (0 < m → wr.cell? ⟨b2, off2 + (m - 1), none⟩ = some (.int .i64 q)) ∧ (0 < m → prevOf id chs m = some q) := by
              by_cases h0 : 0 < m
              · obtain ⟨q, hq, _⟩ := drop_at (xs := chs) (k := m - 1) (by rw [HCL.out]; omega)
                refine ⟨q, fun _ => ?_, fun _ => ?_⟩
                · have := hc2 (m - 1) q hq; simpa [intV] using this
                · unfold prevOf; rw [if_neg (by omega), hq]; rfl
              · exact ⟨0, fun h => absurd h h0, fun h => absurd h h0⟩
            have HNX2 := Eqn.mk hnx
            have HJJ := Eqn.mk HJ2
            have HQ2 := Lib.hid hq
            have HP2 := Lib.hid hprev
            have m0 : (m : Int) < (len : Int) := by omega
            have hbw3 : b2 < wr.heap.size := by omega
            clear hc2 hx hxd HJ HJ2 hnx hq hprev hBi
            by_cases a1 : x < 1
            · have HV : Eqn (vbGo none ds) false := by rw [Eqn, HJJ.out, if_pos (.inl a1)]; rfl
              have g1 : decide (x < 1) = true := decide_eq_true a1
              clear HJJ
              go_wp2_with fail
              refine Lx.region (C := fun _ => True) (hs := []) (by kernel_rfl) (by kernel_rfl) trivial ?_
              repeat' (first
                | (refine Lx.lex_no (Lx.n1 rfl rfl rfl (by with_reducible rfl)) (fun K hK => ?_); go_simp; skip; refine hK _ ?_; clear hK K)
                | (refine Lx.lex_no (Lx.n0 rfl rfl rfl (by with_reducible rfl)) (fun K hK => ?_); go_simp; skip; refine hK _ ?_; clear hK K)
                | (refine Lx.lex_no (Lx.n2 rfl rfl rfl) (fun K hK => ?_); go_simp; skip; refine hK _ ?_; clear hK K)
                | (refine Lx.lex_pure (v := ?_) rfl (by first | exact Lx.w0 rfl | exact Lx.w1 rfl rfl rfl (by with_reducible rfl)) ?_ (fun K hK => ?_); rotate_left 1; (intro w' hCw; (try dsimp only at hCw); go_simp; first | done | with_reducible rfl); go_simp; skip; refine hK _ ?_; clear hK K)
                | (refine Lx.lex_read (v := ?_) rfl (by first | exact Lx.w0 rfl | exact Lx.w1 rfl rfl rfl (by with_reducible rfl)) ?_ (fun K hK => ?_); rotate_left 1; (go_simp; first | done | with_reducible rfl); go_simp; skip; refine hK _ ?_; clear hK K)
                | (refine Lx.lex_eff rfl (by first | exact Lx.w0 rfl | exact Lx.w1 rfl rfl rfl (by with_reducible rfl)) (fun K hK => ?_); go_simp; (first | fail); refine hK _ _ (trivial) ?_; clear hK K))
              all_goals (refine Lx.lex_nil ?_)
              go_wp2_with fail
              go_ret
              exact ⟨ret_bool HV.out.symm, HBW.out _ HBi.out.drew⟩
            by_cases a2 : 3 < x
            · have HV : Eqn (vbGo none ds) false := by rw [Eqn, HJJ.out, if_pos (.inr (.inl a2))]; rfl
              have g1 : decide (x < 1) = false := decide_eq_false a1
              have g2 : decide (3 < x) = true := decide_eq_true a2
              clear HJJ a1
              go_wp2_with fail
              refine Lx.region (C := fun _ => True) (hs := []) (by kernel_rfl) (by kernel_rfl) trivial ?_
              repeat' (first
                | (refine Lx.lex_no (Lx.n1 rfl rfl rfl (by with_reducible rfl)) (fun K hK => ?_); go_simp; skip; refine hK _ ?_; clear hK K)
                | (refine Lx.lex_no (Lx.n0 rfl rfl rfl (by with_reducible rfl)) (fun K hK => ?_); go_simp; skip; refine hK _ ?_; clear hK K)
                | (refine Lx.lex_no (Lx.n2 rfl rfl rfl) (fun K hK => ?_); go_simp; skip; refine hK _ ?_; clear hK K)
                | (refine Lx.lex_pure (v := ?_) rfl (by first | exact Lx.w0 rfl | exact Lx.w1 rfl rfl rfl (by with_reducible rfl)) ?_ (fun K hK => ?_); rotate_left 1; (intro w' hCw; (try dsimp only at hCw); go_simp; first | done | with_reducible rfl); go_simp; skip; refine hK _ ?_; clear hK K)
                | (refine Lx.lex_read (v := ?_) rfl (by first | exact Lx.w0 rfl | exact Lx.w1 rfl rfl rfl (by with_reducible rfl)) ?_ (fun K hK => ?_); rotate_left 1; (go_simp; first | done | with_reducible rfl); go_simp; skip; refine hK _ ?_; clear hK K)
                | (refine Lx.lex_eff rfl (by first | exact Lx.w0 rfl | exact Lx.w1 rfl rfl rfl (by with_reducible rfl)) (fun K hK => ?_); go_simp; (first | fail); refine hK _ _ (trivial) ?_; clear hK K))
              all_goals (refine Lx.lex_nil ?_)
              go_wp2_with fail
              go_ret
              exact ⟨ret_bool HV.out.symm, HBW.out _ HBi.out.drew⟩
            have g1 : decide (x < 1) = false := decide_eq_false a1
            have g2 : decide (3 < x) = false := decide_eq_false a2
            by_cases h0 : 0 < m
            · have hp := HP2.out h0
              have qc := HQ2.out h0
              have k1' : decide ((0 : Int) < (m : Int)) = true := decide_eq_true (by omega)
              have k5' : decide (0 < m) = true := decide_eq_true h0
              obtain ⟨m', hm'⟩ : ∃ m', m - 1 = m' := ⟨_, rfl⟩
              have s1 : IntKind.i64.wrap ((m : Int) - 1) = (m' : Int) := by rw [IntWalk.i64_in _ (by omega)]; omega
              have s3 : (m : Int) - 1 = (m' : Int) := by omega
              have s9 : IntKind.i64.wrap (m' : Int) = (m' : Int) := by rw [IntWalk.i64_in _ (by omega)]
              have s4 : (0 : Int) ≤ (m' : Int) := by omega
              have s5 : (m' : Int) < (len : Int) := by omega
              rw [hm'] at qc
              by_cases a3 : x ≤ q
              · have HV : Eqn (vbGo none ds) false := by rw [Eqn, HJJ.out, if_pos (.inr (.inr (by rw [hp]; simpa [notUp] using a3)))]; rfl
                have g3 : decide (x ≤ q) = true := decide_eq_true a3
                clear HJJ hp HP2 HQ2 hm' h0 a1 a2 a3
                go_wp2_with fail
                refine Lx.region (C := fun _ => True) (hs := []) (by kernel_rfl) (by kernel_rfl) trivial ?_
                repeat' (first
                  | (refine Lx.lex_no (Lx.n1 rfl rfl rfl (by with_reducible rfl)) (fun K hK => ?_); go_simp; skip; refine hK _ ?_; clear hK K)
                  | (refine Lx.lex_no (Lx.n0 rfl rfl rfl (by with_reducible rfl)) (fun K hK => ?_); go_simp; skip; refine hK _ ?_; clear hK K)
                  | (refine Lx.lex_no (Lx.n2 rfl rfl rfl) (fun K hK => ?_); go_simp; skip; refine hK _ ?_; clear hK K)
                  | (refine Lx.lex_pure (v := ?_) rfl (by first | exact Lx.w0 rfl | exact Lx.w1 rfl rfl rfl (by with_reducible rfl)) ?_ (fun K hK => ?_); rotate_left 1; (intro w' hCw; (try dsimp only at hCw); go_simp; first | done | with_reducible rfl); go_simp; skip; refine hK _ ?_; clear hK K)
                  | (refine Lx.lex_read (v := ?_) rfl (by first | exact Lx.w0 rfl | exact Lx.w1 rfl rfl rfl (by with_reducible rfl)) ?_ (fun K hK => ?_); rotate_left 1; (go_simp; first | done | with_reducible rfl); go_simp; skip; refine hK _ ?_; clear hK K)
                  | (refine Lx.lex_eff rfl (by first | exact Lx.w0 rfl | exact Lx.w1 rfl rfl rfl (by with_reducible rfl)) (fun K hK => ?_); go_simp; (first | fail); refine hK _ _ (trivial) ?_; clear hK K))
                all_goals (refine Lx.lex_nil ?_)
                go_wp2_with fail
                go_ret
                exact ⟨ret_bool HV.out.symm, HBW.out _ HBi.out.drew⟩
              · have HN : Eqn (vbGo none ds) (vbIn (prevOf id chs (m + 1)) (chs.drop (m + 1)) && vbGo (prevOf Dom.st ds (k + 1)) (ds.drop (k + 1))) := by
                  rw [Eqn, HJJ.out, if_neg (by
                    rintro (h | h | h)
                    · exact a1 h
                    · exact a2 h
                    · rw [hp] at h; simp [notUp] at h; omega), HNX2.out]
                have g3 : decide (x ≤ q) = false := decide_eq_false a3
                clear HJJ hp HP2 HQ2 hm' h0 a1 a2 a3
                go_wp2_with fail
                refine Lx.region (C := fun _ => True) (hs := []) (by kernel_rfl) (by kernel_rfl) trivial ?_
                repeat' (first
                  | (refine Lx.lex_no (Lx.n1 rfl rfl rfl (by with_reducible rfl)) (fun K hK => ?_); go_simp; skip; refine hK _ ?_; clear hK K)
                  | (refine Lx.lex_no (Lx.n0 rfl rfl rfl (by with_reducible rfl)) (fun K hK => ?_); go_simp; skip; refine hK _ ?_; clear hK K)
                  | (refine Lx.lex_no (Lx.n2 rfl rfl rfl) (fun K hK => ?_); go_simp; skip; refine hK _ ?_; clear hK K)
                  | (refine Lx.lex_pure (v := ?_) rfl (by first | exact Lx.w0 rfl | exact Lx.w1 rfl rfl rfl (by with_reducible rfl)) ?_ (fun K hK => ?_); rotate_left 1; (intro w' hCw; (try dsimp only at hCw); go_simp; first | done | with_reducible rfl); go_simp; skip; refine hK _ ?_; clear hK K)
                  | (refine Lx.lex_read (v := ?_) rfl (by first | exact Lx.w0 rfl | exact Lx.w1 rfl rfl rfl (by with_reducible rfl)) ?_ (fun K hK => ?_); rotate_left 1; (go_simp; first | done | with_reducible rfl); go_simp; skip; refine hK _ ?_; clear hK K)
                  | (refine Lx.lex_eff rfl (by first | exact Lx.w0 rfl | exact Lx.w1 rfl rfl rfl (by with_reducible rfl)) (fun K hK => ?_); go_simp; (first | fail); refine hK _ _ (trivial) ?_; clear hK K))
                all_goals (refine Lx.lex_nil ?_)
                go_wp2_with fail
                go_roundw
                case rel => exact ⟨m + 1, by omega, by go_num, HN, HBi.out.drew⟩
                case measure => simp [intOf]; omega
            · have hp : prevOf id chs m = none := by unfold prevOf; rw [if_pos (by omega)]
              have HN : Eqn (vbGo none ds) (vbIn (prevOf id chs (m + 1)) (chs.drop (m + 1)) && vbGo (prevOf Dom.st ds (k + 1)) (ds.drop (k + 1))) := by
                rw [Eqn, HJJ.out, if_neg (by
                  rintro (h | h | h)
                  · exact a1 h
                  · exact a2 h
                  · rw [hp] at h; cases h), HNX2.out]
              have k1' : decide ((0 : Int) < (m : Int)) = false := decide_eq_false (by omega)
              have k5' : decide (0 < m) = false := decide_eq_false h0
              clear HJJ hp HP2 HQ2 h0 a1 a2
              go_wp2_with fail
              refine Lx.region (C := fun _ => True) (hs := []) (by kernel_rfl) (by kernel_rfl) trivial ?_
              repeat' (first
                | (refine Lx.lex_no (Lx.n1 rfl rfl rfl (by with_reducible rfl)) (fun K hK => ?_); go_simp; skip; refine hK _ ?_; clear hK K)
                | (refine Lx.lex_no (Lx.n0 rfl rfl rfl (by with_reducible rfl)) (fun K hK => ?_); go_simp; skip; refine hK _ ?_; clear hK K)
                | (refine Lx.lex_no (Lx.n2 rfl rfl rfl) (fun K hK => ?_); go_simp; skip; refine hK _ ?_; clear hK K)
                | (refine Lx.lex_pure (v := ?_) rfl (by first | exact Lx.w0 rfl | exact Lx.w1 rfl rfl rfl (by with_reducible rfl)) ?_ (fun K hK => ?_); rotate_left 1; (intro w' hCw; (try dsimp only at hCw); go_simp; first | done | with_reducible rfl); go_simp; skip; refine hK _ ?_; clear hK K)
                | (refine Lx.lex_read (v := ?_) rfl (by first | exact Lx.w0 rfl | exact Lx.w1 rfl rfl rfl (by with_reducible rfl)) ?_ (fun K hK => ?_); rotate_left 1; (go_simp; first | done | with_reducible rfl); go_simp; skip; refine hK _ ?_; clear hK K)
                | (refine Lx.lex_eff rfl (by first | exact Lx.w0 rfl | exact Lx.w1 rfl rfl rfl (by with_reducible rfl)) (fun K hK => ?_); go_simp; (first | fail); refine hK _ _ (trivial) ?_; clear hK K))
              all_goals (refine Lx.lex_nil ?_)
              go_wp2_with fail
              go_roundw
              case rel => exact ⟨m + 1, by omega, by go_num, HN, HBi.out.drew⟩
              case measure => simp [intOf]; omega
          · obtain rfl : m = len := by omega
            have HN : Eqn (vbGo none ds) (vbGo (prevOf Dom.st ds (k + 1)) (ds.drop (k + 1))) := by rw [Eqn, HJ.out, drop_end (by rw [HCL.out]; omega)]; simp [vbIn]
            clear HJ hBi
            go_wp2_with fail
            clear c1
            go_roundw
            case rel => exact ⟨k + 1, by omega, by go_num, HN, HBW.out _ HBi.out⟩
            case measure => simp [intOf]; omega
    · obtain rfl : k = n := by omega
      clear hB
      go_wp2_with fail
      go_ret
      refine ⟨ret_bool ?_, HB.out⟩
      rw [HR.out, drop_end (by rw [Hlen.out]; omega)]
      rfl
end Go.Proofs.Ytpdhelhngdeoeaa
