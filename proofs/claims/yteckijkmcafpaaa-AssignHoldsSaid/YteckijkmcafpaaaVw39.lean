/- Contracts of ValidWishes on both sides. -/
import Derived.Test.YteckijkmcafpaaaVal39
namespace Go.Proofs.Yteckijkmcafpaaa
open Go.RowKit

def cntAt (l : List Claim) (i : Int) : Int := match l[i.toNat]? with | some c => c.cnt | none => 0
def badW (b : Int) (l : List Claim) (x : Wish) : Prop := findC l x.win < 0 ∨ x.start < 0 ∨ b - cntAt l (findC l x.win) < x.start ∨ x.val < 0 ∨ 1099511627776 < x.val
instance (b : Int) (l : List Claim) (x : Wish) : Decidable (badW b l x) := by unfold badW; infer_instance
def badQ (p x : Wish) : Prop := x.win < p.win ∨ (x.win = p.win ∧ x.start ≤ p.start)
instance (p x : Wish) : Decidable (badQ p x) := by unfold badQ; infer_instance
def prevB (prev : Option Wish) (x : Wish) : Bool := match prev with | none => false | some p => decide (badQ p x)
def vwGo (b : Int) (l : List Claim) : List Wish → Option Wish → Bool
  | [], _ => true
  | x :: r, prev => if badW b l x then false else if prevB prev x = true then false else vwGo b l r (some x)
def vwF (b : Int) (l : List Claim) (ws : List Wish) : Bool := if validF b l = true then vwGo b l ws none else false
def prevWs (k : Nat) (ws : List Wish) : Option Wish := if k = 0 then none else ws[k - 1]?

theorem findGo_range (x : Int) : ∀ (l : List Claim) (k : Int), findGo x l k = -1 ∨ ∃ (i : Nat) (c : Claim), findGo x l k = k + i ∧ l[i]? = some c ∧ c.win = x := by
  intro l
  induction l with
  | nil => intro k; exact .inl rfl
  | cons c r ih =>
    intro k
    rw [findGo]
    by_cases h : c.win = x
    · rw [if_pos h]
      exact .inr ⟨0, c, by omega, rfl, h⟩
    · rw [if_neg h]
      rcases ih (k + 1) with h1 | ⟨i, d, h1, h2, h3⟩
      · exact .inl h1
      · exact .inr ⟨i + 1, d, by omega, by simpa using h2, h3⟩
theorem findC_cases (l : List Claim) (x : Int) : findC l x = -1 ∨ ∃ (i : Nat) (c : Claim), findC l x = i ∧ l[i]? = some c ∧ c.win = x := by
  rcases findGo_range x l 0 with h | ⟨i, c, h1, h2, h3⟩
  · exact .inl h
  · exact .inr ⟨i, c, by unfold findC; omega, h2, h3⟩

theorem vw_step {b : Int} {l : List Claim} {ws : List Wish} {k : Nat} {x : Wish} (hx : ws[k]? = some x) (hd : ws.drop k = x :: ws.drop (k + 1)) (h : Eqn (vwF b l ws) (vwGo b l (ws.drop k) (prevWs k ws))) :
    (badW b l x → vwF b l ws = false) ∧ (prevB (prevWs k ws) x = true → vwF b l ws = false) ∧ (¬ badW b l x → ¬ prevB (prevWs k ws) x = true → Eqn (vwF b l ws) (vwGo b l (ws.drop (k + 1)) (prevWs (k + 1) ws))) := by
  have h' := h.out
  rw [hd, vwGo] at h'
  refine ⟨fun hb => ?_, fun hb => ?_, fun h1 h2 => ?_⟩
  · rw [if_pos hb] at h'; exact h'
  · rw [if_pos hb] at h'
    split at h' <;> exact h'
  · rw [if_neg h1, if_neg h2] at h'
    rw [Eqn, h']
    unfold prevWs
    rw [if_neg (by omega), Nat.add_sub_cancel, hx]

set_option maxRecDepth 100000 in
set_option maxHeartbeats 4000000 in
theorem vw_any (b : Int) (A B : Option Addr) (n c m d : Nat) (w : World) (l : List Claim) (ws : List Wish) (hn : n ≤ 1000) (hm : m ≤ 1000) (hl : RowS 2 Claim.cell w w.heap.size A n l) (hw : RowS 3 Wish.cell w w.heap.size B m ws) :
    Calls Try.prog 14 #[.int .i64 b, .slice A n c, .slice B m d] w (RetPost (.bool (vwF b l ws)) w.heap.size w) := by
  have Hl := Lib.hid hl
  have Hw := Lib.hid hw
  have Hlen := Eqn.mk hl.1
  have Hwl := Eqn.mk hw.1
  clear hl hw
  cases hv : validF b l with
  | false =>
    have HF : Eqn (vwF b l ws) false := by unfold vwF; rw [if_neg (by rw [hv]; simp)]; rfl
    have HV := Eqn.mk hv
    clear hv
    go_enter Try.func14, Try.ntmps14
    go_wp2_with fail
    refine (valid_any b A n c _ l hn Hl.out).mono ?_
    rw [HV.out]
    rintro e w1 ⟨rfl, hb1⟩
    go_wp2_with fail
    go_ret
    exact ⟨ret_bool HF.out.symm, hb1⟩
  | true =>
    have HF : Eqn (vwF b l ws) (vwGo b l ws none) := by unfold vwF; rw [if_pos hv]; rfl
    have HV := Eqn.mk hv
    have HVA := Lib.hid (validF_all hv).2.2.2
    have hb1' := (validF_all hv).1
    have hb2' := (validF_all hv).2.1
    clear hv
    go_enter Try.func14, Try.ntmps14
    go_wp2_with fail
    refine (valid_any b A n c _ l hn Hl.out).mono ?_
    rw [HV.out]
    rintro e w1 ⟨rfl, hb1⟩
    have B1 := Lib.hid hb1
    clear hb1
    go_wp2_with fail
    go_loopw [16] (fun i wr => ∃ k : Nat, k ≤ m ∧ i = .int .i64 k ∧ Eqn (vwF b l ws) (vwGo b l (ws.drop k) (prevWs k ws)) ∧ Below w.heap.size w wr) (fun i _ => m - (intOf i).toNat)
    case atStart => exact ⟨0, Nat.zero_le _, rfl, HF, B1.out⟩
    case round =>
      obtain ⟨k, hk, rfl, HR, HW⟩ := hrel
      have HWW := Lib.hid HW
      have hws := HW.size
      by_cases hlt : k < m
      · obtain ⟨x, hx, hxd⟩ := drop_at (xs := ws) (k := k) (by rw [Hwl.out]; exact hlt)
        obtain ⟨g, off, rfl, hg, hc⟩ := (Hw.out.below HW).2 (by omega)
        have q0 := hc k x hx 0 (by omega)
        have q1 := hc k x hx 1 (by omega)
        have q2 := hc k x hx 2 (by omega)
        simp only [Wish.cell, Nat.add_zero] at q0 q1 q2
        have HST := Lib.hid (vw_step hx hxd HR)
        have hgs : g < wr.heap.size := by omega
        have j0 : (k : Int) < (m : Int) := by omega
        obtain ⟨wo, rfl⟩ : ∃ wo : World, wo = wr := ⟨_, rfl⟩
        have hfc := findC_cases l x.win
        have HBW : Hid (findC l x.win < 0 ∨ x.start < 0 ∨ b - cntAt l (findC l x.win) < x.start ∨ x.val < 0 ∨ 1099511627776 < x.val ↔ badW b l x) := Lib.hid Iff.rfl
        obtain ⟨xw, xs, xv⟩ := x
        dsimp only at *
        generalize hii : findC l xw = ii at *
        have HII := Eqn.mk hii
        clear hx hxd HR HW hii hc
        have BA : Hid (Below w.heap.size w (wo.alloc (.cells #[.int .i64 xw, .int .i64 xs, .int .i64 xv] 61))) := Lib.hid (HWW.out.alloc hws _)
        go_wp2_with fail
        refine (claim_any A n c xw _ l hn (by exact (Hl.out.below BA.out).up BA.out.size)).mono ?_
        rw [HII.out]
        rintro e w2 ⟨rfl, hb2⟩
        have p0 := (hb2.cell (p := ⟨wo.heap.size, 0, none⟩) (by simp)).trans (show _ = some (Value.int .i64 xw) by go_simp)
        have p1 := (hb2.cell (p := ⟨wo.heap.size, 1, none⟩) (by simp)).trans (show _ = some (Value.int .i64 xs) by go_simp)
        have p2 := (hb2.cell (p := ⟨wo.heap.size, 2, none⟩) (by simp)).trans (show _ = some (Value.int .i64 xv) by go_simp)
        have B2 : Hid (Below w.heap.size w w2) := Lib.hid (BA.out.trans (hb2.mono BA.out.size))
        clear hb2 BA q0 q1 q2 HWW hws hgs
        rcases hfc with hneg | ⟨i, cc, hi, hcc, hcw⟩
        · have HB := Lib.hid (HST.out.1 (HBW.out.1 (.inl (by omega))))
          have hn1 : ii < 0 := by omega
          clear hneg
          go_wp2_with fail
          refine Lx.region (C := fun _ => True) (hs := []) (by kernel_rfl) (by kernel_rfl) trivial ?_
          repeat' (first
            | (refine Lx.lex_no (Lx.n1 rfl rfl rfl (by with_reducible rfl)) (fun K hK => ?_); go_simp; refine hK _ ?_; clear hK K)
            | (refine Lx.lex_no (Lx.n0 rfl rfl rfl (by with_reducible rfl)) (fun K hK => ?_); go_simp; refine hK _ ?_; clear hK K)
            | (refine Lx.lex_no (Lx.n2 rfl rfl rfl) (fun K hK => ?_); go_simp; refine hK _ ?_; clear hK K)
            | (refine Lx.lex_pure (v := ?_) rfl (by first | exact Lx.w0 rfl | exact Lx.w1 rfl rfl rfl (by with_reducible rfl)) ?_ (fun K hK => ?_); rotate_left 1; (intro w' hCw; (try dsimp only at hCw); go_simp; done); go_simp; refine hK _ ?_; clear hK K)
            | (refine Lx.lex_pure (v := ?_) rfl (by first | exact Lx.w0 rfl | exact Lx.w1 rfl rfl rfl (by with_reducible rfl)) ?_ (fun K hK => ?_); rotate_left 1; (intro w' hCw; (try dsimp only at hCw); go_simp; with_reducible rfl); go_simp; refine hK _ ?_; clear hK K)
            | (refine Lx.lex_read (v := ?_) rfl (by first | exact Lx.w0 rfl | exact Lx.w1 rfl rfl rfl (by with_reducible rfl)) ?_ (fun K hK => ?_); rotate_left 1; (go_simp; done); go_simp; refine hK _ ?_; clear hK K)
            | (refine Lx.lex_read (v := ?_) rfl (by first | exact Lx.w0 rfl | exact Lx.w1 rfl rfl rfl (by with_reducible rfl)) ?_ (fun K hK => ?_); rotate_left 1; (go_simp; with_reducible rfl); go_simp; refine hK _ ?_; clear hK K)
            | (refine Lx.lex_eff rfl (by first | exact Lx.w0 rfl | exact Lx.w1 rfl rfl rfl (by with_reducible rfl)) (fun K hK => ?_); go_simp; (first | fail | skip); refine hK _ _ (trivial) ?_; clear hK K)
            | (refine Lx.lex_cases rfl rfl rfl (fun hgd K hK => ?_) (fun hgd K hK => ?_) <;> (try simp only [decide_eq_true_eq, decide_eq_false_iff_not] at hgd) <;> (first | (exfalso; omega) | (go_simp; refine hK _ ?_; clear hK K))))
          all_goals (refine Lx.lex_nil ?_)
          go_wp2_with fail
          go_ret
          exact ⟨ret_bool HB.out.symm, B2.out.drew⟩
        · have hin : i < n := by rw [← Hlen.out]; exact (List.getElem?_eq_some_iff.1 hcc).1
          have hcb := HVA.out cc (List.mem_of_getElem? hcc)
          have hca : cntAt l ii = cc.cnt := by unfold cntAt; rw [hi, Int.toNat_natCast, hcc]
          rw [hca] at HBW
          obtain ⟨gl, ol, rfl, hgl, hcl⟩ := (Hl.out.below B2.out).2 (by omega)
          have e1 := hcl i cc hcc 1 (by omega)
          simp only [Claim.cell] at e1
          subst hi
          have i0 : (0 : Int) ≤ (i : Int) := by omega
          have i1 : (i : Int) < (n : Int) := by omega
          obtain ⟨cw, cn⟩ := cc
          dsimp only at *
          have HB1 := Lib.hid HST.out.1
          have HB2 := Lib.hid HST.out.2.1
          have HB3 := Lib.hid HST.out.2.2
          have hwb : IntKind.i64.wrap (b - cn) = b - cn := IntWalk.i64_in _ (by omega)
          have HCB := Lib.hid hcb
          clear hcl hcc hca hcw HST hcb
          go_wp2_with fail
          refine Lx.region (C := fun _ => True) (hs := []) (by kernel_rfl) (by kernel_rfl) trivial ?_
          repeat' (first
            | (refine Lx.lex_no (Lx.n1 rfl rfl rfl (by with_reducible rfl)) (fun K hK => ?_); go_simp; refine hK _ ?_; clear hK K)
            | (refine Lx.lex_no (Lx.n0 rfl rfl rfl (by with_reducible rfl)) (fun K hK => ?_); go_simp; refine hK _ ?_; clear hK K)
            | (refine Lx.lex_no (Lx.n2 rfl rfl rfl) (fun K hK => ?_); go_simp; refine hK _ ?_; clear hK K)
            | (refine Lx.lex_pure (v := ?_) rfl (by first | exact Lx.w0 rfl | exact Lx.w1 rfl rfl rfl (by with_reducible rfl)) ?_ (fun K hK => ?_); rotate_left 1; (intro w' hCw; (try dsimp only at hCw); go_simp; done); go_simp; refine hK _ ?_; clear hK K)
            | (refine Lx.lex_pure (v := ?_) rfl (by first | exact Lx.w0 rfl | exact Lx.w1 rfl rfl rfl (by with_reducible rfl)) ?_ (fun K hK => ?_); rotate_left 1; (intro w' hCw; (try dsimp only at hCw); go_simp; with_reducible rfl); go_simp; refine hK _ ?_; clear hK K)
            | (refine Lx.lex_read (v := ?_) rfl (by first | exact Lx.w0 rfl | exact Lx.w1 rfl rfl rfl (by with_reducible rfl)) ?_ (fun K hK => ?_); rotate_left 1; (go_simp; done); go_simp; refine hK _ ?_; clear hK K)
            | (refine Lx.lex_read (v := ?_) rfl (by first | exact Lx.w0 rfl | exact Lx.w1 rfl rfl rfl (by with_reducible rfl)) ?_ (fun K hK => ?_); rotate_left 1; (go_simp; with_reducible rfl); go_simp; refine hK _ ?_; clear hK K)
            | (refine Lx.lex_eff rfl (by first | exact Lx.w0 rfl | exact Lx.w1 rfl rfl rfl (by with_reducible rfl)) (fun K hK => ?_); go_simp; (first | fail | skip); refine hK _ _ (trivial) ?_; clear hK K)
            | (refine Lx.lex_cases rfl rfl rfl (fun hgd K hK => ?_) (fun hgd K hK => ?_) <;> (try simp only [decide_eq_true_eq, decide_eq_false_iff_not] at hgd) <;> (first | (exfalso; omega) | (go_simp; refine hK _ ?_; clear hK K))))
          all_goals (refine Lx.lex_nil ?_)
          all_goals clear hwb
          all_goals go_wp2_with fail
          all_goals first
            | (go_ret; exact ⟨ret_bool (HB1.out (HBW.out.1 (by omega))).symm, B2.out.drew⟩)
            | skip
          have HNB : Hid (¬ badW b l ⟨xw, xs, xv⟩) := Lib.hid (fun hh => by have := HBW.out.2 hh; omega)
          by_cases hk0 : k = 0
          · have g0 : ¬ (0 : Int) < (k : Int) := by omega
            have g0' : decide (0 < k) = false := by simp [hk0]
            have HN := Lib.hid (HB3.out HNB.out (by unfold prevWs; rw [if_pos hk0]; simp [prevB]))
            clear hk0
            refine Lx.region (C := fun _ => True) (hs := []) (by kernel_rfl) (by kernel_rfl) trivial ?_
            repeat' (first
              | (refine Lx.lex_no (Lx.n1 rfl rfl rfl (by with_reducible rfl)) (fun K hK => ?_); go_simp; refine hK _ ?_; clear hK K)
              | (refine Lx.lex_no (Lx.n0 rfl rfl rfl (by with_reducible rfl)) (fun K hK => ?_); go_simp; refine hK _ ?_; clear hK K)
              | (refine Lx.lex_no (Lx.n2 rfl rfl rfl) (fun K hK => ?_); go_simp; refine hK _ ?_; clear hK K)
              | (refine Lx.lex_pure (v := ?_) rfl (by first | exact Lx.w0 rfl | exact Lx.w1 rfl rfl rfl (by with_reducible rfl)) ?_ (fun K hK => ?_); rotate_left 1; (intro w' hCw; (try dsimp only at hCw); go_simp; done); go_simp; refine hK _ ?_; clear hK K)
              | (refine Lx.lex_pure (v := ?_) rfl (by first | exact Lx.w0 rfl | exact Lx.w1 rfl rfl rfl (by with_reducible rfl)) ?_ (fun K hK => ?_); rotate_left 1; (intro w' hCw; (try dsimp only at hCw); go_simp; with_reducible rfl); go_simp; refine hK _ ?_; clear hK K)
              | (refine Lx.lex_read (v := ?_) rfl (by first | exact Lx.w0 rfl | exact Lx.w1 rfl rfl rfl (by with_reducible rfl)) ?_ (fun K hK => ?_); rotate_left 1; (go_simp; done); go_simp; refine hK _ ?_; clear hK K)
              | (refine Lx.lex_read (v := ?_) rfl (by first | exact Lx.w0 rfl | exact Lx.w1 rfl rfl rfl (by with_reducible rfl)) ?_ (fun K hK => ?_); rotate_left 1; (go_simp; with_reducible rfl); go_simp; refine hK _ ?_; clear hK K)
              | (refine Lx.lex_eff rfl (by first | exact Lx.w0 rfl | exact Lx.w1 rfl rfl rfl (by with_reducible rfl)) (fun K hK => ?_); go_simp; (first | fail | skip); refine hK _ _ (trivial) ?_; clear hK K)
              | (refine Lx.lex_cases rfl rfl rfl (fun hgd K hK => ?_) (fun hgd K hK => ?_) <;> (try simp only [decide_eq_true_eq, decide_eq_false_iff_not] at hgd) <;> (first | (exfalso; omega) | (go_simp; refine hK _ ?_; clear hK K))))
            all_goals (refine Lx.lex_nil ?_)
            go_wp2_with fail
            go_roundw
            case rel => exact ⟨k + 1, by omega, by go_num, HN.out, B2.out.drew.drew⟩
            case measure => simp [intOf]; omega
          · have g1 : (0 : Int) < (k : Int) := by omega
            have g1' : decide (0 < k) = true := by simpa using (by omega : 0 < k)
            obtain ⟨z, hz⟩ : ∃ z, ws[k - 1]? = some z := ⟨_, List.getElem?_eq_getElem (by rw [Hwl.out]; omega)⟩
            have hpv : prevWs k ws = some z := by unfold prevWs; rw [if_neg hk0, hz]
            rw [hpv] at HB2 HB3
            obtain ⟨g', off', hgo, hg', hc'⟩ := (Hw.out.below B2.out).2 (by omega)
            simp only [Option.some.injEq, Addr.mk.injEq, and_true] at hgo
            obtain ⟨rfl, rfl⟩ := hgo
            have z0 := hc' (k - 1) z hz 0 (by omega)
            have z1 := hc' (k - 1) z hz 1 (by omega)
            simp only [Wish.cell, Nat.add_zero] at z0 z1
            obtain ⟨zw, zs, zv⟩ := z
            dsimp only at *
            have HBQ : Hid (prevB (some ⟨zw, zs, zv⟩) ⟨xw, xs, xv⟩ = true ↔ (xw < zw ∨ (xw = zw ∧ xs ≤ zs))) := Lib.hid ⟨fun hh => of_decide_eq_true (p := badQ _ _) hh, fun hh => decide_eq_true (p := badQ _ _) hh⟩
            have hwr : IntKind.i64.wrap ((k : Int) - 1) = (k : Int) - 1 := IntWalk.i64_in _ (by omega)
            have htn : ((k : Int) - 1).toNat = k - 1 := by omega
            have hge : (0 : Int) ≤ (k : Int) - 1 := by omega
            have hlt2 : (k : Int) - 1 < (m : Int) := by omega
            have hge' : (1 : Int) ≤ (k : Int) := by omega
            have hzz : ((xw == zw) = true ∧ xw = zw) ∨ ((xw == zw) = false ∧ xw ≠ zw) := by
              by_cases h : xw = zw
              · exact .inl ⟨by simpa using h, h⟩
              · exact .inr ⟨by simpa using h, h⟩
            clear hc' hz hpv hk0
            rcases hzz with ⟨hz, hzE⟩ | ⟨hz, hzN⟩
            · have HZE := Lib.hid hzE
              clear hzE
              refine Lx.region (C := fun _ => True) (hs := []) (by kernel_rfl) (by kernel_rfl) trivial ?_
              repeat' (first
                | (refine Lx.lex_no (Lx.n1 rfl rfl rfl (by with_reducible rfl)) (fun K hK => ?_); go_simp; refine hK _ ?_; clear hK K)
                | (refine Lx.lex_no (Lx.n0 rfl rfl rfl (by with_reducible rfl)) (fun K hK => ?_); go_simp; refine hK _ ?_; clear hK K)
                | (refine Lx.lex_no (Lx.n2 rfl rfl rfl) (fun K hK => ?_); go_simp; refine hK _ ?_; clear hK K)
                | (refine Lx.lex_pure (v := ?_) rfl (by first | exact Lx.w0 rfl | exact Lx.w1 rfl rfl rfl (by with_reducible rfl)) ?_ (fun K hK => ?_); rotate_left 1; (intro w' hCw; (try dsimp only at hCw); go_simp; done); go_simp; refine hK _ ?_; clear hK K)
                | (refine Lx.lex_pure (v := ?_) rfl (by first | exact Lx.w0 rfl | exact Lx.w1 rfl rfl rfl (by with_reducible rfl)) ?_ (fun K hK => ?_); rotate_left 1; (intro w' hCw; (try dsimp only at hCw); go_simp; with_reducible rfl); go_simp; refine hK _ ?_; clear hK K)
                | (refine Lx.lex_read (v := ?_) rfl (by first | exact Lx.w0 rfl | exact Lx.w1 rfl rfl rfl (by with_reducible rfl)) ?_ (fun K hK => ?_); rotate_left 1; (go_simp; done); go_simp; refine hK _ ?_; clear hK K)
                | (refine Lx.lex_read (v := ?_) rfl (by first | exact Lx.w0 rfl | exact Lx.w1 rfl rfl rfl (by with_reducible rfl)) ?_ (fun K hK => ?_); rotate_left 1; (go_simp; with_reducible rfl); go_simp; refine hK _ ?_; clear hK K)
                | (refine Lx.lex_eff rfl (by first | exact Lx.w0 rfl | exact Lx.w1 rfl rfl rfl (by with_reducible rfl)) (fun K hK => ?_); go_simp; (first | fail | skip); refine hK _ _ (trivial) ?_; clear hK K)
                | (refine Lx.lex_cases rfl rfl rfl (fun hgd K hK => ?_) (fun hgd K hK => ?_) <;> (try simp only [decide_eq_true_eq, decide_eq_false_iff_not] at hgd) <;> (first | (exfalso; omega) | (go_simp; refine hK _ ?_; clear hK K))))
              all_goals (refine Lx.lex_nil ?_)
              all_goals clear hwr htn
              all_goals go_wp2_with fail
              all_goals have hzE := HZE.out
              all_goals first
                | (go_ret; exact ⟨ret_bool (HB2.out (HBQ.out.2 (by omega))).symm, B2.out.drew.drew⟩)
                | skip
              all_goals
                clear hzE
                go_roundw
                case rel => exact ⟨k + 1, by omega, by go_num, HB3.out HNB.out (fun hh => by have := HBQ.out.1 hh; have := HZE.out; omega), B2.out.drew.drew⟩
                case measure => simp [intOf]; omega
            · refine Lx.region (C := fun _ => True) (hs := []) (by kernel_rfl) (by kernel_rfl) trivial ?_
              repeat' (first
                | (refine Lx.lex_no (Lx.n1 rfl rfl rfl (by with_reducible rfl)) (fun K hK => ?_); go_simp; refine hK _ ?_; clear hK K)
                | (refine Lx.lex_no (Lx.n0 rfl rfl rfl (by with_reducible rfl)) (fun K hK => ?_); go_simp; refine hK _ ?_; clear hK K)
                | (refine Lx.lex_no (Lx.n2 rfl rfl rfl) (fun K hK => ?_); go_simp; refine hK _ ?_; clear hK K)
                | (refine Lx.lex_pure (v := ?_) rfl (by first | exact Lx.w0 rfl | exact Lx.w1 rfl rfl rfl (by with_reducible rfl)) ?_ (fun K hK => ?_); rotate_left 1; (intro w' hCw; (try dsimp only at hCw); go_simp; done); go_simp; refine hK _ ?_; clear hK K)
                | (refine Lx.lex_pure (v := ?_) rfl (by first | exact Lx.w0 rfl | exact Lx.w1 rfl rfl rfl (by with_reducible rfl)) ?_ (fun K hK => ?_); rotate_left 1; (intro w' hCw; (try dsimp only at hCw); go_simp; with_reducible rfl); go_simp; refine hK _ ?_; clear hK K)
                | (refine Lx.lex_read (v := ?_) rfl (by first | exact Lx.w0 rfl | exact Lx.w1 rfl rfl rfl (by with_reducible rfl)) ?_ (fun K hK => ?_); rotate_left 1; (go_simp; done); go_simp; refine hK _ ?_; clear hK K)
                | (refine Lx.lex_read (v := ?_) rfl (by first | exact Lx.w0 rfl | exact Lx.w1 rfl rfl rfl (by with_reducible rfl)) ?_ (fun K hK => ?_); rotate_left 1; (go_simp; with_reducible rfl); go_simp; refine hK _ ?_; clear hK K)
                | (refine Lx.lex_eff rfl (by first | exact Lx.w0 rfl | exact Lx.w1 rfl rfl rfl (by with_reducible rfl)) (fun K hK => ?_); go_simp; (first | fail | skip); refine hK _ _ (trivial) ?_; clear hK K)
                | (refine Lx.lex_cases rfl rfl rfl (fun hgd K hK => ?_) (fun hgd K hK => ?_) <;> (try simp only [decide_eq_true_eq, decide_eq_false_iff_not] at hgd) <;> (first | (exfalso; omega) | (go_simp; refine hK _ ?_; clear hK K))))
              all_goals (refine Lx.lex_nil ?_)
              all_goals clear hwr htn
              all_goals go_wp2_with fail
              all_goals first
                | (go_ret; exact ⟨ret_bool (HB2.out (HBQ.out.2 (by omega))).symm, B2.out.drew.drew⟩)
                | skip
              all_goals
                go_roundw
                case rel => exact ⟨k + 1, by omega, by go_num, HB3.out HNB.out (fun hh => by have := HBQ.out.1 hh; omega), B2.out.drew.drew⟩
                case measure => simp [intOf]; omega
      · have HB : Eqn (vwF b l ws) true := by
          rw [Eqn, HR.out, drop_end (by rw [Hwl.out]; omega)]; rfl
        clear HW HR
        go_wp2_with fail
        go_ret
        exact ⟨ret_bool HB.out.symm, HWW.out⟩


end Go.Proofs.Yteckijkmcafpaaa
