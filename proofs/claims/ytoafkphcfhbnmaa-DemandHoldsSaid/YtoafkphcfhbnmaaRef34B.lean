/- Contract of the reference's Bidders. -/
import Derived.Test.YtoafkphcfhbnmaaRef34A
namespace Go.Proofs.Ytoafkphcfhbnmaa
open Go.RowKit

/-- the reference's Bidders -/
def rBidders (l : List Prod) (bs : List Bidr) : Bool := prodValid l && vbGo l bs (-1)

theorem vbGo_len (l : List Prod) : ∀ (bs : List Bidr) (last : Int), vbGo l bs last = true → -1 ≤ last → last + bs.length ≤ 31 ∨ bs = [] := by
  intro bs
  induction bs with
  | nil => intro last _ _; exact .inr rfl
  | cons b r ih =>
    intro last h h0
    left
    unfold vbGo at h
    split at h
    · cases h
    · split at h
      · cases h
      · split at h
        · cases h
        · split at h
          · cases h
          · rcases ih b.id h (by omega) with h1 | h1
            · simp only [List.length_cons]; omega
            · subst h1; simp; omega

theorem rBidders_eq (l : List Prod) (bs : List Bidr) : rBidders l bs = vBidders l bs := by
  unfold rBidders vBidders
  cases hp : prodValid l with
  | false =>
    rw [Bool.false_and]
    split
    · rfl
    · rw [if_pos rfl]
  | true =>
    rw [Bool.true_and]
    split
    · rename_i h
      cases hv : vbGo l bs (-1) with
      | false => rfl
      | true =>
        rcases vbGo_len l bs (-1) hv (Int.le_refl _) with h1 | h1
        · omega
        · subst h1; simp at h
    · rw [if_neg (by simp)]

def badX (last : Int) (x : Bidr) : Prop := x.id ≤ last ∨ 32 ≤ x.id ∨ badB x
instance (last : Int) (x : Bidr) : Decidable (badX last x) := by unfold badX; infer_instance

theorem vbGo_cons (l : List Prod) (x : Bidr) (r : List Bidr) (last : Int) : vbGo l (x :: r) last = if badX last x then false else if fitsF l x.blocks = false then false else if x.elig < unitsF l x.blocks then false else vbGo l r x.id := by
  rw [vbGo]
  unfold badX
  by_cases h1 : x.id ≤ last ∨ 32 ≤ x.id
  · rw [if_pos h1]
    symm
    apply if_pos
    rcases h1 with h | h
    · exact .inl h
    · exact .inr (.inl h)
  · rw [if_neg h1]
    by_cases h2 : badB x
    · rw [if_pos h2]
      symm
      apply if_pos
      exact .inr (.inr h2)
    · rw [if_neg h2]
      symm
      apply if_neg
      rintro (h | h | h)
      · exact h1 (.inl h)
      · exact h1 (.inr h)
      · exact h2 h

set_option maxHeartbeats 2000000 in
theorem rBidders_any (A B : Option Addr) (n c m d : Nat) (w : World) (l : List Prod) (bs : List Bidr) (hn : n ≤ 140) (hm : m ≤ 140) (hl : RowS 5 Prod.cell w w.heap.size A n l) (hb : BidsAt w w.heap.size B m bs) :
    Calls Try.prog 22 #[.slice A n c, .slice B m d] w (OrdPost (vBidders l bs) w.heap.size w) := by
  rw [← rBidders_eq]
  have Hl := Lib.hid hl
  have Hb := Lib.hid hb
  have Hlen := Eqn.mk hb.1.1
  clear hl hb
  have hd : Eqn (dValid l []) (dValid l []) := rfl
  go_enter Try.func22, Try.ntmps22
  go_wp2
  go_loopw [5] (fun i wr => ∃ (k : Nat) (last : Int), k ≤ m ∧ i = .int .i64 k ∧ Eqn (rBidders l bs) (prodValid l && vbGo l (bs.drop k) last) ∧ (k = 0 ∨ 0 < k ∧ 0 ≤ last) ∧ Eqn last (if k = 0 then -1 else (bs[k - 1]?.map Bidr.id).getD 0) ∧ Below w.heap.size w wr) (fun i _ => m - (intOf i).toNat)
  case atStart => exact ⟨0, -1, Nat.zero_le _, rfl, Eqn.mk rfl, .inl rfl, Eqn.mk rfl, Below.refl _ _⟩
  case round =>
    obtain ⟨k, last, hk, rfl, HR, hk0, HL, HW⟩ := hrel
    have HWW := Lib.hid HW
    by_cases hlt : k < m
    · obtain ⟨x, hx, hxd⟩ := drop_at (xs := bs) (k := k) (by rw [Hlen.out]; exact hlt)
      obtain ⟨b, off, rfl, hbl, hc⟩ := (Hb.out.below HW).1.2 (by omega)
      have HX := Lib.hid ((Hb.out.below HW).2 x (List.mem_of_getElem? hx))
      have HLr := Lib.hid (Hl.out.below HW)
      have c0 := hc k x hx 0 (by omega)
      have c1 := hc k x hx 1 (by omega)
      have c2 := hc k x hx 2 (by omega)
      have c3 := hc k x hx 3 (by omega)
      simp only [Bidr.cell, Nat.add_zero] at c0 c1 c2 c3
      have hws := HW.size
      have hbs : b < wr.heap.size := by omega
      have hR : Eqn (rBidders l bs) (prodValid l && (if badX last x then false else if fitsF l x.blocks = false then false else if x.elig < unitsF l x.blocks then false else vbGo l (bs.drop (k + 1)) x.id)) := by
        have := HR.out; rw [hxd, vbGo_cons] at this; exact this
      have HLn : Eqn x.id (if k + 1 = 0 then -1 else (bs[k + 1 - 1]?.map Bidr.id).getD 0) := by
        rw [Eqn, if_neg (by omega), Nat.add_sub_cancel, hx]; rfl
      have hL1 : Hid (0 < k → ∃ y, bs[k - 1]? = some y ∧ y.id = last) := by
        intro h0
        obtain ⟨y, hy⟩ : ∃ y, bs[k - 1]? = some y := ⟨_, List.getElem?_eq_getElem (by rw [Hlen.out]; omega)⟩
        refine ⟨y, hy, ?_⟩
        have := HL.out
        rw [if_neg (by omega), hy] at this
        exact this.symm
      have hLz : Hid (k = 0 → last = -1) := by intro h0; have := HL.out; rw [if_pos h0] at this; exact this
      have Hc := Lib.hid hc
      clear hc hxd hx HW HR HL
      by_cases hkz : k = 0
      · have hk0' : decide (0 < k) = false := by simp [hkz]
        have hlast : last ≤ -1 := by have := hLz.out hkz; omega
        have hlast2 : -1 ≤ last := by have := hLz.out hkz; omega
        clear hkz hk0
        by_cases hbad : badX last x
        · have HF : Eqn (rBidders l bs) false := by rw [Eqn, hR.out, if_pos hbad, Bool.and_false]
          unfold badX badB at hbad
          clear hR
          go_wp2
          refine Lx.region (C := fun _ => True) (hs := []) (by kernel_rfl) (by kernel_rfl) trivial ?_
          repeat' (first
            | (refine Lx.lex_no (Lx.n1 rfl rfl rfl (by with_reducible rfl)) (fun K hK => ?_); go_simp; refine hK _ ?_; clear hK K)
            | (refine Lx.lex_no (Lx.n0 rfl rfl rfl (by with_reducible rfl)) (fun K hK => ?_); go_simp; refine hK _ ?_; clear hK K)
            | (refine Lx.lex_no (Lx.n2 rfl rfl rfl) (fun K hK => ?_); go_simp; refine hK _ ?_; clear hK K)
            | (refine Lx.lex_pure (v := ?_) rfl (by first | exact Lx.w0 rfl | exact Lx.w1 rfl rfl rfl (by with_reducible rfl)) ?_ (fun K hK => ?_); rotate_left 1; (intro w' hCw; (try dsimp only at hCw); go_simp; done); go_simp; refine hK _ ?_; clear hK K)
            | (refine Lx.lex_pure (v := ?_) rfl (by first | exact Lx.w0 rfl | exact Lx.w1 rfl rfl rfl (by with_reducible rfl)) ?_ (fun K hK => ?_); rotate_left 1; (intro w' hCw; (try dsimp only at hCw); go_simp; with_reducible rfl); go_simp; refine hK _ ?_; clear hK K)
            | (refine Lx.lex_read (v := ?_) rfl (by first | exact Lx.w0 rfl | exact Lx.w1 rfl rfl rfl (by with_reducible rfl)) ?_ (fun K hK => ?_); rotate_left 1; (go_simp; done); go_simp; refine hK _ ?_; clear hK K)
            | (refine Lx.lex_read (v := ?_) rfl (by first | exact Lx.w0 rfl | exact Lx.w1 rfl rfl rfl (by with_reducible rfl)) ?_ (fun K hK => ?_); rotate_left 1; (go_simp; with_reducible rfl); go_simp; refine hK _ ?_; clear hK K)
            | (refine Lx.lex_eff rfl (by first | exact Lx.w0 rfl | exact Lx.w1 rfl rfl rfl (by with_reducible rfl)) (fun K hK => ?_); go_simp; (first | fail | skip); refine hK _ _ (trivial) ?_; clear hK K)
            | (refine Lx.lex_cases rfl rfl rfl (fun hgd K hK => ?_) (fun hgd K hK => ?_) <;> (try simp only [decide_eq_true_eq, decide_eq_false_iff_not] at hgd) <;> (first | (exfalso; omega) | (go_simp; refine hK _ ?_; clear hK K))))
          all_goals (refine Lx.lex_nil ?_)
          all_goals go_wp2
          all_goals first
            | (exfalso; omega)
            | (go_ret; exact ⟨ret_bool (by rw [HF.out]), HWW.out.trans (((Below.refl _ _).alloc (by omega) _).drew)⟩)
        · have hR2 : Eqn (rBidders l bs) (prodValid l && (if fitsF l x.blocks = false then false else if x.elig < unitsF l x.blocks then false else vbGo l (bs.drop (k + 1)) x.id)) := by rw [Eqn, hR.out, if_neg hbad]
          unfold badX badB at hbad
          obtain ⟨g1, g2, g3, g4, g5, g6⟩ : ¬ x.id ≤ last ∧ ¬ 31 < x.id ∧ ¬ x.elig < 0 ∧ ¬ 76800000 < x.elig ∧ ¬ x.waiv < 0 ∧ ¬ 3 < x.waiv := by omega
          have g0 : ¬ x.id < 0 := by omega
          clear hbad hR
          have hbw : Hid (Below w.heap.size w ((wr.alloc (.cells #[.int .i64 x.id, .int .i64 x.elig, .int .i64 x.waiv, .slice x.adr x.len x.cap] 56)).drew)) := HWW.out.trans (((Below.refl _ _).alloc (by omega) _).drew)
          cases hv : dValid l x.blocks with
          | false =>
            have HU : Eqn (dUnits l x.blocks) (.tuple #[.int .i64 0, .int .i64 2]) := by unfold dUnits Eqn; rw [hv]; rfl
            have HF : Eqn (rBidders l bs) false := by
              rw [Eqn, hR2.out]
              unfold dValid at hv
              rw [Bool.and_eq_false_iff] at hv
              rcases hv with h | h
              · rw [h, Bool.false_and]
              · rw [if_pos h, Bool.and_false]
            clear hR2 hv
            go_wp2
            refine Lx.region (C := fun _ => True) (hs := []) (by kernel_rfl) (by kernel_rfl) trivial ?_
            repeat' (first
              | (refine Lx.lex_no (Lx.n1 rfl rfl rfl (by with_reducible rfl)) (fun K hK => ?_); go_simp; refine hK _ ?_; clear hK K)
              | (refine Lx.lex_no (Lx.n0 rfl rfl rfl (by with_reducible rfl)) (fun K hK => ?_); go_simp; refine hK _ ?_; clear hK K)
              | (refine Lx.lex_no (Lx.n2 rfl rfl rfl) (fun K hK => ?_); go_simp; refine hK _ ?_; clear hK K)
              | (refine Lx.lex_pure (v := ?_) rfl (by first | exact Lx.w0 rfl | exact Lx.w1 rfl rfl rfl (by with_reducible rfl)) ?_ (fun K hK => ?_); rotate_left 1; (intro w' hCw; (try dsimp only at hCw); go_simp; done); go_simp; refine hK _ ?_; clear hK K)
              | (refine Lx.lex_pure (v := ?_) rfl (by first | exact Lx.w0 rfl | exact Lx.w1 rfl rfl rfl (by with_reducible rfl)) ?_ (fun K hK => ?_); rotate_left 1; (intro w' hCw; (try dsimp only at hCw); go_simp; with_reducible rfl); go_simp; refine hK _ ?_; clear hK K)
              | (refine Lx.lex_read (v := ?_) rfl (by first | exact Lx.w0 rfl | exact Lx.w1 rfl rfl rfl (by with_reducible rfl)) ?_ (fun K hK => ?_); rotate_left 1; (go_simp; done); go_simp; refine hK _ ?_; clear hK K)
              | (refine Lx.lex_read (v := ?_) rfl (by first | exact Lx.w0 rfl | exact Lx.w1 rfl rfl rfl (by with_reducible rfl)) ?_ (fun K hK => ?_); rotate_left 1; (go_simp; with_reducible rfl); go_simp; refine hK _ ?_; clear hK K)
              | (refine Lx.lex_eff rfl (by first | exact Lx.w0 rfl | exact Lx.w1 rfl rfl rfl (by with_reducible rfl)) (fun K hK => ?_); go_simp; (first | fail | skip); refine hK _ _ (trivial) ?_; clear hK K)
              | (refine Lx.lex_cases rfl rfl rfl (fun hgd K hK => ?_) (fun hgd K hK => ?_) <;> (try simp only [decide_eq_true_eq, decide_eq_false_iff_not] at hgd) <;> (first | (exfalso; omega) | (go_simp; refine hK _ ?_; clear hK K))))
            all_goals (refine Lx.lex_nil ?_)
            go_wp2_with fail
            refine (rUnits_any A _ n c _ _ _ l x.blocks hn (by exact Hl.out.keep hbw.out) (by exact (HX.out.below (((Below.refl _ _).alloc (by omega) _).drew)).up (by simp; omega))).mono ?_
            rw [HU.out]
            rintro e w1 ⟨rfl, hb1⟩
            have HB1 : Hid (Below w.heap.size w w1) := hbw.out.trans (hb1.mono (by have := hbw.out.size; exact this))
            clear hb1
            go_wp2
            go_ret
            exact ⟨ret_bool (by rw [HF.out]), HB1.out⟩
          | true =>
            have HU : Eqn (dUnits l x.blocks) (.tuple #[.int .i64 (unitsF l x.blocks), .int .i64 0]) := by unfold dUnits Eqn; rw [hv]; rfl
            have hpf : prodValid l = true ∧ fitsF l x.blocks = true := by unfold dValid at hv; rw [Bool.and_eq_true] at hv; exact hv
            have hR3 : Eqn (rBidders l bs) (if x.elig < unitsF l x.blocks then false else vbGo l (bs.drop (k + 1)) x.id) := by
              rw [Eqn, hR2.out, hpf.1, Bool.true_and, if_neg (by rw [hpf.2]; simp)]
            have Hpf := Eqn.mk hpf.1
            clear hR2 hv hpf
            by_cases h3 : x.elig < unitsF l x.blocks
            · have HF : Eqn (rBidders l bs) false := by rw [Eqn, hR3.out, if_pos h3]
              have h3' : decide (x.elig < unitsF l x.blocks) = true := by simpa using h3
              clear hR3
              go_wp2
              refine Lx.region (C := fun _ => True) (hs := []) (by kernel_rfl) (by kernel_rfl) trivial ?_
              repeat' (first
                | (refine Lx.lex_no (Lx.n1 rfl rfl rfl (by with_reducible rfl)) (fun K hK => ?_); go_simp; refine hK _ ?_; clear hK K)
                | (refine Lx.lex_no (Lx.n0 rfl rfl rfl (by with_reducible rfl)) (fun K hK => ?_); go_simp; refine hK _ ?_; clear hK K)
                | (refine Lx.lex_no (Lx.n2 rfl rfl rfl) (fun K hK => ?_); go_simp; refine hK _ ?_; clear hK K)
                | (refine Lx.lex_pure (v := ?_) rfl (by first | exact Lx.w0 rfl | exact Lx.w1 rfl rfl rfl (by with_reducible rfl)) ?_ (fun K hK => ?_); rotate_left 1; (intro w' hCw; (try dsimp only at hCw); go_simp; done); go_simp; refine hK _ ?_; clear hK K)
                | (refine Lx.lex_pure (v := ?_) rfl (by first | exact Lx.w0 rfl | exact Lx.w1 rfl rfl rfl (by with_reducible rfl)) ?_ (fun K hK => ?_); rotate_left 1; (intro w' hCw; (try dsimp only at hCw); go_simp; with_reducible rfl); go_simp; refine hK _ ?_; clear hK K)
                | (refine Lx.lex_read (v := ?_) rfl (by first | exact Lx.w0 rfl | exact Lx.w1 rfl rfl rfl (by with_reducible rfl)) ?_ (fun K hK => ?_); rotate_left 1; (go_simp; done); go_simp; refine hK _ ?_; clear hK K)
                | (refine Lx.lex_read (v := ?_) rfl (by first | exact Lx.w0 rfl | exact Lx.w1 rfl rfl rfl (by with_reducible rfl)) ?_ (fun K hK => ?_); rotate_left 1; (go_simp; with_reducible rfl); go_simp; refine hK _ ?_; clear hK K)
                | (refine Lx.lex_eff rfl (by first | exact Lx.w0 rfl | exact Lx.w1 rfl rfl rfl (by with_reducible rfl)) (fun K hK => ?_); go_simp; (first | fail | skip); refine hK _ _ (trivial) ?_; clear hK K)
                | (refine Lx.lex_cases rfl rfl rfl (fun hgd K hK => ?_) (fun hgd K hK => ?_) <;> (try simp only [decide_eq_true_eq, decide_eq_false_iff_not] at hgd) <;> (first | (exfalso; omega) | (go_simp; refine hK _ ?_; clear hK K))))
              all_goals (refine Lx.lex_nil ?_)
              go_wp2_with fail
              refine (rUnits_any A _ n c _ _ _ l x.blocks hn (by exact Hl.out.keep hbw.out) (by exact (HX.out.below (((Below.refl _ _).alloc (by omega) _).drew)).up (by simp; omega))).mono ?_
              rw [HU.out]
              rintro e w1 ⟨rfl, hb1⟩
              have HB1 : Hid (Below w.heap.size w w1) := hbw.out.trans (hb1.mono (by have := hbw.out.size; exact this))
              have hk0 := fun o => hb1.cell (p := ⟨wr.heap.size, o, none⟩) (by simp)
              clear hb1
              go_wp2
              go_ret
              exact ⟨ret_bool (by rw [HF.out]), HB1.out⟩
            · have HF : Eqn (rBidders l bs) (prodValid l && vbGo l (bs.drop (k + 1)) x.id) := by rw [Eqn, hR3.out, if_neg h3, Hpf.out, Bool.true_and]
              have h3' : decide (x.elig < unitsF l x.blocks) = false := by simpa using h3
              clear hR3
              go_wp2
              refine Lx.region (C := fun _ => True) (hs := []) (by kernel_rfl) (by kernel_rfl) trivial ?_
              repeat' (first
                | (refine Lx.lex_no (Lx.n1 rfl rfl rfl (by with_reducible rfl)) (fun K hK => ?_); go_simp; refine hK _ ?_; clear hK K)
                | (refine Lx.lex_no (Lx.n0 rfl rfl rfl (by with_reducible rfl)) (fun K hK => ?_); go_simp; refine hK _ ?_; clear hK K)
                | (refine Lx.lex_no (Lx.n2 rfl rfl rfl) (fun K hK => ?_); go_simp; refine hK _ ?_; clear hK K)
                | (refine Lx.lex_pure (v := ?_) rfl (by first | exact Lx.w0 rfl | exact Lx.w1 rfl rfl rfl (by with_reducible rfl)) ?_ (fun K hK => ?_); rotate_left 1; (intro w' hCw; (try dsimp only at hCw); go_simp; done); go_simp; refine hK _ ?_; clear hK K)
                | (refine Lx.lex_pure (v := ?_) rfl (by first | exact Lx.w0 rfl | exact Lx.w1 rfl rfl rfl (by with_reducible rfl)) ?_ (fun K hK => ?_); rotate_left 1; (intro w' hCw; (try dsimp only at hCw); go_simp; with_reducible rfl); go_simp; refine hK _ ?_; clear hK K)
                | (refine Lx.lex_read (v := ?_) rfl (by first | exact Lx.w0 rfl | exact Lx.w1 rfl rfl rfl (by with_reducible rfl)) ?_ (fun K hK => ?_); rotate_left 1; (go_simp; done); go_simp; refine hK _ ?_; clear hK K)
                | (refine Lx.lex_read (v := ?_) rfl (by first | exact Lx.w0 rfl | exact Lx.w1 rfl rfl rfl (by with_reducible rfl)) ?_ (fun K hK => ?_); rotate_left 1; (go_simp; with_reducible rfl); go_simp; refine hK _ ?_; clear hK K)
                | (refine Lx.lex_eff rfl (by first | exact Lx.w0 rfl | exact Lx.w1 rfl rfl rfl (by with_reducible rfl)) (fun K hK => ?_); go_simp; (first | fail | skip); refine hK _ _ (trivial) ?_; clear hK K)
                | (refine Lx.lex_cases rfl rfl rfl (fun hgd K hK => ?_) (fun hgd K hK => ?_) <;> (try simp only [decide_eq_true_eq, decide_eq_false_iff_not] at hgd) <;> (first | (exfalso; omega) | (go_simp; refine hK _ ?_; clear hK K))))
              all_goals (refine Lx.lex_nil ?_)
              go_wp2_with fail
              refine (rUnits_any A _ n c _ _ _ l x.blocks hn (by exact Hl.out.keep hbw.out) (by exact (HX.out.below (((Below.refl _ _).alloc (by omega) _).drew)).up (by simp; omega))).mono ?_
              rw [HU.out]
              rintro e w1 ⟨rfl, hb1⟩
              have HB1 : Hid (Below w.heap.size w w1) := hbw.out.trans (hb1.mono (by have := hbw.out.size; exact this))
              have hk0 := fun o => hb1.cell (p := ⟨wr.heap.size, o, none⟩) (by simp)
              clear hb1
              go_wp2
              go_roundw
              case rel => exact ⟨k + 1, x.id, by omega, by go_num, HF, .inr ⟨by omega, by omega⟩, HLn, HB1.out⟩
              case measure => simp [intOf]; omega
      · have hk1 : 0 < k := by omega
        have hk1' : decide (0 < k) = true := by simpa using hk1
        obtain ⟨y, hy, hyl⟩ := hL1.out hk1
        have d0 := Hc.out (k - 1) y hy 0 (by omega)
        simp only [Bidr.cell, Nat.add_zero, hyl] at d0
        have hwr : IntKind.i64.wrap ((k : Int) - 1) = (k : Int) - 1 := by rw [IntKind.wrap_i64]; omega
        have htn : ((k : Int) - 1).toNat = k - 1 := by omega
        have hge : (1 : Int) ≤ (k : Int) := by omega
        have hlt2 : (k : Int) - 1 < (m : Int) := by omega
        have hlast : 0 ≤ last := by omega
        clear hkz hk0 hy hyl
        by_cases hbad : badX last x
        · have HF : Eqn (rBidders l bs) false := by rw [Eqn, hR.out, if_pos hbad, Bool.and_false]
          unfold badX badB at hbad
          clear hR
          go_wp2
          refine Lx.region (C := fun _ => True) (hs := []) (by kernel_rfl) (by kernel_rfl) trivial ?_
          repeat' (first
            | (refine Lx.lex_no (Lx.n1 rfl rfl rfl (by with_reducible rfl)) (fun K hK => ?_); go_simp; refine hK _ ?_; clear hK K)
            | (refine Lx.lex_no (Lx.n0 rfl rfl rfl (by with_reducible rfl)) (fun K hK => ?_); go_simp; refine hK _ ?_; clear hK K)
            | (refine Lx.lex_no (Lx.n2 rfl rfl rfl) (fun K hK => ?_); go_simp; refine hK _ ?_; clear hK K)
            | (refine Lx.lex_pure (v := ?_) rfl (by first | exact Lx.w0 rfl | exact Lx.w1 rfl rfl rfl (by with_reducible rfl)) ?_ (fun K hK => ?_); rotate_left 1; (intro w' hCw; (try dsimp only at hCw); go_simp; done); go_simp; refine hK _ ?_; clear hK K)
            | (refine Lx.lex_pure (v := ?_) rfl (by first | exact Lx.w0 rfl | exact Lx.w1 rfl rfl rfl (by with_reducible rfl)) ?_ (fun K hK => ?_); rotate_left 1; (intro w' hCw; (try dsimp only at hCw); go_simp; with_reducible rfl); go_simp; refine hK _ ?_; clear hK K)
            | (refine Lx.lex_read (v := ?_) rfl (by first | exact Lx.w0 rfl | exact Lx.w1 rfl rfl rfl (by with_reducible rfl)) ?_ (fun K hK => ?_); rotate_left 1; (go_simp; done); go_simp; refine hK _ ?_; clear hK K)
            | (refine Lx.lex_read (v := ?_) rfl (by first | exact Lx.w0 rfl | exact Lx.w1 rfl rfl rfl (by with_reducible rfl)) ?_ (fun K hK => ?_); rotate_left 1; (go_simp; with_reducible rfl); go_simp; refine hK _ ?_; clear hK K)
            | (refine Lx.lex_eff rfl (by first | exact Lx.w0 rfl | exact Lx.w1 rfl rfl rfl (by with_reducible rfl)) (fun K hK => ?_); go_simp; (first | fail | skip); refine hK _ _ (trivial) ?_; clear hK K)
            | (refine Lx.lex_cases rfl rfl rfl (fun hgd K hK => ?_) (fun hgd K hK => ?_) <;> (try simp only [decide_eq_true_eq, decide_eq_false_iff_not] at hgd) <;> (first | (exfalso; omega) | (go_simp; refine hK _ ?_; clear hK K))))
          all_goals (refine Lx.lex_nil ?_)
          all_goals go_wp2
          all_goals first
            | (exfalso; omega)
            | (go_ret; exact ⟨ret_bool (by rw [HF.out]), HWW.out.trans (((Below.refl _ _).alloc (by omega) _).drew)⟩)
        · have hR2 : Eqn (rBidders l bs) (prodValid l && (if fitsF l x.blocks = false then false else if x.elig < unitsF l x.blocks then false else vbGo l (bs.drop (k + 1)) x.id)) := by rw [Eqn, hR.out, if_neg hbad]
          unfold badX badB at hbad
          obtain ⟨g1, g2, g3, g4, g5, g6⟩ : ¬ x.id ≤ last ∧ ¬ 31 < x.id ∧ ¬ x.elig < 0 ∧ ¬ 76800000 < x.elig ∧ ¬ x.waiv < 0 ∧ ¬ 3 < x.waiv := by omega
          have g0 : ¬ x.id < 0 := by omega
          clear hbad hR
          have hbw : Hid (Below w.heap.size w ((wr.alloc (.cells #[.int .i64 x.id, .int .i64 x.elig, .int .i64 x.waiv, .slice x.adr x.len x.cap] 56)).drew)) := HWW.out.trans (((Below.refl _ _).alloc (by omega) _).drew)
          cases hv : dValid l x.blocks with
          | false =>
            have HU : Eqn (dUnits l x.blocks) (.tuple #[.int .i64 0, .int .i64 2]) := by unfold dUnits Eqn; rw [hv]; rfl
            have HF : Eqn (rBidders l bs) false := by
              rw [Eqn, hR2.out]
              unfold dValid at hv
              rw [Bool.and_eq_false_iff] at hv
              rcases hv with h | h
              · rw [h, Bool.false_and]
              · rw [if_pos h, Bool.and_false]
            clear hR2 hv
            go_wp2
            refine Lx.region (C := fun _ => True) (hs := []) (by kernel_rfl) (by kernel_rfl) trivial ?_
            repeat' (first
              | (refine Lx.lex_no (Lx.n1 rfl rfl rfl (by with_reducible rfl)) (fun K hK => ?_); go_simp; refine hK _ ?_; clear hK K)
              | (refine Lx.lex_no (Lx.n0 rfl rfl rfl (by with_reducible rfl)) (fun K hK => ?_); go_simp; refine hK _ ?_; clear hK K)
              | (refine Lx.lex_no (Lx.n2 rfl rfl rfl) (fun K hK => ?_); go_simp; refine hK _ ?_; clear hK K)
              | (refine Lx.lex_pure (v := ?_) rfl (by first | exact Lx.w0 rfl | exact Lx.w1 rfl rfl rfl (by with_reducible rfl)) ?_ (fun K hK => ?_); rotate_left 1; (intro w' hCw; (try dsimp only at hCw); go_simp; done); go_simp; refine hK _ ?_; clear hK K)
              | (refine Lx.lex_pure (v := ?_) rfl (by first | exact Lx.w0 rfl | exact Lx.w1 rfl rfl rfl (by with_reducible rfl)) ?_ (fun K hK => ?_); rotate_left 1; (intro w' hCw; (try dsimp only at hCw); go_simp; with_reducible rfl); go_simp; refine hK _ ?_; clear hK K)
              | (refine Lx.lex_read (v := ?_) rfl (by first | exact Lx.w0 rfl | exact Lx.w1 rfl rfl rfl (by with_reducible rfl)) ?_ (fun K hK => ?_); rotate_left 1; (go_simp; done); go_simp; refine hK _ ?_; clear hK K)
              | (refine Lx.lex_read (v := ?_) rfl (by first | exact Lx.w0 rfl | exact Lx.w1 rfl rfl rfl (by with_reducible rfl)) ?_ (fun K hK => ?_); rotate_left 1; (go_simp; with_reducible rfl); go_simp; refine hK _ ?_; clear hK K)
              | (refine Lx.lex_eff rfl (by first | exact Lx.w0 rfl | exact Lx.w1 rfl rfl rfl (by with_reducible rfl)) (fun K hK => ?_); go_simp; (first | fail | skip); refine hK _ _ (trivial) ?_; clear hK K)
              | (refine Lx.lex_cases rfl rfl rfl (fun hgd K hK => ?_) (fun hgd K hK => ?_) <;> (try simp only [decide_eq_true_eq, decide_eq_false_iff_not] at hgd) <;> (first | (exfalso; omega) | (go_simp; refine hK _ ?_; clear hK K))))
            all_goals (refine Lx.lex_nil ?_)
            go_wp2_with fail
            refine (rUnits_any A _ n c _ _ _ l x.blocks hn (by exact Hl.out.keep hbw.out) (by exact (HX.out.below (((Below.refl _ _).alloc (by omega) _).drew)).up (by simp; omega))).mono ?_
            rw [HU.out]
            rintro e w1 ⟨rfl, hb1⟩
            have HB1 : Hid (Below w.heap.size w w1) := hbw.out.trans (hb1.mono (by have := hbw.out.size; exact this))
            clear hb1
            go_wp2
            go_ret
            exact ⟨ret_bool (by rw [HF.out]), HB1.out⟩
          | true =>
            have HU : Eqn (dUnits l x.blocks) (.tuple #[.int .i64 (unitsF l x.blocks), .int .i64 0]) := by unfold dUnits Eqn; rw [hv]; rfl
            have hpf : prodValid l = true ∧ fitsF l x.blocks = true := by unfold dValid at hv; rw [Bool.and_eq_true] at hv; exact hv
            have hR3 : Eqn (rBidders l bs) (if x.elig < unitsF l x.blocks then false else vbGo l (bs.drop (k + 1)) x.id) := by
              rw [Eqn, hR2.out, hpf.1, Bool.true_and, if_neg (by rw [hpf.2]; simp)]
            have Hpf := Eqn.mk hpf.1
            clear hR2 hv hpf
            by_cases h3 : x.elig < unitsF l x.blocks
            · have HF : Eqn (rBidders l bs) false := by rw [Eqn, hR3.out, if_pos h3]
              have h3' : decide (x.elig < unitsF l x.blocks) = true := by simpa using h3
              clear hR3
              go_wp2
              refine Lx.region (C := fun _ => True) (hs := []) (by kernel_rfl) (by kernel_rfl) trivial ?_
              repeat' (first
                | (refine Lx.lex_no (Lx.n1 rfl rfl rfl (by with_reducible rfl)) (fun K hK => ?_); go_simp; refine hK _ ?_; clear hK K)
                | (refine Lx.lex_no (Lx.n0 rfl rfl rfl (by with_reducible rfl)) (fun K hK => ?_); go_simp; refine hK _ ?_; clear hK K)
                | (refine Lx.lex_no (Lx.n2 rfl rfl rfl) (fun K hK => ?_); go_simp; refine hK _ ?_; clear hK K)
                | (refine Lx.lex_pure (v := ?_) rfl (by first | exact Lx.w0 rfl | exact Lx.w1 rfl rfl rfl (by with_reducible rfl)) ?_ (fun K hK => ?_); rotate_left 1; (intro w' hCw; (try dsimp only at hCw); go_simp; done); go_simp; refine hK _ ?_; clear hK K)
                | (refine Lx.lex_pure (v := ?_) rfl (by first | exact Lx.w0 rfl | exact Lx.w1 rfl rfl rfl (by with_reducible rfl)) ?_ (fun K hK => ?_); rotate_left 1; (intro w' hCw; (try dsimp only at hCw); go_simp; with_reducible rfl); go_simp; refine hK _ ?_; clear hK K)
                | (refine Lx.lex_read (v := ?_) rfl (by first | exact Lx.w0 rfl | exact Lx.w1 rfl rfl rfl (by with_reducible rfl)) ?_ (fun K hK => ?_); rotate_left 1; (go_simp; done); go_simp; refine hK _ ?_; clear hK K)
                | (refine Lx.lex_read (v := ?_) rfl (by first | exact Lx.w0 rfl | exact Lx.w1 rfl rfl rfl (by with_reducible rfl)) ?_ (fun K hK => ?_); rotate_left 1; (go_simp; with_reducible rfl); go_simp; refine hK _ ?_; clear hK K)
                | (refine Lx.lex_eff rfl (by first | exact Lx.w0 rfl | exact Lx.w1 rfl rfl rfl (by with_reducible rfl)) (fun K hK => ?_); go_simp; (first | fail | skip); refine hK _ _ (trivial) ?_; clear hK K)
                | (refine Lx.lex_cases rfl rfl rfl (fun hgd K hK => ?_) (fun hgd K hK => ?_) <;> (try simp only [decide_eq_true_eq, decide_eq_false_iff_not] at hgd) <;> (first | (exfalso; omega) | (go_simp; refine hK _ ?_; clear hK K))))
              all_goals (refine Lx.lex_nil ?_)
              go_wp2_with fail
              refine (rUnits_any A _ n c _ _ _ l x.blocks hn (by exact Hl.out.keep hbw.out) (by exact (HX.out.below (((Below.refl _ _).alloc (by omega) _).drew)).up (by simp; omega))).mono ?_
              rw [HU.out]
              rintro e w1 ⟨rfl, hb1⟩
              have HB1 : Hid (Below w.heap.size w w1) := hbw.out.trans (hb1.mono (by have := hbw.out.size; exact this))
              have hk0 := fun o => hb1.cell (p := ⟨wr.heap.size, o, none⟩) (by simp)
              clear hb1
              go_wp2
              go_ret
              exact ⟨ret_bool (by rw [HF.out]), HB1.out⟩
            · have HF : Eqn (rBidders l bs) (prodValid l && vbGo l (bs.drop (k + 1)) x.id) := by rw [Eqn, hR3.out, if_neg h3, Hpf.out, Bool.true_and]
              have h3' : decide (x.elig < unitsF l x.blocks) = false := by simpa using h3
              clear hR3
              go_wp2
              refine Lx.region (C := fun _ => True) (hs := []) (by kernel_rfl) (by kernel_rfl) trivial ?_
              repeat' (first
                | (refine Lx.lex_no (Lx.n1 rfl rfl rfl (by with_reducible rfl)) (fun K hK => ?_); go_simp; refine hK _ ?_; clear hK K)
                | (refine Lx.lex_no (Lx.n0 rfl rfl rfl (by with_reducible rfl)) (fun K hK => ?_); go_simp; refine hK _ ?_; clear hK K)
                | (refine Lx.lex_no (Lx.n2 rfl rfl rfl) (fun K hK => ?_); go_simp; refine hK _ ?_; clear hK K)
                | (refine Lx.lex_pure (v := ?_) rfl (by first | exact Lx.w0 rfl | exact Lx.w1 rfl rfl rfl (by with_reducible rfl)) ?_ (fun K hK => ?_); rotate_left 1; (intro w' hCw; (try dsimp only at hCw); go_simp; done); go_simp; refine hK _ ?_; clear hK K)
                | (refine Lx.lex_pure (v := ?_) rfl (by first | exact Lx.w0 rfl | exact Lx.w1 rfl rfl rfl (by with_reducible rfl)) ?_ (fun K hK => ?_); rotate_left 1; (intro w' hCw; (try dsimp only at hCw); go_simp; with_reducible rfl); go_simp; refine hK _ ?_; clear hK K)
                | (refine Lx.lex_read (v := ?_) rfl (by first | exact Lx.w0 rfl | exact Lx.w1 rfl rfl rfl (by with_reducible rfl)) ?_ (fun K hK => ?_); rotate_left 1; (go_simp; done); go_simp; refine hK _ ?_; clear hK K)
                | (refine Lx.lex_read (v := ?_) rfl (by first | exact Lx.w0 rfl | exact Lx.w1 rfl rfl rfl (by with_reducible rfl)) ?_ (fun K hK => ?_); rotate_left 1; (go_simp; with_reducible rfl); go_simp; refine hK _ ?_; clear hK K)
                | (refine Lx.lex_eff rfl (by first | exact Lx.w0 rfl | exact Lx.w1 rfl rfl rfl (by with_reducible rfl)) (fun K hK => ?_); go_simp; (first | fail | skip); refine hK _ _ (trivial) ?_; clear hK K)
                | (refine Lx.lex_cases rfl rfl rfl (fun hgd K hK => ?_) (fun hgd K hK => ?_) <;> (try simp only [decide_eq_true_eq, decide_eq_false_iff_not] at hgd) <;> (first | (exfalso; omega) | (go_simp; refine hK _ ?_; clear hK K))))
              all_goals (refine Lx.lex_nil ?_)
              go_wp2_with fail
              refine (rUnits_any A _ n c _ _ _ l x.blocks hn (by exact Hl.out.keep hbw.out) (by exact (HX.out.below (((Below.refl _ _).alloc (by omega) _).drew)).up (by simp; omega))).mono ?_
              rw [HU.out]
              rintro e w1 ⟨rfl, hb1⟩
              have HB1 : Hid (Below w.heap.size w w1) := hbw.out.trans (hb1.mono (by have := hbw.out.size; exact this))
              have hk0 := fun o => hb1.cell (p := ⟨wr.heap.size, o, none⟩) (by simp)
              clear hb1
              go_wp2
              go_roundw
              case rel => exact ⟨k + 1, x.id, by omega, by go_num, HF, .inr ⟨by omega, by omega⟩, HLn, HB1.out⟩
              case measure => simp [intOf]; omega
    · have : k = m := by omega
      subst this
      clear HW
      have HF : Eqn (rBidders l bs) (refValid l) := by
        rw [Eqn, HR.out, drop_end (by rw [Hlen.out]; omega), prodValid_eq]; simp [vbGo]
      clear HR
      go_wp2_with fail
      refine (refValid_any A n c l _ hn (by exact Hl.out.keep HWW.out)).mono ?_
      rintro e w1 ⟨rfl, hb1⟩
      go_wp2
      go_ret
      exact ⟨ret_bool (by rw [HF.out]), HWW.out.trans (hb1.mono HWW.out.size)⟩
end Go.Proofs.Ytoafkphcfhbnmaa
