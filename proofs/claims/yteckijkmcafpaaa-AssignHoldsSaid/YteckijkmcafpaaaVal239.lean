/- Contracts of Value on both sides, and of the reference's Worth. -/
import Derived.Test.YteckijkmcafpaaaPh39
import Derived.Test.YteckijkmcafpaaaRIs39
namespace Go.Proofs.Yteckijkmcafpaaa
open Go.RowKit

theorem fu_bd {b : Int} {l : List Claim} {ws : List Wish} (h : vwF b l ws = true) (wn : List Int) (x : Int) (s : Nat) : 0 ≤ fuOf ws wn x s ∧ fuOf ws wn x s ≤ 1099511627776 := by
  obtain ⟨hv, hw⟩ := vwF_yes h
  have hb := fun x hx => (vw_ok hv ws none hw x hx).2
  have key : ∀ (x s : Int) (ws : List Wish), (∀ y ∈ ws, 0 ≤ y.val ∧ y.val ≤ 1099511627776) → 0 ≤ wishF x s ws ∧ wishF x s ws ≤ 1099511627776 := by
    intro x s ws
    induction ws with
    | nil => intro _; simp [wishF]
    | cons y r ih =>
      intro h
      rw [wishF]
      split
      · exact h y (by simp)
      · exact ih (fun z hz => h z (by simp [hz]))
  unfold fuOf
  split
  · exact key _ _ ws hb
  · omega
/-- what an assignment's slots are -/
theorem is_slots {N : Nat} {l : List Claim} {sl : List Slot} (_hc : ∀ c ∈ l, 1 ≤ c.cnt ∧ c.cnt ≤ (N : Int)) (h : isF N l sl = true) : sl.length = l.length ∧ ∀ (i : Nat) (x : Slot), sl[i]? = some x → ∃ c, l[i]? = some c ∧ x.win = c.win ∧ 0 ≤ x.start ∧ x.start + c.cnt ≤ N := by
  unfold isF at h
  split at h
  · rename_i hl
    refine ⟨hl, ?_⟩
    rw [Int.toNat_natCast] at h
    have key : ∀ (l : List Claim) (sl : List Slot) (u : List Bool), isGo N l sl u = true → sl.length = l.length → ∀ (i : Nat) (x : Slot), sl[i]? = some x → ∃ c, l[i]? = some c ∧ x.win = c.win ∧ 0 ≤ x.start ∧ x.start + c.cnt ≤ N := by
      intro l
      induction l with
      | nil => intro sl u _ hl i x hx; cases sl with | nil => simp at hx | cons y s => simp at hl
      | cons c r ih =>
        intro sl u h hl i x hx
        cases sl with
        | nil => simp at hl
        | cons y s =>
          rw [isGo] at h
          split at h
          · cases h
          · rename_i hb
            unfold badS at hb
            split at h
            · cases i with
              | zero =>
                simp at hx
                subst hx
                have hw : y.win = c.win := Classical.byContradiction fun hh => hb (.inl hh)
                have hcn : y.cnt = c.cnt := Classical.byContradiction fun hh => hb (.inr (.inl hh))
                exact ⟨c, rfl, hw, by omega, by omega⟩
              | succ i => exact ih s _ h (by simpa using hl) i x (by simpa using hx)
            · cases h
    exact key l sl _ h hl
  · cases h

set_option maxHeartbeats 4000000 in
theorem worth_any (B C W : Option Addr) (m d k0 e0 p pc : Nat) (w : World) (ws : List Wish) (sl : List Slot) (wn : List Int) (hm : m ≤ 1000) (hk : k0 ≤ 1000) (hp : p ≤ 1000) (hw : RowS 3 Wish.cell w w.heap.size B m ws) (hs : RowS 3 Slot.cell w w.heap.size C k0 sl) (hwn : Row1 intV w w.heap.size W p wn) (hpos : ∀ x ∈ sl, 0 ≤ x.start) (hbd : ∀ x s, 0 ≤ fuOf ws wn x s ∧ fuOf ws wn x s ≤ 1099511627776) :
    Calls Try.prog 49 #[.slice B m d, .slice C k0 e0, .slice W p pc] w (RetPost (.int .i64 (worthS ws wn sl)) w.heap.size w) := by
  have Hw := Lib.hid hw
  have Hs := Lib.hid hs
  have Hn := Lib.hid hwn
  have Hsl := Eqn.mk hs.1
  have HPOS := Lib.hid hpos
  have HBD := Lib.hid hbd
  clear hw hs hwn hpos hbd
  go_enter Try.func49, Try.ntmps49
  go_wp2_with fail
  go_loopw [7, 8] (fun a i wr => ∃ (k : Nat) (acc : Int), k ≤ k0 ∧ i = .int .i64 k ∧ a = .int .i64 acc ∧ 0 ≤ acc ∧ acc ≤ k * 1099511627776 ∧ Eqn (worthS ws wn sl) (acc + worthS ws wn (sl.drop k)) ∧ Below w.heap.size w wr) (fun _ i _ => k0 - (intOf i).toNat)
  case atStart => exact ⟨0, 0, Nat.zero_le _, rfl, rfl, by omega, by omega, by rw [Eqn, List.drop_zero, Int.zero_add], Below.refl _ _⟩
  case round =>
    obtain ⟨k, acc, hk', rfl, rfl, a0, a1, HR, HW⟩ := hrel
    have HWW := Lib.hid HW
    by_cases hlt : k < k0
    · obtain ⟨x, hx, hxd⟩ := drop_at (xs := sl) (k := k) (by rw [Hsl.out]; exact hlt)
      obtain ⟨g, off, rfl, hg, hc⟩ := (Hs.out.below HW).2 (by omega)
      have y0 := hc k x hx 0 (by omega)
      have y1 := hc k x hx 1 (by omega)
      simp only [Slot.cell, Nat.add_zero] at y0 y1
      obtain ⟨s, hs⟩ := Int.eq_ofNat_of_zero_le (HPOS.out x (List.mem_of_getElem? hx))
      have hfb := HBD.out x.win s
      have HR' : Eqn (worthS ws wn sl) (acc + fuOf ws wn x.win s + worthS ws wn (sl.drop (k + 1))) := by
        have := HR.out; rw [hxd, worthS, hs, Int.toNat_natCast] at this; rw [Eqn, this]; omega
      have hfe : fuOf ws wn x.win s = if hasF wn x.win = true then wishF x.win (s : Int) ws else 0 := rfl
      rw [hs] at y1
      have j0 : (k : Int) < (k0 : Int) := by omega
      obtain ⟨fv, hfv⟩ : ∃ fv, fuOf ws wn x.win s = fv := ⟨_, rfl⟩
      rw [hfv] at hfb HR' hfe
      obtain ⟨wo, rfl⟩ : ∃ wo : World, wo = wr := ⟨_, rfl⟩
      have hgs : g < wo.heap.size := Nat.lt_of_lt_of_le hg HW.size
      clear hc hx hxd HR HW hs hfv
      cases hh : hasF wn x.win with
      | true =>
        rw [hh, if_pos rfl] at hfe
        have HH := Eqn.mk hh
        have HFE := Eqn.mk hfe
        clear hh hfe
        obtain ⟨f0, f1⟩ := hfb
        have hww : IntKind.i64.wrap (acc + fv) = acc + fv := IntWalk.i64_in _ (by omega)
        go_wp2_with fail
        refine (has_any W p pc x.win _ w.heap.size wn hp (by exact Hn.out.below HWW.out)).mono ?_
        rw [HH.out]
        rintro e w1 ⟨rfl, rfl⟩
        go_wp2_with fail
        refine Lx.region (C := fun _ => True) (hs := []) (by kernel_rfl) (by kernel_rfl) trivial ?_
        repeat' (first
          | (refine Lx.lex_no (Lx.n1 rfl rfl rfl (by with_reducible rfl)) (fun K hK => ?_); go_simp; refine hK _ ?_; clear hK K)
          | (refine Lx.lex_no (Lx.n0 rfl rfl rfl (by with_reducible rfl)) (fun K hK => ?_); go_simp; refine hK _ ?_; clear hK K)
          | (refine Lx.lex_no (Lx.n2 rfl rfl rfl) (fun K hK => ?_); go_simp; refine hK _ ?_; clear hK K)
          | (refine Lx.lex_pure (v := ?_) rfl (by first | exact Lx.w0 rfl | exact Lx.w1 rfl rfl rfl (by with_reducible rfl)) ?_ (fun K hK => ?_); rotate_left 1; (intro w' hCw; (try dsimp only at hCw); go_simp; done); go_simp; refine hK _ ?_; clear hK K)
          | (refine Lx.lex_pure (v := ?_) rfl (by first | exact Lx.w0 rfl | exact Lx.w1 rfl rfl rfl (by with_reducible rfl)) ?_ (fun K hK => ?_); rotate_left 1; (intro w' hCw; (try dsimp only at hCw); go_simp; with_reducible rfl); go_simp; refine hK _ ?_; clear hK K)
          | (refine Lx.lex_read (v := ?_) rfl (by first | exact Lx.w0 rfl | exact Lx.w1 rfl rfl rfl (by with_reducible rfl)) ?_ (fun K hK => ?_); rotate_left 1; (go_simp; done); go_simp; refine hK _ ?_; clear hK K)
          | (refine Lx.lex_read (v := ?_) rfl (by first | exact Lx.w0 rfl | exact Lx.w1 rfl rfl rfl (by with_reducible rfl)) ?_ (fun K hK => ?_); rotate_left 1; (go_simp; with_reducible rfl); go_simp; refine hK _ ?_; clear hK K)
          | (refine Lx.lex_eff rfl (by first | exact Lx.w0 rfl | exact Lx.w1 rfl rfl rfl (by with_reducible rfl)) (fun K hK => ?_); go_simp; (first | (go_at_call 53; refine (wish_any _ m d x.win (s : Int) _ w.heap.size ws hm (by exact Hw.out.below HWW.out.drew)).mono ?_; rw [← HFE.out]; rintro e w2 ⟨rfl, rfl⟩) | skip); refine hK _ _ (trivial) ?_; clear hK K)
          | (refine Lx.lex_cases rfl rfl rfl (fun hgd K hK => ?_) (fun hgd K hK => ?_) <;> (try simp only [decide_eq_true_eq, decide_eq_false_iff_not] at hgd) <;> (first | (exfalso; omega) | (go_simp; refine hK _ ?_; clear hK K))))
        all_goals (refine Lx.lex_nil ?_)
        clear hww
        go_wp2_with fail
        go_roundw
        case rel => exact ⟨k + 1, acc + fv, by omega, by go_num, rfl, by omega, by omega, HR', HWW.out.drew⟩
        case measure => simp [intOf]; omega
      | false =>
        rw [hh, if_neg (by simp)] at hfe
        have HH := Eqn.mk hh
        subst hfe
        clear hh
        go_wp2_with fail
        refine (has_any W p pc x.win _ w.heap.size wn hp (by exact Hn.out.below HWW.out)).mono ?_
        rw [HH.out]
        rintro e w1 ⟨rfl, rfl⟩
        go_wp2_with fail
        go_roundw
        case rel => exact ⟨k + 1, acc, by omega, by go_num, rfl, by omega, by omega, by have := HR'.out; rw [Int.add_zero] at this; exact this, HWW.out⟩
        case measure => simp [intOf]; omega
    · have HB : Eqn (worthS ws wn sl) acc := by
        rw [Eqn, HR.out, drop_end (by rw [Hsl.out]; omega), worthS, Int.add_zero]
      clear HW HR
      go_wp2_with fail
      go_ret
      exact ⟨by rw [HB.out]; rfl, HWW.out⟩

set_option maxRecDepth 100000 in
set_option maxHeartbeats 8000000 in
theorem rvalue_any (b : Int) (A B C W : Option Addr) (n c m d k0 e0 p pc : Nat) (w : World) (l : List Claim) (ws : List Wish) (sl : List Slot) (wn : List Int) (hn : n ≤ 1000) (hm : m ≤ 1000) (hk : k0 ≤ 1000) (hp : p ≤ 1000) (hl : RowS 2 Claim.cell w w.heap.size A n l) (hw : RowS 3 Wish.cell w w.heap.size B m ws) (hs : RowS 3 Slot.cell w w.heap.size C k0 sl) (hwn : Row1 intV w w.heap.size W p wn) :
    Calls Try.prog 30 #[.int .i64 b, .slice A n c, .slice B m d, .slice C k0 e0, .slice W p pc] w (RetPost (v2 (valueF b l ws sl wn)) w.heap.size w) := by
  have L0 := Lib.hid hl
  have M0 := Lib.hid hw
  have S0 := Lib.hid hs
  have P0 := Lib.hid hwn
  clear hl hw hs hwn
  cases hv : vwF b l ws with
  | false =>
    have HV := Eqn.mk hv
    have HF : Eqn (valueF b l ws sl wn) (0, 2) := by
      have : checkedF b l ws wn = 2 := by unfold checkedF; rw [if_neg (by rw [hv]; simp)]
      unfold valueF; rw [if_neg (by rw [this]; decide), this]; rfl
    clear hv
    go_enter Try.func30, Try.ntmps30
    go_wp2_with fail
    refine (rvw_any b A B n c m d _ l ws hn hm L0.out M0.out).mono ?_
    rw [HV.out]
    rintro e w1 ⟨rfl, hb1⟩
    go_wp2_with fail
    go_ret2
    rw [HF.out]
    exact ⟨rfl, hb1⟩
  | true =>
    have HV := Eqn.mk hv
    obtain ⟨hva, _⟩ := vwF_yes hv
    obtain ⟨v1, v2', v3, v4⟩ := validF_all hva
    have HBD := Lib.hid (fun x s => fu_bd hv wn x s)
    obtain ⟨N, rfl⟩ := Int.eq_ofNat_of_zero_le (show 0 ≤ b by omega)
    have hck : checkedF N l ws wn = amongF l wn := by unfold checkedF; rw [if_pos hv]
    obtain ⟨am, ham⟩ : ∃ am, amongF l wn = am := ⟨_, rfl⟩
    have HAM := Eqn.mk ham
    rw [ham] at hck
    have H4 := Lib.hid (fun (x : Claim) (hx : x ∈ l) => (⟨(v4 x hx).2.2.1, (v4 x hx).2.2.2⟩ : 1 ≤ x.cnt ∧ x.cnt ≤ (N : Int)))
    clear hv v4 hva ham
    by_cases h0 : am = 0
    · have t0 : (am != 0) = false := by simpa using h0
      have hck0 : checkedF N l ws wn = 0 := by rw [hck, h0]
      cases hi : isF N l sl with
      | false =>
        have HI := Eqn.mk hi
        have HF : Eqn (valueF N l ws sl wn) (0, 10) := by unfold valueF; rw [if_pos hck0, if_neg (by rw [hi]; simp)]; rfl
        clear hck h0 hck0 hi
        go_enter Try.func30, Try.ntmps30
        go_wp2_with fail
        refine (rvw_any N A B n c m d _ l ws hn hm L0.out M0.out).mono ?_
        rw [HV.out]
        rintro e w1 ⟨rfl, hb1⟩
        have B1 := Lib.hid hb1
        clear hb1
        go_wp2_with fail
        refine (among_any A W n c p pc _ l wn hn hp (by exact (L0.out.below B1.out).up B1.out.size) (by exact (P0.out.below B1.out).up B1.out.size)).mono ?_
        rw [HAM.out]
        rintro e w2 ⟨rfl, hb2⟩
        have B2 := Lib.hid (B1.out.trans (hb2.mono B1.out.size))
        clear hb2
        go_wp2_with fail
        refine (is_any N A C n c k0 e0 _ l sl (by omega) (by omega) hn hk H4.out (by exact (L0.out.below B2.out).up B2.out.size) (by exact (S0.out.below B2.out).up B2.out.size)).mono ?_
        rw [HI.out]
        rintro e w3 ⟨rfl, hb3⟩
        have B3 := Lib.hid (B2.out.trans (hb3.mono B2.out.size))
        clear hb3
        go_wp2_with fail
        go_ret2
        rw [HF.out]
        exact ⟨rfl, B3.out⟩
      | true =>
        have HI := Eqn.mk hi
        have HF : Eqn (valueF N l ws sl wn) (worthS ws wn sl, 0) := by unfold valueF; rw [if_pos hck0, if_pos hi]; rfl
        have HPOS := Lib.hid (fun x (hx : x ∈ sl) => show 0 ≤ x.start by
          obtain ⟨i, hi'⟩ := List.mem_iff_getElem?.1 hx
          obtain ⟨_, _, _, h, _⟩ := (is_slots H4.out hi).2 i x hi'
          exact h)
        clear hck h0 hck0 hi
        go_enter Try.func30, Try.ntmps30
        go_wp2_with fail
        refine (rvw_any N A B n c m d _ l ws hn hm L0.out M0.out).mono ?_
        rw [HV.out]
        rintro e w1 ⟨rfl, hb1⟩
        have B1 := Lib.hid hb1
        clear hb1
        go_wp2_with fail
        refine (among_any A W n c p pc _ l wn hn hp (by exact (L0.out.below B1.out).up B1.out.size) (by exact (P0.out.below B1.out).up B1.out.size)).mono ?_
        rw [HAM.out]
        rintro e w2 ⟨rfl, hb2⟩
        have B2 := Lib.hid (B1.out.trans (hb2.mono B1.out.size))
        clear hb2
        go_wp2_with fail
        refine (is_any N A C n c k0 e0 _ l sl (by omega) (by omega) hn hk H4.out (by exact (L0.out.below B2.out).up B2.out.size) (by exact (S0.out.below B2.out).up B2.out.size)).mono ?_
        rw [HI.out]
        rintro e w3 ⟨rfl, hb3⟩
        have B3 := Lib.hid (B2.out.trans (hb3.mono B2.out.size))
        clear hb3
        go_wp2_with fail
        refine (worth_any B C W m d k0 e0 p pc _ ws sl wn hm hk hp (by exact (M0.out.below B3.out).up B3.out.size) (by exact (S0.out.below B3.out).up B3.out.size) (by exact (P0.out.below B3.out).up B3.out.size) HPOS.out HBD.out).mono ?_
        rintro e w4 ⟨rfl, hb4⟩
        have B4 := Lib.hid (B3.out.trans (hb4.mono B3.out.size))
        clear hb4
        go_wp2_with fail
        go_ret2
        rw [HF.out]
        exact ⟨rfl, B4.out⟩
    · have HF : Eqn (valueF N l ws sl wn) (0, am) := by unfold valueF; rw [if_neg (by rw [hck]; exact h0), hck]; rfl
      have t0 : (am != 0) = true := by simpa using h0
      clear hck h0
      go_enter Try.func30, Try.ntmps30
      go_wp2_with fail
      refine (rvw_any N A B n c m d _ l ws hn hm L0.out M0.out).mono ?_
      rw [HV.out]
      rintro e w1 ⟨rfl, hb1⟩
      have B1 := Lib.hid hb1
      clear hb1
      go_wp2_with fail
      refine (among_any A W n c p pc _ l wn hn hp (by exact (L0.out.below B1.out).up B1.out.size) (by exact (P0.out.below B1.out).up B1.out.size)).mono ?_
      rw [HAM.out]
      rintro e w2 ⟨rfl, hb2⟩
      have B2 := Lib.hid (B1.out.trans (hb2.mono B1.out.size))
      clear hb2
      go_wp2_with fail
      go_ret2
      rw [HF.out]
      exact ⟨rfl, B2.out⟩

set_option maxRecDepth 100000 in
set_option maxHeartbeats 8000000 in
theorem value_any (b : Int) (A B C W : Option Addr) (n c m d k0 e0 p pc : Nat) (w : World) (l : List Claim) (ws : List Wish) (sl : List Slot) (wn : List Int) (hn : n ≤ 1000) (hm : m ≤ 1000) (hk : k0 ≤ 1000) (hp : p ≤ 1000) (hl : RowS 2 Claim.cell w w.heap.size A n l) (hw : RowS 3 Wish.cell w w.heap.size B m ws) (hs : RowS 3 Slot.cell w w.heap.size C k0 sl) (hwn : Row1 intV w w.heap.size W p wn) :
    Calls Try.prog 29 #[.int .i64 b, .slice A n c, .slice B m d, .slice C k0 e0, .slice W p pc] w (RetPost (v2 (valueF b l ws sl wn)) w.heap.size w) := by
  have B0 : Hid (Below w.heap.size w (w.alloc (.cells #[.slice W p pc] 27))) := Lib.hid ((Below.refl _ _).alloc (Nat.le_refl _) _)
  have L0 := Lib.hid (hl.keep B0.out)
  have M0 := Lib.hid (hw.keep B0.out)
  have S0 := Lib.hid (hs.keep B0.out)
  have P0 := Lib.hid (hwn.keep B0.out)
  have Hlen := Eqn.mk hl.1
  have Hsl := Eqn.mk hs.1
  have cW : Hid ((w.alloc (.cells #[.slice W p pc] 27)).cell? ⟨w.heap.size, 0, none⟩ = some (.slice W p pc)) := Lib.hid ((blk_new w [.slice W p pc] 27).cell rfl)
  clear hl hw hs hwn
  obtain ⟨ck, hck⟩ : ∃ ck, checkedF b l ws wn = ck := ⟨_, rfl⟩
  have HCK := Eqn.mk hck
  by_cases h0 : ck = 0
  · subst h0
    obtain ⟨hv, _⟩ := checked_yes hck
    obtain ⟨hva, hvg⟩ := vwF_yes hv
    obtain ⟨v1, v2', v3, v4⟩ := validF_all hva
    obtain ⟨N, rfl⟩ := Int.eq_ofNat_of_zero_le (show 0 ≤ b by omega)
    have HWO := Lib.hid (fun x hx => (vw_ok hva ws none hvg x hx).1)
    have HBD := Lib.hid (fun x s => fu_bd hv wn x s)
    have HTL := Lib.hid (fun (i : Nat) (c : Claim) (hi : l[i]? = some c) (s : Nat) => (tabG_law hva (hasF wn) hi s ws (fun _ _ => 0) (fun x hx => (vw_ok hva ws none hvg x hx).1) (vw_inc ws none hvg).1))
    have H4 := Lib.hid (fun (x : Claim) (hx : x ∈ l) => (⟨(v4 x hx).2.2.1, (v4 x hx).2.2.2⟩ : 1 ≤ x.cnt ∧ x.cnt ≤ (N : Int)))
    have t0 : ((0 : Int) != 0) = false := by simp
    cases hi : isF N l sl with
    | false =>
      have HI := Eqn.mk hi
      have HF : Eqn (valueF N l ws sl wn) (0, 10) := by unfold valueF; rw [if_pos hck, if_neg (by rw [hi]; simp)]; rfl
      clear hv v4 hva hck hvg hi
      go_enter Try.func29, Try.ntmps29
      go_wp2_with fail
      refine (checked_any N A B W n c m d p pc _ l ws wn hn hp L0.out hm M0.out P0.out).mono ?_
      rw [HCK.out]
      rintro e w1 ⟨rfl, hb1⟩
      have L1 := Lib.hid (L0.out.keep hb1)
      have S1 := Lib.hid (S0.out.keep hb1)
      have B1 := Lib.hid (B0.out.trans (hb1.mono B0.out.size))
      clear hb1
      go_wp2_with fail
      refine (assigned_any N A C n c k0 e0 _ l sl (by omega) (by omega) hn hk H4.out L1.out S1.out).mono ?_
      rw [HI.out]
      rintro e w2 ⟨rfl, hb2⟩
      have B2 := Lib.hid (B1.out.trans (hb2.mono B1.out.size))
      clear hb2
      go_wp2_with fail
      go_ret2
      rw [HF.out]
      exact ⟨rfl, B2.out⟩
    | true =>
      have HI := Eqn.mk hi
      have HF : Eqn (valueF N l ws sl wn) (worthS ws wn sl, 0) := by unfold valueF; rw [if_pos hck, if_pos hi]; rfl
      have HIS := Lib.hid (is_slots H4.out hi)
      clear hv v4 hva hck hvg hi
      go_enter Try.func29, Try.ntmps29
      go_wp2_with fail
      refine (checked_any N A B W n c m d p pc _ l ws wn hn hp L0.out hm M0.out P0.out).mono ?_
      rw [HCK.out]
      rintro e w1 ⟨rfl, hb1⟩
      have L1 := Lib.hid (L0.out.keep hb1)
      have M1 := Lib.hid (M0.out.keep hb1)
      have S1 := Lib.hid (S0.out.keep hb1)
      have P1 := Lib.hid (P0.out.keep hb1)
      have c1 := Lib.hid ((hb1.cell (p := ⟨w.heap.size, 0, none⟩) (by simp)).trans cW.out)
      have z1 : w.heap.size < w1.heap.size := Nat.lt_of_lt_of_le (by simp) hb1.size
      have B1 := Lib.hid (B0.out.trans (hb1.mono B0.out.size))
      clear hb1 L0 M0 S0 P0 cW B0
      go_wp2_with fail
      refine (assigned_any N A C n c k0 e0 _ l sl (by omega) (by omega) hn hk H4.out L1.out S1.out).mono ?_
      rw [HI.out]
      rintro e w2 ⟨rfl, hb2⟩
      have L2 := Lib.hid (L1.out.keep hb2)
      have M2 := Lib.hid (M1.out.keep hb2)
      have S2 := Lib.hid (S1.out.keep hb2)
      have P2 := Lib.hid (P1.out.keep hb2)
      have c2 := Lib.hid ((hb2.cell (p := ⟨w.heap.size, 0, none⟩) z1).trans c1.out)
      have z2 : w.heap.size < w2.heap.size := Nat.lt_of_lt_of_le z1 hb2.size
      have B2 := Lib.hid (B1.out.trans (hb2.mono B1.out.size))
      clear hb2 L1 M1 S1 P1 c1 z1 B1
      go_wp2_with fail
      refine (table_value A B n c m d w2 l ws w.heap.size W p pc wn hp z2 c2.out P2.out hn hm L2.out M2.out HWO.out).mono ?_
      rintro e w3 ⟨gt, rfl, hgt, ht, hb3⟩
      have HT := Lib.hid ht
      have S3 := Lib.hid (S2.out.keep hb3)
      have B3 := Lib.hid (B2.out.trans (hb3.mono B2.out.size))
      have hgt3 := ht.lt
      clear ht hb3 L2 M2 S2 P2 c2
      go_wp2_with fail
      go_loopw [14, 36] (fun a i wr => ∃ (k : Nat) (acc : Int), k ≤ k0 ∧ i = .int .i64 k ∧ a = .int .i64 acc ∧ 0 ≤ acc ∧ acc ≤ k * 1099511627776 ∧ Eqn (worthS ws wn sl) (acc + worthS ws wn (sl.drop k)) ∧ Below w3.heap.size w3 wr) (fun _ i _ => k0 - (intOf i).toNat)
      case atStart => exact ⟨0, 0, Nat.zero_le _, rfl, rfl, by omega, by omega, by rw [Eqn, List.drop_zero, Int.zero_add], Below.refl _ _⟩
      case round =>
        obtain ⟨k, acc, hk', rfl, rfl, a0, a1, HR, HW⟩ := hrel
        have HWW := Lib.hid HW
        by_cases hlt : k < k0
        · obtain ⟨x, hx, hxd⟩ := drop_at (xs := sl) (k := k) (by rw [Hsl.out]; exact hlt)
          obtain ⟨g, off, rfl, hg, hc⟩ := (S3.out.below HW).2 (by omega)
          have y0 := hc k x hx 0 (by omega)
          have y1 := hc k x hx 1 (by omega)
          have y2 := hc k x hx 2 (by omega)
          simp only [Slot.cell, Nat.add_zero] at y0 y1 y2
          obtain ⟨cc, hcc, hcw, hx0, hxN⟩ := HIS.out.2 k x hx
          have hcb := H4.out cc (List.mem_of_getElem? hcc)
          obtain ⟨s, hs⟩ := Int.eq_ofNat_of_zero_le hx0
          have s12 : s < 12 := by omega
          have hkn : k < n := by rw [← Hlen.out]; exact (List.getElem?_eq_some_iff.1 hcc).1
          have hfb := HBD.out x.win s
          have HR' : Eqn (worthS ws wn sl) (acc + fuOf ws wn x.win s + worthS ws wn (sl.drop (k + 1))) := by
            have := HR.out; rw [hxd, worthS, hs, Int.toNat_natCast] at this; rw [Eqn, this]; omega
          have tc := (HT.out.keep HW).cell (tabL_at (show k * 12 + s < n * 12 by omega))
          have htl := HTL.out k cc hcc s
          rw [show (k * 12 + s) / 12 = k by omega, show (k * 12 + s) % 12 = s by omega, htl, wishD_zero, ← hcw] at tc
          change _ = some (Value.int .i64 (fuOf ws wn x.win s)) at tc
          rw [hs] at y1
          have j0 : (k : Int) < (k0 : Int) := by omega
          have j1 : (k : Int) < (n : Int) := by omega
          have j2 : (s : Int) < 12 := by omega
          obtain ⟨fv, hfv⟩ : ∃ fv, fuOf ws wn x.win s = fv := ⟨_, rfl⟩
          rw [hfv] at hfb HR' tc
          obtain ⟨f0, f1⟩ := hfb
          have hws := HW.size
          have hgs : g < wr.heap.size := by omega
          have hgts : gt < wr.heap.size := by omega
          have hww : IntKind.i64.wrap (acc + fv) = acc + fv := IntWalk.i64_in _ (by omega)
          clear hc hx hxd HR HW hs hfv htl hcc hcw
          go_wp2_with fail
          refine Lx.region (C := fun _ => True) (hs := []) (by kernel_rfl) (by kernel_rfl) trivial ?_
          repeat' (first
            | (refine Lx.lex_no (Lx.n1 rfl rfl rfl (by with_reducible rfl)) (fun K hK => ?_); go_simp; refine hK _ ?_; clear hK K)
            | (refine Lx.lex_no (Lx.n0 rfl rfl rfl (by with_reducible rfl)) (fun K hK => ?_); go_simp; refine hK _ ?_; clear hK K)
            | (refine Lx.lex_no (Lx.n2 rfl rfl rfl) (fun K hK => ?_); go_simp; refine hK _ ?_; clear hK K)
            | (refine Lx.lex_pure (v := ?_) rfl (by first | exact Lx.w0 rfl | exact Lx.w1 rfl rfl rfl (by with_reducible rfl)) ?_ (fun K hK => ?_); rotate_left 1; (intro w' hCw; (try dsimp only at hCw); go_simp; done); go_simp; refine hK _ ?_; clear hK K)
            | (refine Lx.lex_pure (v := ?_) rfl (by first | exact Lx.w0 rfl | exact Lx.w1 rfl rfl rfl (by with_reducible rfl)) ?_ (fun K hK => ?_); rotate_left 1; (intro w' hCw; (try dsimp only at hCw); go_simp; with_reducible rfl); go_simp; refine hK _ ?_; clear hK K)
            | (refine Lx.lex_read (v := ?_) rfl (by first | exact Lx.w0 rfl | exact Lx.w1 rfl rfl rfl (by with_reducible rfl)) ?_ (fun K hK => ?_); rotate_left 1; (go_simp; done); go_simp; refine hK _ ?_; clear hK K)
            | (refine Lx.lex_read (v := ?_) rfl (by first | exact Lx.w0 rfl | exact Lx.w1 rfl rfl rfl (by with_reducible rfl)) ?_ (fun K hK => ?_); rotate_left 1; (go_simp; with_reducible rfl); go_simp; refine hK _ ?_; clear hK K)
            | (refine Lx.lex_eff rfl (by first | exact Lx.w0 rfl | exact Lx.w1 rfl rfl rfl (by with_reducible rfl)) (fun K hK => ?_); go_simp; (first | fail | skip); refine hK _ _ (trivial) ?_; clear hK K)
            | (refine Lx.lex_cases rfl rfl rfl (fun hgd K hK => ?_) (fun hgd K hK => ?_) <;> (try simp only [decide_eq_true_eq, decide_eq_false_iff_not] at hgd) <;> (first | (exfalso; omega) | (go_simp; refine hK _ ?_; clear hK K))))
          all_goals (refine Lx.lex_nil ?_)
          clear hww
          go_wp2_with fail
          go_roundw
          case rel => exact ⟨k + 1, acc + fv, by omega, by go_num, rfl, by omega, by omega, HR', (HWW.out.alloc hws _).drew⟩
          case measure => simp [intOf]; omega
        · have HB : Eqn (worthS ws wn sl) acc := by
            rw [Eqn, HR.out, drop_end (by rw [Hsl.out]; omega), worthS, Int.add_zero]
          have B9 := Lib.hid (B3.out.trans (HW.mono B3.out.size))
          clear HW HR
          go_wp2_with fail
          go_ret2
          rw [HF.out, HB.out]
          exact ⟨rfl, B9.out⟩
  · have HF : Eqn (valueF b l ws sl wn) (0, ck) := by unfold valueF; rw [if_neg (by rw [hck]; exact h0), hck]; rfl
    have t0 : (ck != 0) = true := by simpa using h0
    clear hck h0
    go_enter Try.func29, Try.ntmps29
    go_wp2_with fail
    refine (checked_any b A B W n c m d p pc _ l ws wn hn hp L0.out hm M0.out P0.out).mono ?_
    rw [HCK.out]
    rintro e w1 ⟨rfl, hb1⟩
    have B1 := Lib.hid (B0.out.trans (hb1.mono B0.out.size))
    clear hb1
    go_wp2_with fail
    go_ret2
    rw [HF.out]
    exact ⟨rfl, B1.out⟩
end Go.Proofs.Yteckijkmcafpaaa
