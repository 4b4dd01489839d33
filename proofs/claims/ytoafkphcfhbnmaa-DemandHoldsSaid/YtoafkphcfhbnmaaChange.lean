/- Contract of demand.Change. -/
import Derived.Test.YtoafkphcfhbnmaaSlices
import Derived.Lib.SmallJoins
import Derived.Laws.OwnMore
namespace Go.Proofs.Ytoafkphcfhbnmaa
open Go.RowKit

/-- a changed demand and an error -/
def chF (l : List Prod) (bs : List Int) (i ch : Int) : List Int × Int :=
  if dValid l bs = true ∧ 0 ≤ i ∧ i < l.length then
    if ch < -(bs.getD i.toNat 0) ∨ (l.getD i.toNat ⟨0, 0, 0, 0, 0⟩).sup - bs.getD i.toNat 0 < ch then ([], 3) else (bs.set i.toNat (bs.getD i.toNat 0 + ch), 0)
  else ([], 2)

/-- numbers in a slice of their own are returned, and an error -/
def ListPost (r : List Int × Int) (w : World) (e : Ending) (w' : World) : Prop :=
  ∃ v, e = .returned (.tuple #[v, .int .i64 r.2]) ∧ w'.ownsRow w.heap.size 3 1 v r.1.length (r.1.map intV) ∧ Below w.heap.size w w'

/-- what is known of a demand at a product -/
theorem dValid_at {l : List Prod} {bs : List Int} (h : dValid l bs = true) {k : Nat} (hk : k < l.length) : ∃ p y, l[k]? = some p ∧ bs[k]? = some y ∧ l.getD k ⟨0, 0, 0, 0, 0⟩ = p ∧ bs.getD k 0 = y ∧ bs.length = l.length ∧
    0 ≤ y ∧ y ≤ p.sup ∧ p.sup ≤ 12 ∧ 1 ≤ p.units ∧ p.units ≤ 100000 := by
  unfold dValid at h
  rw [Bool.and_eq_true] at h
  obtain ⟨h1, h2⟩ := h
  obtain ⟨h5, h6⟩ := fitsF_spec l bs h2
  have hk' : k < bs.length := by omega
  have hp : l[k]? = some l[k] := List.getElem?_eq_getElem hk
  have hy : bs[k]? = some bs[k] := List.getElem?_eq_getElem hk'
  have h7 := h6 k _ _ hp hy
  have h9 := prodValid_ok h1 _ (List.mem_of_getElem? hp)
  unfold badP at h9
  refine ⟨_, _, hp, hy, by rw [List.getD_eq_getElem?_getD, hp]; rfl, by rw [List.getD_eq_getElem?_getD, hy]; rfl, by omega, ?_⟩
  omega

set_option maxHeartbeats 1000000 in
theorem change_any (A B : Option Addr) (n c m d : Nat) (i ch : Int) (w : World) (l : List Prod) (bs : List Int) (_ : I64 ch) (hn : n ≤ 140) (hl : RowS 5 Prod.cell w w.heap.size A n l) (hb : Row1 intV w w.heap.size B m bs) :
    Calls Try.prog 26 #[.slice A n c, .slice B m d, .int .i64 i, .int .i64 ch] w (ListPost (chF l bs i ch) w) := by
  have Hlen := Eqn.mk hl.1
  have Hblen := Eqn.mk hb.1
  have Hl := Lib.hid hl
  have Hb := Lib.hid hb
  clear hl hb
  rename_i hch; unfold I64 at hch
  by_cases hg : dValid l bs = true ∧ 0 ≤ i ∧ i < (n : Int)
  · obtain ⟨hv, hi0, hi1⟩ := hg
    have HV := Eqn.mk hv
    obtain ⟨k, rfl⟩ := Int.eq_ofNat_of_zero_le hi0
    have hkn : k < n := by omega
    obtain ⟨p, y, hp, hy, hp', hy', hll, b0, b1, b2, b3, b4⟩ := dValid_at hv (k := k) (by rw [Hlen.out]; exact hkn)
    have hmn : m = n := by rw [← Hlen.out, ← Hblen.out]; exact hll
    subst hmn
    have hF : Eqn (chF l bs k ch) (if ch < -y ∨ p.sup - y < ch then ([], 3) else (bs.set k (y + ch), 0)) := by
      unfold chF Eqn; rw [if_pos ⟨hv, by omega, by rw [Hlen.out]; omega⟩, Int.toNat_natCast, hp', hy']
    have HP := Lib.hid hp
    have HY := Lib.hid hy
    have j0 : ¬ (k : Int) < 0 := by omega
    have j1 : ¬ (m : Int) ≤ (k : Int) := by omega
    have j2 : (k : Int) < (m : Int) := by omega
    clear hv hp hy hp' hy' hll hi0 hi1
    go_enter Try.func26, Try.ntmps26
    go_wp2_with fail
    refine (dValid_any A B m c m d _ l bs hn Hl.out Hb.out).mono ?_
    rw [HV.out]
    rintro e w1 ⟨rfl, hb1⟩
    have B1 := Lib.hid hb1
    obtain ⟨b, off, rfl, hbl, hc⟩ := (Hl.out.below hb1).2 (by omega)
    obtain ⟨b', off', rfl, hbl', hc'⟩ := (Hb.out.below hb1).2 (by omega)
    have c2 := hc k p HP.out 2 (by omega)
    have c5 := hc' k y HY.out
    simp only [Prod.cell, intV] at c2 c5
    have e1 : IntKind.i64.wrap (-y) = -y := by rw [IntKind.wrap_i64]; omega
    have e2 : IntKind.i64.wrap (p.sup - y) = p.sup - y := by rw [IntKind.wrap_i64]; omega
    have hz0 : (0 : Int) ≤ (k : Int) := by omega
    clear hc hc' hb1
    go_wp2_with fail
    refine Lx.region (C := fun _ => True) (hs := []) (by kernel_rfl) (by kernel_rfl) trivial ?_
    repeat' (first
      | (refine Lx.lex_no (Lx.n1 rfl rfl rfl (by with_reducible rfl)) (fun K hK => ?_); go_simp; refine hK _ ?_; clear hK K)
      | (refine Lx.lex_no (Lx.n0 rfl rfl rfl (by with_reducible rfl)) (fun K hK => ?_); go_simp; refine hK _ ?_; clear hK K)
      | (refine Lx.lex_no (Lx.n2 rfl rfl rfl) (fun K hK => ?_); go_simp; refine hK _ ?_; clear hK K)
      | (refine Lx.lex_pure (v := ?_) rfl (by first | exact Lx.w0 rfl | exact Lx.w1 rfl rfl rfl (by with_reducible rfl)) ?_ (fun K hK => ?_); rotate_left 1; (intro w' hCw; (try dsimp only at hCw); go_simp; done); go_simp; refine hK _ ?_; clear hK K)
      | (refine Lx.lex_pure (v := ?_) rfl (by first | exact Lx.w0 rfl | exact Lx.w1 rfl rfl rfl (by with_reducible rfl)) ?_ (fun K hK => ?_); rotate_left 1; (intro w' hCw; (try dsimp only at hCw); go_simp; with_reducible rfl); go_simp; refine hK _ ?_; clear hK K)
      | (refine Lx.lex_read (v := ?_) rfl (by first | exact Lx.w0 rfl | exact Lx.w1 rfl rfl rfl (by with_reducible rfl)) ?_ (fun K hK => ?_); rotate_left 1; (go_simp; done); go_simp; refine hK _ ?_; clear hK K)
      | (refine Lx.lex_read (v := ?_) rfl (by first | exact Lx.w0 rfl | exact Lx.w1 rfl rfl rfl (by with_reducible rfl)) ?_ (fun K hK => ?_); rotate_left 1; (go_simp; with_reducible rfl); go_simp; refine hK _ ?_; clear hK K)
      | (refine Lx.lex_eff rfl (by first | exact Lx.w0 rfl | exact Lx.w1 rfl rfl rfl (by with_reducible rfl)) (fun K hK => ?_); go_simp; (first | fail | skip); refine hK _ _ (trivial) ?_; clear hK K)
      | (refine Lx.lex_cases rfl rfl rfl (fun hgd K hK => ?_) (fun hgd K hK => ?_) <;> (try simp only [decide_eq_true_eq, decide_eq_false_iff_not] at hgd) <;> (first | (exfalso; omega) | (go_simp; refine hK _ ?_; clear hK K))))
    all_goals (refine Lx.lex_nil ?_)
    all_goals clear e1 e2
    all_goals go_wp2_with fail
    · go_ret2
      rw [hF.out, if_pos (by omega)]
      exact ⟨_, rfl, World.ownsRow_nil _ _ _ _, B1.out.drew⟩
    · go_ret2
      rw [hF.out, if_pos (by omega)]
      exact ⟨_, rfl, World.ownsRow_nil _ _ _ _, B1.out.drew⟩
    · refine (clone_any (some ⟨b', off', none⟩) m d _ bs (by omega) (by exact Hb.out.keep B1.out.drew)).mono ?_
      rintro e w2 ⟨v, rfl, hown, hb2⟩
      obtain ⟨g, cp, rfl⟩ := Joins.ownsRow_form hown (by rw [Hblen.out]; omega)
      have c7 : w2.cell? ⟨g, k, none⟩ = some (.int .i64 y) := (hown.cellAt k (by rw [Hblen.out]; omega)).trans (by simp [HY.out, intV])
      have f7 := hown.frozenAt k
      have hst := Lib.hid (hown.stored k (.int .i64 (y + ch))).1
      have hgl := hown.lt g rfl
      have B2 : Hid (Below w.heap.size w w2) := B1.out.drew.trans (hb2.mono (by exact B1.out.size))
      have j3 : (k : Int) < (bs.length : Int) := by rw [Hblen.out]; exact j2
      have hs1 := B1.out.size
      have hgl1 : w1.heap.size ≤ g := hgl.1
      have hgl2 : g < w2.heap.size := hgl.2
      clear hown hb2 hgl
      go_wp2
      go_ret2
      rw [hF.out, if_neg (by omega)]
      refine ⟨_, rfl, ?_, B2.out.setCell (by simp; omega) _⟩
      have := hst.out
      rw [List.length_set, List.map_set]
      exact Joins.ownsRow_le this hs1
  · have hF : Eqn (chF l bs i ch) ([], 2) := by
      unfold chF Eqn; rw [if_neg (by rw [Hlen.out]; exact hg)]
    cases hv : dValid l bs with
    | false =>
      have HV := Eqn.mk hv
      clear hv hg
      go_enter Try.func26, Try.ntmps26
      go_wp2_with fail
      refine (dValid_any A B n c m d _ l bs hn Hl.out Hb.out).mono ?_
      rw [HV.out]
      rintro e w1 ⟨rfl, hb1⟩
      have B1 := Lib.hid hb1
      clear hb1
      go_wp2_with fail
      go_ret2
      rw [hF.out]
      exact ⟨_, rfl, World.ownsRow_nil _ _ _ _, B1.out⟩
    | true =>
      have HV := Eqn.mk hv
      have hi : i < 0 ∨ (n : Int) ≤ i := by
        by_cases h1 : i < 0
        · exact .inl h1
        · right; apply Int.not_lt.1; intro h2; exact hg ⟨hv, by omega, h2⟩
      clear hv hg
      go_enter Try.func26, Try.ntmps26
      go_wp2_with fail
      refine (dValid_any A B n c m d _ l bs hn Hl.out Hb.out).mono ?_
      rw [HV.out]
      rintro e w1 ⟨rfl, hb1⟩
      have B1 := Lib.hid hb1
      clear hb1
      rcases hi with hi | hi
      all_goals
        go_wp2_with fail
        all_goals
          go_ret2
          rw [hF.out]
          exact ⟨_, rfl, World.ownsRow_nil _ _ _ _, B1.out⟩
end Go.Proofs.Ytoafkphcfhbnmaa
