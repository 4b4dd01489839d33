/- Contracts of room, Room, Limit. -/
import Derived.Test.YtjbhflhlicefbaaActE
namespace Go.Proofs.Ytjbhflhlicefbaa
open Go.RowKit

def roomN (p : Prod) (x : Bidr) (y u : Int) : Int := if (x.elig - u) / p.units < p.sup - y then (x.elig - u) / p.units else p.sup - y

theorem room_any (A : Option Addr) (n c k : Nat) (w : World) (D : Nat) (l : List Prod) (x : Bidr) (u : Int) (p : Prod) (y : Int) (hn : n ≤ 140) (hl : RowS 5 Prod.cell w D A n l) (hx : Row1 intV w D x.adr x.len x.blocks)
    (hp : l[k]? = some p) (hy : x.blocks[k]? = some y) (hD : D ≤ w.heap.size) (b0 : 0 ≤ y) (b1 : y ≤ p.sup) (b2 : p.sup ≤ 12) (b3 : 1 ≤ p.units) (b4 : p.units ≤ 100000) (b5 : 0 ≤ u) (b6 : u ≤ x.elig) (b7 : x.elig ≤ 76800000) :
    Calls Try.prog 31 #[.agg #[.int .i64 x.id, .int .i64 x.elig, .int .i64 x.waiv, .slice x.adr x.len x.cap, .int .i64 u], .slice A n c, .int .i64 k] w (RetPost (.int .i64 (roomN p x y u)) w.heap.size w) := by
  have hkn : k < n := by rw [← hl.1]; exact (List.getElem?_eq_some_iff.1 hp).1
  have hkl : k < x.len := by rw [← hx.1]; exact (List.getElem?_eq_some_iff.1 hy).1
  obtain ⟨b, off, rfl, hbl, hc⟩ := hl.2 (by omega)
  obtain ⟨b', off', hadr, hbl', hc'⟩ := hx.2 (by omega)
  have c0 := hc k p hp 0 (by omega)
  have c1 := hc k p hp 1 (by omega)
  have c2 := hc k p hp 2 (by omega)
  have c3 := hc k p hp 3 (by omega)
  have c4 := hc k p hp 4 (by omega)
  have c5 := hc' k y hy
  simp only [Prod.cell, intV, Nat.add_zero] at c0 c1 c2 c3 c4 c5
  obtain ⟨xi, xe, xw, xa, xl, xc, xb⟩ := x
  dsimp only at *
  subst hadr
  have hz : (p.units == 0) = false := by simp; omega
  have hq1 : (0 : Int) ≤ (xe - u) / p.units := Int.ediv_nonneg (by omega) (by omega)
  have hq2 : (xe - u) / p.units ≤ xe - u := Int.ediv_le_self _ (by omega)
  have hk0 : (0 : Int) ≤ (k : Int) := by omega
  have hk1 : (k : Int) < (n : Int) := by omega
  have hk2 : (k : Int) < (xl : Int) := by omega
  have hbs : b < w.heap.size := by omega
  have hbs' : b' < w.heap.size := by omega
  have e1 : IntKind.i64.wrap (p.sup - y) = p.sup - y := by rw [IntKind.wrap_i64]; omega
  have e3 : IntKind.i64.wrap ((xe - u).tdiv p.units) = (xe - u) / p.units := IntWalk.i64_quo _ _ (by omega)
  have hz' : ¬ p.units = 0 := by omega
  have e2 : IntKind.i64.wrap (xe - u) = xe - u := by rw [IntKind.wrap_i64]; omega
  clear hc hc' hp hy hl hx
  go_enter Try.func31, Try.ntmps31
  go_wp2
  refine Lx.region (C := fun _ => True) (hs := []) (by kernel_rfl) (by kernel_rfl) trivial ?_
  repeat' (first
    | (refine Lx.lex_no (Lx.n1 rfl rfl rfl (by with_reducible rfl)) (fun K hK => ?_); go_simp; refine hK _ ?_; clear hK K)
    | (refine Lx.lex_no (Lx.n0 rfl rfl rfl (by with_reducible rfl)) (fun K hK => ?_); go_simp; refine hK _ ?_; clear hK K)
    | (refine Lx.lex_no (Lx.n2 rfl rfl rfl) (fun K hK => ?_); go_simp; refine hK _ ?_; clear hK K)
    | (refine Lx.lex_pure (v := ?_) rfl (by first | exact Lx.w0 rfl | exact Lx.w1 rfl rfl rfl (by with_reducible rfl)) ?_ (fun K hK => ?_); rotate_left 1; (intro w' hCw; (try dsimp only at hCw); go_simp; done); go_simp; refine hK _ ?_; clear hK K)
    | (refine Lx.lex_pure (v := ?_) rfl (by first | exact Lx.w0 rfl | exact Lx.w1 rfl rfl rfl (by with_reducible rfl)) ?_ (fun K hK => ?_); rotate_left 1; (intro w' hCw; (try dsimp only at hCw); go_simp; with_reducible rfl); go_simp; refine hK _ ?_; clear hK K)
    | (refine Lx.lex_read (v := ?_) rfl (by first | exact Lx.w0 rfl | exact Lx.w1 rfl rfl rfl (by with_reducible rfl)) ?_ (fun K hK => ?_); rotate_left 1; (go_simp; done); go_simp; refine hK _ ?_; clear hK K)
    | (refine Lx.lex_read (v := ?_) rfl (by first | exact Lx.w0 rfl | exact Lx.w1 rfl rfl rfl (by with_reducible rfl)) ?_ (fun K hK => ?_); rotate_left 1; (go_simp; with_reducible rfl); go_simp; refine hK _ ?_; clear hK K)
    | (refine Lx.lex_eff rfl (by first | exact Lx.w0 rfl | exact Lx.w1 rfl rfl rfl (by with_reducible rfl)) (fun K hK => ?_); go_simp; (first | fail | skip); refine hK _ _ (trivial) ?_; clear hK K)
    | (refine Lx.lex_cases rfl rfl rfl (fun hgd K hK => ?_) (fun hgd K hK => ?_) <;> (try simp only [decide_eq_true_eq, decide_eq_false_iff_not] at hgd) <;> (first | (exfalso; omega) | (go_simp; refine hK _ ?_; clear hK K))))
  all_goals (refine Lx.lex_nil ?_)
  go_wp2
  all_goals
    go_ret
    refine ⟨ret_int ?_, (((Below.refl _ _).alloc (Nat.le_refl _) _).alloc (by simp) _).drew⟩
    clear e1 e2 e3
    unfold roomN
    dsimp only
    first
      | (rw [if_pos (by omega)]; done)
      | (rw [if_neg (by omega)]; done)

/-- Room: product is an int -/
def roomF (l : List Prod) (x : Bidr) (i : Int) : Int × Int :=
  if vBidders l [x] = true ∧ 0 ≤ i ∧ i < l.length then (roomN (l.getD i.toNat ⟨0, 0, 0, 0, 0⟩) x (x.blocks.getD i.toNat 0) (unitsF l x.blocks), 0) else (0, 2)

/-- what is known of a valid bidder at a product -/
theorem valid_at {l : List Prod} {x : Bidr} (h : vBidders l [x] = true) {k : Nat} (hk : k < l.length) : ∃ p y, l[k]? = some p ∧ x.blocks[k]? = some y ∧ l.getD k ⟨0, 0, 0, 0, 0⟩ = p ∧ x.blocks.getD k 0 = y ∧
    0 ≤ y ∧ y ≤ p.sup ∧ p.sup ≤ 12 ∧ 1 ≤ p.units ∧ p.units ≤ 100000 ∧ 0 ≤ unitsF l x.blocks ∧ unitsF l x.blocks ≤ x.elig ∧ x.elig ≤ 76800000 := by
  obtain ⟨h1, h2, h3, h4⟩ := vBidders_one h
  obtain ⟨h5, h6⟩ := fitsF_spec l x.blocks h2
  have hs := sane_of h1 h2
  have hu := unitsGo_le l x.blocks 0 hs
  have hk' : k < x.blocks.length := by omega
  have hp : l[k]? = some l[k] := List.getElem?_eq_getElem hk
  have hy : x.blocks[k]? = some x.blocks[k] := List.getElem?_eq_getElem hk'
  have h7 := h6 k _ _ hp hy
  have h8 := hs.2 k _ _ hp hy
  have h9 := prodValid_ok h1 _ (List.mem_of_getElem? hp)
  unfold badP at h9
  unfold badB at h4
  refine ⟨_, _, hp, hy, by rw [List.getD_eq_getElem?_getD, hp]; rfl, by rw [List.getD_eq_getElem?_getD, hy]; rfl, ?_⟩
  unfold unitsF at h3 ⊢
  omega

theorem Room_any (A : Option Addr) (n c : Nat) (i : Int) (w : World) (l : List Prod) (x : Bidr) (hn : n ≤ 140) (hl : RowS 5 Prod.cell w w.heap.size A n l) (hx : Row1 intV w w.heap.size x.adr x.len x.blocks) :
    Calls Try.prog 16 #[.slice A n c, x.val, .int .i64 i] w (RetPost (v2 (roomF l x i)) w.heap.size w) := by
  have hlen := hl.1
  have Hlen := Eqn.mk hlen
  have Hl := Lib.hid hl
  have Hx := Lib.hid hx
  clear hl hx
  have hxv : Eqn x.val (.agg #[.int .i64 x.id, .int .i64 x.elig, .int .i64 x.waiv, .slice x.adr x.len x.cap]) := rfl
  unfold Bidr.val
  have hL : Hid (Below w.heap.size w (w.alloc (.cells #[.int .i64 x.id, .int .i64 x.elig, .int .i64 x.waiv, .slice x.adr x.len x.cap] 40))) := (Below.refl _ _).alloc (Nat.le_refl _) _
  cases hv : vBidders l [x] with
  | true =>
    have HV := Eqn.mk hv
    have hH : Eqn (holdV l x) (.tuple #[.agg #[.int .i64 x.id, .int .i64 x.elig, .int .i64 x.waiv, .slice x.adr x.len x.cap, .int .i64 (unitsF l x.blocks)], .bool true]) := by
      unfold holdV Eqn; rw [hv]; rfl
    by_cases hi : 0 ≤ i ∧ i ≤ (n : Int) - 1
    · have w1 := winB_true hi.1 hi.2
      obtain ⟨k, rfl⟩ := Int.eq_ofNat_of_zero_le hi.1
      obtain ⟨p, y, hp, hy, hp', hy', b0, b1, b2, b3, b4, b5, b6, b7⟩ := valid_at hv (k := k) (by omega)
      have hF : Eqn (roomF l x k) (roomN p x y (unitsF l x.blocks), 0) := by
        unfold roomF Eqn; rw [if_pos ⟨hv, by omega, by omega⟩, Int.toNat_natCast, hp', hy']
      have HP := Lib.hid hp
      have HY := Lib.hid hy
      have hB := Lib.hid (And.intro b0 (And.intro b1 (And.intro b2 (And.intro b3 (And.intro b4 (And.intro b5 (And.intro b6 b7)))))))
      have e1 : IntKind.i64.wrap ((n : Int) - 1) = (n : Int) - 1 := by rw [IntKind.wrap_i64]; omega
      clear hv hp hy hp' hy' b0 b1 b2 b3 b4 b5 b6 b7 hi hlen
      go_enter Try.func16, Try.ntmps16
      go_wp2_with fail
      refine (hold_any A n c _ l x hn (by exact Hl.out.keep hL.out) (by exact Hx.out.keep hL.out)).mono ?_
      rw [hH.out]
      rintro e w1 ⟨rfl, hb1⟩
      have hW1 : Hid (Below w.heap.size w w1) := hL.out.trans (hb1.mono (by simp))
      clear hb1
      go_wp2_with (go_at_call 26; refine (awithin_any _ _ _ _).mono ?_; rintro e w' ⟨rfl, rfl⟩)
      have hl2 : Hid (Below w.heap.size w (w1.alloc (.cells #[.int .i64 x.id, .int .i64 x.elig, .int .i64 x.waiv, .slice x.adr x.len x.cap, .int .i64 (unitsF l x.blocks)] 64))) := hW1.out.alloc hW1.out.size _
      refine (room_any A n c k _ w.heap.size l x (unitsF l x.blocks) p y hn (by exact Hl.out.below hl2.out) (by exact Hx.out.below hl2.out) HP.out HY.out (by exact hl2.out.size) hB.out.1 hB.out.2.1 hB.out.2.2.1 hB.out.2.2.2.1 hB.out.2.2.2.2.1 hB.out.2.2.2.2.2.1 hB.out.2.2.2.2.2.2.1 hB.out.2.2.2.2.2.2.2).mono ?_
      rintro e w2 ⟨rfl, hb2⟩
      go_wp2
      go_ret2
      exact ⟨by rw [hF.out]; rfl, hl2.out.trans (hb2.mono (by have := hl2.out.size; exact this))⟩
    · have w1 := winB_false hi
      have hF : Eqn (roomF l x i) (0, 2) := by
        unfold roomF Eqn; rw [if_neg (by omega)]
      have e1 : IntKind.i64.wrap ((n : Int) - 1) = (n : Int) - 1 := by rw [IntKind.wrap_i64]; omega
      clear hv hi hlen
      go_enter Try.func16, Try.ntmps16
      go_wp2_with fail
      refine (hold_any A n c _ l x hn (by exact Hl.out.keep hL.out) (by exact Hx.out.keep hL.out)).mono ?_
      rw [hH.out]
      rintro e w1 ⟨rfl, hb1⟩
      have hW1 : Hid (Below w.heap.size w w1) := hL.out.trans (hb1.mono (by simp))
      clear hb1
      go_wp2_with (go_at_call 26; refine (awithin_any _ _ _ _).mono ?_; rintro e w' ⟨rfl, rfl⟩)
      go_ret2
      exact ⟨by rw [hF.out]; rfl, hW1.out.alloc hW1.out.size _⟩
  | false =>
    have hH : Eqn (holdV l x) (.tuple #[.agg #[.int .i64 0, .int .i64 0, .int .i64 0, .slice none 0 0, .int .i64 0], .bool false]) := by
      unfold holdV Eqn; rw [hv]; rfl
    have hF : Eqn (roomF l x i) (0, 2) := by
      unfold roomF Eqn; rw [if_neg (by rw [hv]; simp)]
    clear hv hlen
    go_enter Try.func16, Try.ntmps16
    go_wp2_with fail
    refine (hold_any A n c _ l x hn (by exact Hl.out.keep hL.out) (by exact Hx.out.keep hL.out)).mono ?_
    rw [hH.out]
    rintro e w1 ⟨rfl, hb1⟩
    have hW1 : Hid (Below w.heap.size w w1) := hL.out.trans (hb1.mono (by simp))
    clear hb1
    go_wp2_with (go_at_call 26; refine (awithin_any _ _ _ _).mono ?_; rintro e w' ⟨rfl, rfl⟩)
    go_ret2
    exact ⟨by rw [hF.out]; rfl, hW1.out.alloc hW1.out.size _⟩
end Go.Proofs.Ytjbhflhlicefbaa
