/- Contracts of Limit, of the program and of the reference. -/
import Derived.Test.YtjbhflhlicefbaaActG
namespace Go.Proofs.Ytjbhflhlicefbaa
open Go.RowKit

/-- Limit -/
def limN (rm y ch : Int) : Int := if rm < ch then rm else if ch < -y then -y else ch
def limF (l : List Prod) (x : Bidr) (i ch : Int) : Int × Int :=
  if vBidders l [x] = true ∧ 0 ≤ i ∧ i < l.length then (limN (roomF l x i).1 (x.blocks.getD i.toNat 0) ch, 0) else (0, 2)

theorem roomN_ge (p : Prod) (x : Bidr) (y u : Int) (h1 : y ≤ p.sup) (h2 : u ≤ x.elig) (h3 : 1 ≤ p.units) : 0 ≤ roomN p x y u ∧ roomN p x y u ≤ p.sup - y := by
  have hq : (0 : Int) ≤ (x.elig - u) / p.units := Int.ediv_nonneg (by omega) (by omega)
  unfold roomN
  split <;> omega

set_option maxHeartbeats 1000000 in
theorem Limit_any (A : Option Addr) (n c : Nat) (i ch : Int) (w : World) (l : List Prod) (x : Bidr) (hn : n ≤ 140) (hl : RowS 5 Prod.cell w w.heap.size A n l) (hx : Row1 intV w w.heap.size x.adr x.len x.blocks) :
    Calls Try.prog 18 #[.slice A n c, x.val, .int .i64 i, .int .i64 ch] w (RetPost (v2 (limF l x i ch)) w.heap.size w) := by
  have hlen := hl.1
  have Hlen := Eqn.mk hlen
  have Hl := Lib.hid hl
  have Hx := Lib.hid hx
  clear hl hx
  unfold Bidr.val
  have hL : Hid (Below w.heap.size w (w.alloc (.cells #[.int .i64 x.id, .int .i64 x.elig, .int .i64 x.waiv, .slice x.adr x.len x.cap] 40))) := (Below.refl _ _).alloc (Nat.le_refl _) _
  cases hv : vBidders l [x] with
  | true =>
    have hH : Eqn (holdV l x) (.tuple #[.agg #[.int .i64 x.id, .int .i64 x.elig, .int .i64 x.waiv, .slice x.adr x.len x.cap, .int .i64 (unitsF l x.blocks)], .bool true]) := by
      unfold holdV Eqn; rw [hv]; rfl
    by_cases hi : 0 ≤ i ∧ i ≤ (n : Int) - 1
    · have w1 := winB_true hi.1 hi.2
      obtain ⟨k, rfl⟩ := Int.eq_ofNat_of_zero_le hi.1
      obtain ⟨p, y, hp, hy, hp', hy', b0, b1, b2, b3, b4, b5, b6, b7⟩ := valid_at hv (k := k) (by omega)
      have hro : roomF l x k = (roomN p x y (unitsF l x.blocks), 0) := by
        unfold roomF; rw [if_pos ⟨hv, by omega, by omega⟩, Int.toNat_natCast, hp', hy']
      have hF : Eqn (limF l x k ch) (limN (roomN p x y (unitsF l x.blocks)) y ch, 0) := by
        unfold limF Eqn; rw [if_pos ⟨hv, by omega, by omega⟩, Int.toNat_natCast, hy', hro]
      have hrg := roomN_ge p x y (unitsF l x.blocks) b1 b6 b3
      have HP := Lib.hid hp
      have HY := Lib.hid hy
      have hkl : k < x.len := by rw [← Hx.out.1]; exact (List.getElem?_eq_some_iff.1 hy).1
      have hB := Lib.hid (And.intro b0 (And.intro b1 (And.intro b2 (And.intro b3 (And.intro b4 (And.intro b5 (And.intro b6 b7)))))))
      have e1 : IntKind.i64.wrap ((n : Int) - 1) = (n : Int) - 1 := by rw [IntKind.wrap_i64]; omega
      have j0 : (0 : Int) ≤ (k : Int) := by omega
      have j1 : (k : Int) < (n : Int) := by omega
      have j2 : (k : Int) < (x.len : Int) := by omega
      have hkn : k < n := by omega
      clear hv hp hy hp' hy' b3 b4 b5 b6 b7 hi hlen hro
      by_cases hpos : 0 < ch
      · go_enter Try.func18, Try.ntmps18
        go_wp2_with fail
        refine (hold_any A n c _ l x hn (by exact Hl.out.keep hL.out) (by exact Hx.out.keep hL.out)).mono ?_
        rw [hH.out]
        rintro e w1 ⟨rfl, hb1⟩
        have hW1 : Hid (Below w.heap.size w w1) := hL.out.trans (hb1.mono (by simp))
        clear hb1
        go_wp2_with (go_at_call 26; refine (awithin_any _ _ _ _).mono ?_; rintro e w' ⟨rfl, rfl⟩)
        have hl2 : Hid (Below w.heap.size w (w1.alloc (.cells #[.int .i64 x.id, .int .i64 x.elig, .int .i64 x.waiv, .slice x.adr x.len x.cap, .int .i64 (unitsF l x.blocks)] 64))) := hW1.out.alloc hW1.out.size _
        refine (room_any A n c k _ w.heap.size l x (unitsF l x.blocks) p y hn (by exact Hl.out.below hl2.out) (by exact Hx.out.below hl2.out) HP.out HY.out (by exact hl2.out.size) hB.out.1 hB.out.2.1 hB.out.2.2.1 hB.out.2.2.2.1 hB.out.2.2.2.2.1 hB.out.2.2.2.2.2.1 hB.out.2.2.2.2.2.2.1 hB.out.2.2.2.2.2.2.2).mono ?_
        rintro e w2 ⟨rfl, hb2⟩
        have HW2 : Hid (Below w.heap.size w w2) := hl2.out.trans (hb2.mono (by have := hl2.out.size; exact this))
        clear hb2
        generalize roomN p x y (unitsF l x.blocks) = rm at *
        clear e1
        go_wp2
        all_goals
          go_ret2
          refine ⟨?_, HW2.out⟩
          rw [hF.out]
          unfold limN
          first
            | (rw [if_pos (by omega)]; done)
            | (rw [if_pos (by omega)]; rfl)
            | (rw [if_neg (by omega), if_neg (by omega)]; rfl)
      · go_enter Try.func18, Try.ntmps18
        go_wp2_with fail
        refine (hold_any A n c _ l x hn (by exact Hl.out.keep hL.out) (by exact Hx.out.keep hL.out)).mono ?_
        rw [hH.out]
        rintro e w1 ⟨rfl, hb1⟩
        have hW1 : Hid (Below w.heap.size w w1) := hL.out.trans (hb1.mono (by simp))
        clear hb1
        obtain ⟨b', off', hadr, hbl', hc'⟩ := (Hx.out.below hW1.out).2 (by omega)
        have c5 := hc' k y HY.out
        simp only [intV] at c5
        have hbs : b' < w1.heap.size := by have := hW1.out.size; omega
        rw [hadr]
        clear hc'
        go_wp2_with (go_at_call 26; refine (awithin_any _ _ _ _).mono ?_; rintro e w' ⟨rfl, rfl⟩)
        generalize roomN p x y (unitsF l x.blocks) = rm at *
        clear e1
        all_goals
          go_ret2
          refine ⟨?_, hW1.out.alloc hW1.out.size _⟩
          rw [hF.out]
          unfold limN
          first
            | (rw [if_neg (by omega), if_pos (by omega)]; rfl)
            | (rw [if_neg (by omega), if_neg (by omega)]; rfl)
    · have w1 := winB_false hi
      have hF : Eqn (limF l x i ch) (0, 2) := by
        unfold limF Eqn; rw [if_neg (by omega)]
      have e1 : IntKind.i64.wrap ((n : Int) - 1) = (n : Int) - 1 := by rw [IntKind.wrap_i64]; omega
      clear hv hi hlen
      go_enter Try.func18, Try.ntmps18
      go_wp2_with fail
      refine (hold_any A n c _ l x hn (by exact Hl.out.keep hL.out) (by exact Hx.out.keep hL.out)).mono ?_
      rw [hH.out]
      rintro e w1 ⟨rfl, hb1⟩
      have hW1 : Hid (Below w.heap.size w w1) := hL.out.trans (hb1.mono (by simp))
      clear hb1
      go_wp2_with (go_at_call 26; refine (awithin_any _ _ _ _).mono ?_; rintro e w' ⟨rfl, rfl⟩)
      go_ret2
      exact ⟨by rw [hF.out]; rfl, hW1.out.alloc hW1.out.size _⟩
  | false =>
    have hH : Eqn (holdV l x) (.tuple #[.agg #[.int .i64 0, .int .i64 0, .int .i64 0, .slice none 0 0, .int .i64 0], .bool false]) := by
      unfold holdV Eqn; rw [hv]; rfl
    have hF : Eqn (limF l x i ch) (0, 2) := by
      unfold limF Eqn; rw [if_neg (by rw [hv]; simp)]
    clear hv hlen
    go_enter Try.func18, Try.ntmps18
    go_wp2_with fail
    refine (hold_any A n c _ l x hn (by exact Hl.out.keep hL.out) (by exact Hx.out.keep hL.out)).mono ?_
    rw [hH.out]
    rintro e w1 ⟨rfl, hb1⟩
    have hW1 : Hid (Below w.heap.size w w1) := hL.out.trans (hb1.mono (by simp))
    clear hb1
    go_wp2_with (go_at_call 26; refine (awithin_any _ _ _ _).mono ?_; rintro e w' ⟨rfl, rfl⟩)
    go_ret2
    exact ⟨by rw [hF.out]; rfl, hW1.out.alloc hW1.out.size _⟩

set_option maxHeartbeats 1000000 in
theorem rLimit_any (A : Option Addr) (n c : Nat) (i ch : Int) (w : World) (l : List Prod) (x : Bidr) (hn : n ≤ 140) (hl : RowS 5 Prod.cell w w.heap.size A n l) (hx : Row1 intV w w.heap.size x.adr x.len x.blocks) :
    Calls Try.prog 19 #[.slice A n c, x.val, .int .i64 i, .int .i64 ch] w (RetPost (v2 (limF l x i ch)) w.heap.size w) := by
  have hlen := hl.1
  have Hlen := Eqn.mk hlen
  have Hl := Lib.hid hl
  have Hx := Lib.hid hx
  clear hl hx
  unfold Bidr.val
  have hL : Hid (Below w.heap.size w (w.alloc (.cells #[.int .i64 x.id, .int .i64 x.elig, .int .i64 x.waiv, .slice x.adr x.len x.cap] 40))) := (Below.refl _ _).alloc (Nat.le_refl _) _
  by_cases hi : vBidders l [x] = true ∧ 0 ≤ i ∧ i < l.length
  · obtain ⟨hv, hi0, hi1⟩ := hi
    obtain ⟨k, rfl⟩ := Int.eq_ofNat_of_zero_le hi0
    obtain ⟨p, y, hp, hy, hp', hy', b0, b1, b2, b3, b4, b5, b6, b7⟩ := valid_at hv (k := k) (by omega)
    have hro : roomF l x k = (roomN p x y (unitsF l x.blocks), 0) := by
      unfold roomF; rw [if_pos ⟨hv, by omega, by omega⟩, Int.toNat_natCast, hp', hy']
    have hF : Eqn (limF l x k ch) (limN (roomN p x y (unitsF l x.blocks)) y ch, 0) := by
      unfold limF Eqn; rw [if_pos ⟨hv, by omega, by omega⟩, Int.toNat_natCast, hy', hro]
    have hRo : Eqn (v2 (roomF l x k)) (.tuple #[.int .i64 (roomN p x y (unitsF l x.blocks)), .int .i64 0]) := by rw [Eqn, hro]; rfl
    have hrg := roomN_ge p x y (unitsF l x.blocks) b1 b6 b3
    have HY := Lib.hid hy
    have hkl : k < x.len := by rw [← Hx.out.1]; exact (List.getElem?_eq_some_iff.1 hy).1
    have j0 : (0 : Int) ≤ (k : Int) := by omega
    have j2 : (k : Int) < (x.len : Int) := by omega
    generalize roomN p x y (unitsF l x.blocks) = rm at *
    clear hv hp hy hp' hy' b3 b4 b5 b6 b7 hlen hro hi0 hi1
    go_enter Try.func19, Try.ntmps19
    go_wp2_with fail
    refine (rRoom_any A n c k _ l x hn (by exact Hl.out.keep hL.out) (by exact Hx.out.keep hL.out)).mono ?_
    rw [hRo.out]
    rintro e w1 ⟨rfl, hb1⟩
    have hW1 : Hid (Below w.heap.size w w1) := hL.out.trans (hb1.mono (by simp))
    have q3 := hb1.cell (p := ⟨w.heap.size, 3, none⟩) (by simp)
    obtain ⟨b', off', hadr, hbl', hc'⟩ := (Hx.out.below hW1.out).2 (by omega)
    have c5 := hc' k y HY.out
    simp only [intV] at c5
    rw [hadr] at q3 ⊢
    clear hb1 hc'
    go_wp2
    all_goals
      go_ret2
      refine ⟨?_, hW1.out⟩
      rw [hF.out]
      unfold limN
      first
        | (rw [if_pos (by omega)]; rfl)
        | (rw [if_neg (by omega), if_pos (by omega)]; rfl)
        | (rw [if_neg (by omega), if_neg (by omega)]; rfl)
  · have hRo : Eqn (v2 (roomF l x i)) (.tuple #[.int .i64 0, .int .i64 2]) := by unfold roomF Eqn; rw [if_neg hi]; rfl
    have hF : Eqn (limF l x i ch) (0, 2) := by unfold limF Eqn; rw [if_neg hi]
    clear hi hlen
    go_enter Try.func19, Try.ntmps19
    go_wp2_with fail
    refine (rRoom_any A n c i _ l x hn (by exact Hl.out.keep hL.out) (by exact Hx.out.keep hL.out)).mono ?_
    rw [hRo.out]
    rintro e w1 ⟨rfl, hb1⟩
    have hW1 : Hid (Below w.heap.size w w1) := hL.out.trans (hb1.mono (by simp))
    clear hb1
    go_wp2
    go_ret2
    exact ⟨by rw [hF.out]; rfl, hW1.out⟩
end Go.Proofs.Ytjbhflhlicefbaa
