/- Contracts of band.left, Channels, of the reference's Channels and of SameInts. -/
import Derived.Test.YtpdhelhngdeoeaaRg26
namespace Go.Proofs.Ytpdhelhngdeoeaa
open Go.RowKit

def leftP (t c : Int) : Bool := decide (c ≤ topF t) && (c != 37)
theorem grown_step {W0 X Y : World} {r r' : Option Nat} (h : W0.grownBy X r) (k : X.grownBy Y r') (hr : r' = r ∨ ∀ g, r' = some g → W0.heap.size ≤ g) : W0.grownBy Y r := by
  refine ⟨k.os.trans h.os, k.tape.trans h.tape, k.output.trans h.output, Nat.le_trans h.size k.size, fun j hj hne => ?_⟩
  refine (k.block j (by have := h.size; omega) ?_).trans (h.block j hj hne)
  rcases hr with rfl | hr
  · exact hne
  · intro e
    have := hr j e.symm
    omega
theorem grown_of_below {X Y : World} (h : Below X.heap.size X Y) : X.grownBy Y none := ⟨h.os, h.tape, h.output, h.size, fun k hk _ => h.block k hk⟩
theorem row1_grown {α : Type} {f : α → Value} {W X : World} {r : Option Nat} {A : Option Addr} {n : Nat} {xs : List α} (h : Row1 f W W.heap.size A n xs) (hg : W.grownBy X r) (hne : ∀ a, A = some a → some a.block ≠ r) : Row1 f X X.heap.size A n xs := by
  refine ⟨h.1, fun hn => ?_⟩
  obtain ⟨b, off, rfl, hb, hc⟩ := h.2 hn
  have hs := hg.size
  refine ⟨b, off, rfl, by omega, fun k x hx => ?_⟩
  rw [World.cell?_of_block (w := W) (a := ⟨b, off + k, none⟩) (hg.block b hb (hne _ rfl))]
  exact hc k x hx

set_option maxRecDepth 100000 in
set_option maxHeartbeats 2000000 in
theorem left_any (v0 : Value) (base : Nat) (t : Int) (A : Option Addr) (n c : Nat) (w : World) (xs cs : List Int) (hb : base ≤ w.heap.size) (hO : w.ownsRow base 3 1 v0 xs.length (xs.map intV)) (hr : Row1 intV w w.heap.size A n cs) (hne : ∀ a, A = some a → some a.block ≠ v0.ownBlock) (hx : xs.length + n ≤ 100000) :
    Calls Try.prog 32 #[v0, .agg #[.int .i64 t], .slice A n c] w fun e w' => ∃ v', e = .returned v' ∧ w'.ownsRow base 3 1 v' (xs ++ cs.filter (leftP t)).length ((xs ++ cs.filter (leftP t)).map intV) ∧ Below base w w' ∧ w.grownBy w' v0.ownBlock ∧ (v'.ownBlock = v0.ownBlock ∨ ∃ g, v'.ownBlock = some g ∧ w.heap.size ≤ g) := by
  obtain ⟨i0, hi, hz0, hz1, hz2⟩ := info_parts int_info
  have Hlen := Eqn.mk hr.1
  have hvlt : v0.ownBlock ≠ some w.heap.size := by
    intro e
    rcases hO.2 with ⟨rfl, _⟩ | ⟨g', cap, cur, rfl, _, hgb, _⟩
    · simp [Value.ownBlock] at e
    · simp [Value.ownBlock] at e
      have := (Array.getElem?_eq_some_iff.1 hgb).1
      omega
  obtain ⟨W0, hW0⟩ : ∃ W0, W0 = w.alloc (.cells #[.int .i64 t] 32) := ⟨_, rfl⟩
  have h0s : W0.heap.size = w.heap.size + 1 := by rw [hW0]; simp
  have hO0 : W0.ownsRow base 3 1 v0 xs.length (xs.map intV) := by rw [hW0]; exact hO.alloc _
  have hr0 : Row1 intV W0 W0.heap.size A n cs := by rw [hW0]; exact hr.keep ((Below.refl _ w).alloc (Nat.le_refl _) _)
  have hc0 : W0.cell? ⟨w.heap.size, 0, none⟩ = some (.int .i64 t) := by rw [hW0]; simp [go_sem]
  have hB0 : Below base w W0 := by rw [hW0]; exact (Below.refl _ w).alloc hb _
  have hG0 : w.grownBy W0 v0.ownBlock := by rw [hW0]; exact World.grownBy_alloc w _ _
  have HW := Lib.hid (And.intro hr0 (And.intro hc0 (And.intro hB0 hG0)))
  have HO0 := Lib.hid hO0
  have HNE := Lib.hid hne
  have HVL := Lib.hid hvlt
  clear hO hr hne hvlt hO0 hr0 hc0 hB0 hG0
  go_enter Try.func32, Try.ntmps32
  go_wp2_with fail
  rw [← hW0]
  clear hW0
  go_loopw [0, 11] (fun v i wr => ∃ k : Nat, k ≤ n ∧ i = .int .i64 k ∧ wr.ownsRow base 3 1 v (xs ++ (cs.take k).filter (leftP t)).length ((xs ++ (cs.take k).filter (leftP t)).map intV) ∧ W0.grownBy wr v0.ownBlock ∧ (v.ownBlock = v0.ownBlock ∨ ∃ g, v.ownBlock = some g ∧ W0.heap.size ≤ g)) (fun _ i _ => n - (intOf i).toNat)
  case atStart => exact ⟨0, Nat.zero_le _, rfl, by simpa using HO0.out, ⟨rfl, rfl, rfl, Nat.le_refl _, fun _ _ _ => rfl⟩, .inl rfl⟩
  case round =>
    obtain ⟨k, hk, rfl, hO, hG, hv⟩ := hrel
    obtain ⟨A1, c1, rfl, _⟩ := row1_of_own hO
    have hgs := hG.size
    have hrr := row1_grown HW.out.1 hG HNE.out
    have hcc : wr.cell? ⟨w.heap.size, 0, none⟩ = some (.int .i64 t) := (World.cell?_of_block (w := W0) (a := ⟨w.heap.size, 0, none⟩) (hG.block _ (by dsimp only; omega) (fun e => HVL.out e.symm))).trans HW.out.2.1
    have hlen2 : (xs ++ (cs.take k).filter (leftP t)).length ≤ 100000 := by
      have := List.length_filter_le (leftP t) (cs.take k)
      rw [List.length_append]
      rw [List.length_take] at this
      omega
    have H1 := Lib.hid (And.intro hO (And.intro hG hv))
    have hlt1 : w.heap.size < wr.heap.size := by omega
    clear hO hG hv
    by_cases hlt : k < n
    · obtain ⟨p, hp, _⟩ := drop_at (xs := cs) (k := k) (by rw [Hlen.out]; exact hlt)
      obtain ⟨b, off, hA, hbl, hc⟩ := hrr.2 (by omega)
      subst hA
      have c0 := hc k p hp
      simp only [intV] at c0
      have j0 : (k : Int) < (n : Int) := by omega
      have HS : Eqn (xs ++ (cs.take (k + 1)).filter (leftP t)) (if leftP t p then (xs ++ (cs.take k).filter (leftP t)) ++ [p] else xs ++ (cs.take k).filter (leftP t)) := by
        rw [Eqn, List.take_add_one, hp, List.filter_append]
        by_cases h : leftP t p = true
        · simp [h]
        · simp [h]
      generalize xs ++ (cs.take k).filter (leftP t) = L at *
      have HT := Lib.hid (fun W => top_any t W)
      have HLP : Hid (leftP t p = (decide (p ≤ topF t) && (p != 37))) := Lib.hid rfl
      generalize topF t = tt at *
      clear hc hp hrr
      by_cases hle : p ≤ tt
      · by_cases h37 : p = 37
        · have HS2 : Eqn (xs ++ (cs.take (k + 1)).filter (leftP t)) L := by rw [Eqn, HS.out, if_neg (by rw [HLP.out]; simp [h37])]
          have h37d : (p == 37) = true := by simpa using h37
          clear HS HLP
          go_wp2_with fail
          refine (HT.out _).mono ?_
          rintro e w1 ⟨rfl, hb1⟩
          have H2 := Lib.hid (And.intro (own_keep H1.out.1 hb1) (grown_step H1.out.2.1 (grown_of_below hb1) (.inr (fun g h => by cases h))))
          clear hb1
          go_wp2_with fail
          go_roundw
          case rel => exact ⟨k + 1, by omega, by go_num, by rw [HS2.out]; exact H2.out.1, H2.out.2, H1.out.2.2⟩
          case measure => simp [intOf]; omega
        · have HS2 : Eqn (xs ++ (cs.take (k + 1)).filter (leftP t)) (L ++ [p]) := by rw [Eqn, HS.out, if_pos (by rw [HLP.out]; simp [h37, hle])]
          have h37d : (p == 37) = false := by simpa using h37
          clear HS HLP
          go_wp2_with fail
          refine (HT.out _).mono ?_
          rintro e w1 ⟨rfl, hb1⟩
          have H2 := Lib.hid (And.intro (own_keep H1.out.1 hb1) (grown_step H1.out.2.1 (grown_of_below hb1) (.inr (fun g h => by cases h))))
          have hs1 := hb1.size
          clear hb1
          go_wp2_with (at_builtin; refine wpList_append_own_at _ rfl _ _ 38 rfl base 3 i0 (.int .i64 0) 1 8 Try.underlying38 hi hz0 hz1 hz2 rfl (by decide) _ _ _ rfl (H2.out.1.alloc _) ⟨w1.heap.size, 0, none⟩ 1 1 [.int .i64 p] rfl rfl (cell_one_new _ _ _) (by simp [Value.oneCell']) (by unfold maxLen; omega) (by omega) (by simp; omega) ?_; intro v' w3 hown' hgrow hnil hat; replace hgrow : World.grownBy _ w3 (Value.slice A1 L.length c1).ownBlock := hgrow; replace hat : v'.ownBlock = (Value.slice A1 L.length c1).ownBlock ∨ v'.ownBlock = some (World.alloc w1 _).heap.size := hat; (have H3 : Hid (w3.ownsRow base 3 1 v' (L.length + 1) (L.map intV ++ [.int .i64 p]) ∧ W0.grownBy w3 v0.ownBlock ∧ (v'.ownBlock = v0.ownBlock ∨ ∃ g, v'.ownBlock = some g ∧ W0.heap.size ≤ g)) := Lib.hid ⟨hown', grown_step (grown_step H2.out.2 (World.grownBy_alloc w1 _ none) (.inr (fun g h => by cases h))) hgrow (by rcases H1.out.2.2 with h | ⟨g, h, hg⟩; exact .inl h; exact .inr (fun g' h' => by rw [h] at h'; cases h'; exact hg)), by rcases hat with h | h; (rw [h]; exact H1.out.2.2); (exact .inr ⟨_, h, by simp; omega⟩)⟩); clear hown' hgrow hnil hat)
          go_roundw
          case rel => exact ⟨k + 1, by omega, by go_num, by rw [HS2.out, List.length_append, List.map_append]; exact H3.out.1, H3.out.2⟩
          case measure => simp [intOf]; omega
      · have HS2 : Eqn (xs ++ (cs.take (k + 1)).filter (leftP t)) L := by rw [Eqn, HS.out, if_neg (by rw [HLP.out]; simp [hle])]
        clear HS HLP
        go_wp2_with fail
        refine (HT.out _).mono ?_
        rintro e w1 ⟨rfl, hb1⟩
        have H2 := Lib.hid (And.intro (own_keep H1.out.1 hb1) (grown_step H1.out.2.1 (grown_of_below hb1) (.inr (fun g h => by cases h))))
        clear hb1
        go_wp2_with fail
        go_roundw
        case rel => exact ⟨k + 1, by omega, by go_num, by rw [HS2.out]; exact H2.out.1, H2.out.2, H1.out.2.2⟩
        case measure => simp [intOf]; omega
    · have HT : Eqn (cs.take k) cs := List.take_of_length_le (by rw [Hlen.out]; omega)
      clear hrr
      rw [HT.out] at H1 hlen2 ⊢
      go_wp2_with fail
      go_ret
      refine ⟨_, rfl, H1.out.1, HW.out.2.2.1.grown H1.out.2.1 (by have := HW.out.2.2.1.size; omega) (fun g hg => own_ge HO0.out g hg), grown_step HW.out.2.2.2 H1.out.2.1 (.inl rfl), ?_⟩
      · rcases H1.out.2.2 with h | ⟨g, h, hg⟩
        · exact .inl h
        · exact .inr ⟨g, h, by omega⟩
end Go.Proofs.Ytpdhelhngdeoeaa
