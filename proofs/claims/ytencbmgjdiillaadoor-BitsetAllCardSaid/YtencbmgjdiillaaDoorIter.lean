/- The iterator over the members of a set: what it yields, for every loop body. -/
import Derived.Test.YtencbmgjdiillaaDoorNext
import Derived.RangeFuncNested
import Derived.RangeFuncBound
import Derived.RangeFuncCalls
import Derived.RangeFuncLeaves
import Derived.RangeFuncBox
import Derived.Shelf.Abstract
import Derived.Shelf.RegionOpen
import Derived.OwnWalkIn
import Derived.TacticsInMore
import Derived.LoopNIn
import Derived.LoopIn
namespace Go.Proofs.YtencbmgjdiillaaDoor
open Go.RowKit Go.Shelf

attribute [local go_sem] Oper.semAt_some

/-- what a round keeps: all that lay below n₀, and the block of the set -/
def Keep1 (n₀ Bn : Nat) (W W' : World) : Prop := Below n₀ W W' ∧ W'.heap[Bn]? = W.heap[Bn]?
theorem keep1_t {n₀ Bn : Nat} {A B C : World} (h : Keep1 n₀ Bn A B) (k : Keep1 n₀ Bn B C) : Keep1 n₀ Bn A C := ⟨h.1.trans k.1, k.2.trans h.2⟩
theorem keep1_b {n₀ Bn : Nat} {w : World} (hn : n₀ ≤ w.heap.size) (hb : Bn < w.heap.size) (W : World) (l : Nat) (o o' : Obj) (hl : w.heap.size ≤ l) (h : W.heap[l]? = some o) (hc : o.isCells = false) (hw : o.isWalk = false) : Keep1 n₀ Bn W (W.putObj l o') :=
  ⟨belowK_b hn W l o o' hl h hc hw, World.putObj_heap_other (by omega)⟩

theorem tab_keepB {n₀ : Nat} {w w' : World} (h : Tab w) (hn : 4 ≤ n₀) (hb : Below n₀ w w') : Tab w' := by
  obtain ⟨h1, h2, h3, m, h4⟩ := h
  have := hb.size
  refine ⟨by omega, fun j hj => ?_, ?_, m, ?_⟩
  · exact (hb.cell (p := ⟨0, j, none⟩) (by dsimp only; omega)).trans (h2 j hj)
  · unfold Lib.TabIs World.var? at *
    have hg : Tryd.prog.globalNamed "internal/strconv.uint64pow10" = some 2 := by kernel_rfl
    simp only [hg, Option.bind_some] at h3 ⊢
    rw [hb.block _ (by omega)]
    exact h3
  · exact (hb.cell (p := ⟨1, 0, none⟩) (by dsimp only; omega)).trans h4

def atK (L : List Nat) (k : Nat) : Int := match L[k]? with | some m => (m : Int) | none => -1
/-- the members from the k-th on: what Next yields -/
theorem next_first (S : Nat) : nextF S 0 = atK (mem S) 0 := by
  unfold nextF atK
  cases h : mem S with
  | nil => rfl
  | cons x r => simp
theorem next_after (S k m : Nat) (hm : (mem S)[k]? = some m) : nextF S ((m : Int) + 1) = atK (mem S) (k + 1) := by
  have hs := mem_sorted S
  unfold nextF atK
  generalize mem S = L at *
  have hk : k < L.length := (List.getElem?_eq_some_iff.1 hm).1
  have key : L.find? (fun x : Nat => decide ((m : Int) + 1 ≤ (x : Int))) = L[k + 1]? := by
    have hsplit : L = L.take (k + 1) ++ L.drop (k + 1) := (List.take_append_drop _ _).symm
    have h1 : (L.take (k + 1)).find? (fun x : Nat => decide ((m : Int) + 1 ≤ (x : Int))) = none := by
      rw [List.find?_eq_none]
      intro x hx
      obtain ⟨j, hj⟩ := List.getElem?_of_mem hx
      rw [List.getElem?_take] at hj
      split at hj
      · rename_i hjk
        have hle : x ≤ m := by
          rcases Nat.lt_or_ge j k with h | h
          · obtain ⟨h2, e2⟩ := List.getElem?_eq_some_iff.1 hj
            obtain ⟨h3, e3⟩ := List.getElem?_eq_some_iff.1 hm
            have := List.pairwise_iff_getElem.1 hs j k h2 h3 h
            omega
          · have : j = k := by omega
            subst this
            rw [hm] at hj
            cases hj
            exact Nat.le_refl _
        simp; omega
      · cases hj
    rw [hsplit, List.find?_append, h1, Option.none_or, ← hsplit]
    cases hd : L.drop (k + 1) with
    | nil =>
      have : L.length ≤ k + 1 := by simpa using hd
      rw [List.getElem?_eq_none this]
      rfl
    | cons y r =>
      have hy : L[k + 1]? = some y := by
        have : (L.drop (k + 1))[0]? = some y := by rw [hd]; rfl
        simpa using this
      rw [hy]
      have hlt : m < y := by
        obtain ⟨h2, e2⟩ := List.getElem?_eq_some_iff.1 hm
        obtain ⟨h3, e3⟩ := List.getElem?_eq_some_iff.1 hy
        have := List.pairwise_iff_getElem.1 hs k (k + 1) h2 h3 (by omega)
        omega
      simp; omega
  rw [key]
  cases L[k + 1]? <;> rfl

/-- how much is still to come, read off the loop's variable -/
def left_of (v : Value) : Nat := if intOf v < 0 then 0 else 513 - (intOf v).toNat
theorem left_none : left_of (.int .i64 (-1)) = 0 := rfl
theorem left_some (m : Nat) : left_of (.int .i64 m) = 513 - m := by
  have h : intOf (.int .i64 (m : Int)) = (m : Int) := rfl
  unfold left_of
  rw [h, if_neg (by omega)]
  rfl

set_option maxRecDepth 100000 in
set_option maxHeartbeats 1000000 in
/-- the iterator itself, for every loop body that keeps what lay below n₀ and the block of the set -/
theorem all1_in (n : Nat) (hn : 1 ≤ n) (l Bn n₀ S : Nat) (hS : Fit S) (h4 : 4 ≤ n₀) (J Jx : List Nat → World → Prop)
    (hY : ∀ pre x W, x < 512 → J pre W → pre.length < (mem S).length → YieldAt Fence.wide (n - 1) Tryd.prog l #[.int .i64 (x : Nat)] W fun e W' =>
      (e = .returned (.bool true) ∧ J (pre ++ [x]) W' ∧ Keep1 n₀ Bn W W') ∨ (e = .returned (.bool false) ∧ Jx (pre ++ [x]) W'))
    (hJ : ∀ pre W W', J pre W → Below W.heap.size W W' → J pre W')
    (W : World) (hB : Blk W Bn 28 (tabL 8 (sC S))) (hT : Tab W) (h0 : J [] W) :
    CallsIn Fence.wide n Tryd.prog 42 #[.func (.yield l) #[] #[], .pointer (some ⟨Bn, 0, none⟩)] W fun e W' => (∃ v, e = .returned v) ∧
      ((∃ ys, ys = mem S ∧ J ys W') ∨ (∃ pre, pre <+: mem S ∧ Jx pre W')) := by
  refine callsIn_of_wp Tryd.func42 rfl trivial ?_ rfl
  simp only [Tryd.ntmps42, List.size_toArray, List.length_cons, List.length_nil, Nat.reduceAdd, Nat.reduceSub, Array.replicate_succ, Array.replicate_zero, List.push_toArray, List.append_toArray, List.nil_append, List.cons_append]
  obtain ⟨c0, c1, c2, c3, c4, c5, c6, c7⟩ := hB.eight
  have HM := Lib.hid (min_any S W hS hT)
  have HN := Lib.hid (fun i W' hT' => next_any S i W' hS hT')
  rw [next_first] at HM
  have HA := Lib.hid (next_after S)
  have HL := Lib.hid (fun m (h : m ∈ mem S) => mem_lt h)
  have HS := Lib.hid (mem_sorted S)
  have HB := Lib.hid hB
  have HT := Lib.hid hT
  have H0 := Lib.hid h0
  have HJ := Lib.hid hJ
  have HY := Lib.hid hY
  clear hY hJ hB hT h0 hS
  generalize mem S = L at *
  unfold sV at *
  gi_wp2_with fail
  refine ⟨trivial, (callsIn_wide.2 HM.out).mono ?_⟩
  rintro e W1 ⟨rfl, hb1⟩
  have HB1 := Lib.hid (HB.out.keep hb1)
  have HT1 := Lib.hid (HT.out.keep hb1)
  have H1 := Lib.hid (HJ.out [] W W1 H0.out hb1)
  clear HM HB HT H0 hb1 c0 c1 c2 c3 c4 c5 c6 c7
  gi_wp2_with fail
  gi_loopw [3] (fun i wr => ∃ k : Nat, k ≤ L.length ∧ i = .int .i64 (atK L k) ∧ Blk wr Bn 28 (tabL 8 (sC S)) ∧ Tab wr ∧ J (L.take k) wr) (fun i _ => left_of i)
  case atStart => exact ⟨0, Nat.zero_le _, rfl, HB1.out, HT1.out, H1.out⟩
  case round =>
    clear HB1 HT1 H1
    obtain ⟨k, hk, rfl, hB, hT, hJs⟩ := hrel
    by_cases hlt : k < L.length
    · obtain ⟨m, hm, _⟩ := drop_at hlt
      have hm5 : m < 512 := HL.out m (List.mem_of_getElem? hm)
      have hak : atK L k = (m : Int) := by unfold atK; rw [hm]
      have htk : L.take (k + 1) = L.take k ++ [m] := by rw [List.take_add_one, hm]; rfl
      have hA := HA.out k m hm
      have hlen : (L.take k).length = k := by simp; omega
      have hak2 : atK L (k + 1) = -1 ∨ ∃ m2 : Nat, atK L (k + 1) = (m2 : Int) ∧ m < m2 ∧ m2 < 512 := by
        unfold atK
        cases h2 : L[k + 1]? with
        | none => exact .inl rfl
        | some m2 =>
          refine .inr ⟨m2, rfl, ?_, HL.out m2 (List.mem_of_getElem? h2)⟩
          obtain ⟨g1, e1⟩ := List.getElem?_eq_some_iff.1 hm
          obtain ⟨g2, e2⟩ := List.getElem?_eq_some_iff.1 h2
          have := List.pairwise_iff_getElem.1 HS.out k (k + 1) g1 g2 (by omega)
          omega
      obtain ⟨fn, tmps, assign, body, hy, hR⟩ := HY.out (L.take k) m wr hm5 hJs (by rw [hlen]; exact hlt)
      rw [hak]
      have HB := Lib.hid hB
      have HT := Lib.hid hT
      have HH := Lib.hid hA
      have HK := Lib.hid htk
      have H2 := Lib.hid hak2
      clear hA htk hak2 hB hT hJs hak hm hlen
      have hm0 : (0 : Int) ≤ (m : Int) := by omega
      gi_wp2_with fail
      refine hR.mono ?_
      rintro e W3 (⟨rfl, hJ3, hk3⟩ | ⟨rfl, hJx3⟩)
      · have hB3 : Blk W3 Bn 28 (tabL 8 (sC S)) := hk3.2.trans HB.out
        have hT3 : Tab W3 := tab_keepB HT.out h4 hk3.1
        obtain ⟨c0, c1, c2, c3, c4, c5, c6, c7⟩ := hB3.eight
        have HC := Lib.hid (HN.out ((m : Int) + 1) W3 hT3)
        rw [HH.out] at HC
        have HB3 := Lib.hid hB3
        have HT3 := Lib.hid hT3
        have HJ3 := Lib.hid hJ3
        clear hB3 hT3 hJ3 hk3 hR hy
        gi_wp2_with fail
        refine ⟨trivial, (callsIn_wide.2 HC.out).mono ?_⟩
        rintro e W4 ⟨rfl, hb4⟩
        have HB4 := HB3.out.keep hb4
        have HT4 := HT3.out.keep hb4
        have HJ4 := HJ.out _ _ _ HJ3.out hb4
        rw [← HK.out] at HJ4
        clear c0 c1 c2 c3 c4 c5 c6 c7 hb4
        gi_wp2_with fail
        go_roundw
        case rel => exact ⟨k + 1, hlt, rfl, HB4, HT4, HJ4⟩
        case measure =>
          rcases H2.out with h | ⟨m2, h, h5, h6⟩
          · rw [h, left_none, left_some]; omega
          · rw [h, left_some, left_some]; omega
      · gi_wp2_with fail
        refine bodyPost_ret (results_none rfl _ _ _) rfl ?_
        exact ⟨⟨_, rfl⟩, .inr ⟨L.take k ++ [m], by rw [← HK.out]; exact List.take_prefix _ _, hJx3⟩⟩
    · obtain rfl : k = L.length := by omega
      have hak : atK L L.length = -1 := by unfold atK; rw [List.getElem?_eq_none (Nat.le_refl _)]
      rw [hak]
      rw [List.take_length] at hJs
      have HJs := Lib.hid hJs
      clear hB hT hak hJs
      gi_wp2_with fail
      go_end0
      exact ⟨⟨_, rfl⟩, .inl ⟨L, rfl, HJs.out⟩⟩

theorem all_any (S : Nat) (w : World) : Calls Tryd.prog 15 #[sV S] w fun e w' => e = .returned (.func (.func 42) #[] #[.pointer (some ⟨w.heap.size, 0, none⟩)]) ∧ w' = w.alloc (.cells (sL S).toArray 28) := by
  unfold sV sL
  go_enter Tryd.func15, Tryd.ntmps15
  go_wp2
  go_ret
  exact ⟨rfl, rfl⟩

/-- s.All() yields the members in increasing order; or a part of them, where a round has said that it wants no more -/
theorem all_stops (n : Nat) (hn : 1 ≤ n) (Bn n₀ S : Nat) (hS : Fit S) (h4 : 4 ≤ n₀) (w : World) (hB : Blk w Bn 28 (tabL 8 (sC S))) (hT : Tab w) :
    SeqStopsK Fence.wide n Tryd.prog 42 #[.pointer (some ⟨Bn, 0, none⟩)] (fun x : Nat => #[Value.int .i64 x]) (Keep1 n₀ Bn) (fun ys => ys = mem S) (fun pre => pre <+: mem S) (mem S).length w := fun l J Jx W hW hJ _ hY h0 =>
  all1_in n hn l Bn n₀ S hS h4 J Jx (fun pre x W _ => hY pre x W) (fun pre A B ha hb => hJ pre A B none ha ⟨hb.os, hb.tape, hb.output, hb.size, fun k hk _ => hb.block k hk⟩ (fun r e => by cases e)) W (hB.keep hW) (hT.keep hW) h0

/-- the same, over numbers below 512: so that a loop body may know it of what it is handed -/
theorem all_stops5 (n : Nat) (hn : 1 ≤ n) (Bn n₀ S : Nat) (hS : Fit S) (h4 : 4 ≤ n₀) (w : World) (hB : Blk w Bn 28 (tabL 8 (sC S))) (hT : Tab w) :
    SeqStopsK Fence.wide n Tryd.prog 42 #[.pointer (some ⟨Bn, 0, none⟩)] (fun x : Fin 512 => #[Value.int .i64 (x.1 : Int)]) (Keep1 n₀ Bn) (fun ys => ys.map Fin.val = mem S) (fun pre => pre.map Fin.val <+: mem S) (mem S).length w := fun l J Jx W hW hJ _ hY h0 => by
  refine (all1_in n hn l Bn n₀ S hS h4 (fun l W => ∃ l' : List (Fin 512), l'.map Fin.val = l ∧ J l' W) (fun l W => ∃ l' : List (Fin 512), l'.map Fin.val = l ∧ Jx l' W) ?_ ?_ W (hB.keep hW) (hT.keep hW) ⟨[], rfl, h0⟩).mono ?_
  · rintro pre x W1 hx ⟨l', rfl, hj⟩ hlen
    refine (hY l' ⟨x, hx⟩ W1 hj (by simpa using hlen)).mono ?_
    rintro e W' (⟨h1, h2, h3⟩ | ⟨h1, h2⟩)
    · exact .inl ⟨h1, ⟨l' ++ [⟨x, hx⟩], by simp, h2⟩, h3⟩
    · exact .inr ⟨h1, ⟨l' ++ [⟨x, hx⟩], by simp, h2⟩⟩
  · rintro pre A B ⟨l', e, ha⟩ hb
    exact ⟨l', e, hJ l' A B none ha ⟨hb.os, hb.tape, hb.output, hb.size, fun k hk _ => hb.block k hk⟩ (fun r e => by cases e)⟩
  · rintro e W' ⟨h1, (⟨ys, h2, l', h3, h4⟩ | ⟨pre, h2, l', h3, h4⟩)⟩
    · exact ⟨h1, .inl ⟨l', h3.trans h2, h4⟩⟩
    · exact ⟨h1, .inr ⟨l', by show List.map Fin.val l' <+: mem S; rw [h3]; exact h2, h4⟩⟩
end Go.Proofs.YtencbmgjdiillaaDoor
