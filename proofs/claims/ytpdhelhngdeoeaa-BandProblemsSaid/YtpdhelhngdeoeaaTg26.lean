/- The iterator over the targets; the contract of band.Next. -/
import Derived.Test.YtpdhelhngdeoeaaCk26
import Derived.RangeFuncNested
import Derived.RangeFuncBound
import Derived.RangeFuncCalls
import Derived.RangeFuncLeaves
import Derived.RangeFuncBox
import Derived.Shelf.Abstract
import Derived.Shelf.RegionOpen
import Derived.OwnWalkIn
import Derived.TacticsInMore
import Derived.LoopNIn
import Derived.LoopIn
namespace Go.Proofs.Ytpdhelhngdeoeaa
open Go.RowKit Go.Shelf

attribute [local go_sem] Oper.semAt_some

/-- what a round keeps: all that lay below n₀, and one block -/
def Keep1 (n₀ Bn : Nat) (W W' : World) : Prop := Below n₀ W W' ∧ W'.heap[Bn]? = W.heap[Bn]?
theorem keep1_t {n₀ Bn : Nat} {A B C : World} (h : Keep1 n₀ Bn A B) (k : Keep1 n₀ Bn B C) : Keep1 n₀ Bn A C := ⟨h.1.trans k.1, k.2.trans h.2⟩
theorem keep1_b {n₀ Bn : Nat} {w : World} (hn : n₀ ≤ w.heap.size) (hb : Bn < w.heap.size) (W : World) (l : Nat) (o o' : Obj) (hl : w.heap.size ≤ l) (h : W.heap[l]? = some o) (hc : o.isCells = false) (hw : o.isWalk = false) : Keep1 n₀ Bn W (W.putObj l o') :=
  ⟨belowK_b hn W l o o' hl h hc hw, World.putObj_heap_other (by omega)⟩

def keyCells : List Value := keysL.map intV
theorem blk_key {W : World} {g t : Nat} (h : Blk W g t keyCells) {k : Nat} (hk : k < 11) : W.cell? ⟨g, k, none⟩ = some (.int .i64 (keyE k)) := h.cell (by unfold keyCells; rw [List.getElem?_map, keysL_at ⟨k, hk⟩]; rfl)

set_option maxRecDepth 100000 in
set_option maxHeartbeats 1000000 in
theorem tgt_in (n : Nat) (hn : 1 ≤ n) (l Bn n₀ : Nat) (J Jx : List Nat → World → Prop)
    (hY : ∀ pre x W, J pre W → pre.length < 11 → YieldAt Fence.wide (n - 1) Try.prog l #[.int .i64 (x : Nat), .agg #[.int .i64 (keyE x)]] W fun e W' =>
      (e = .returned (.bool true) ∧ J (pre ++ [x]) W' ∧ Keep1 n₀ Bn W W') ∨ (e = .returned (.bool false) ∧ Jx (pre ++ [x]) W'))
    (W : World) (hB : Blk W Bn 75 keyCells) (h0 : J [] W) :
    CallsIn Fence.wide n Try.prog 31 #[.func (.yield l) #[] #[], .pointer (some ⟨Bn, 0, none⟩)] W fun e W' => (∃ v, e = .returned v) ∧
      ((∃ ys, ys = List.range 11 ∧ J ys W') ∨ (∃ pre, pre <+: List.range 11 ∧ Jx pre W')) := by
  refine callsIn_of_wp Try.func31 rfl trivial ?_ rfl
  simp only [Try.ntmps31, List.size_toArray, List.length_cons, List.length_nil, Nat.reduceAdd, Nat.reduceSub, Array.replicate_succ, Array.replicate_zero, List.push_toArray, List.append_toArray, List.nil_append, List.cons_append]
  have HB := Lib.hid hB
  have H0 := Lib.hid h0
  have HY := Lib.hid hY
  clear hY hB h0
  gi_wp2_with fail
  gi_loopw [7] (fun i wr => ∃ k : Nat, k ≤ 11 ∧ i = .int .i64 k ∧ Blk wr Bn 75 keyCells ∧ J (List.range k) wr) (fun i _ => 11 - (intOf i).toNat)
  case atStart => exact ⟨0, Nat.zero_le _, rfl, HB.out, H0.out⟩
  case round =>
    clear HB H0
    obtain ⟨k, hk, rfl, hB, hJs⟩ := hrel
    by_cases hlt : k < 11
    · obtain ⟨fn, tmps, assign, body, hy, hR⟩ := HY.out (List.range k) k wr hJs (by rw [List.length_range]; exact hlt)
      have c1 := blk_key hB hlt
      have hblt := hB.lt
      have j0 : (k : Int) < 11 := by omega
      have HB := Lib.hid hB
      clear hB hJs
      generalize keyE k = y at *
      gi_wp2_with fail
      refine hR.mono ?_
      rintro e W3 (⟨rfl, hJ3, hk3⟩ | ⟨rfl, hJx3⟩)
      · have HB3 : Hid (Blk W3 Bn 75 keyCells) := Lib.hid (hk3.2.trans HB.out)
        have HJ3 := Lib.hid hJ3
        clear hJ3 hk3 hR hy
        gi_wp2_with fail
        go_roundw
        case rel => exact ⟨k + 1, hlt, by go_num, HB3.out, by rw [List.range_succ]; exact HJ3.out⟩
        case measure => simp [intOf]; omega
      · gi_wp2_with fail
        refine bodyPost_ret (results_none rfl _ _ _) rfl ?_
        refine ⟨⟨_, rfl⟩, .inr ⟨List.range k ++ [k], ?_, hJx3⟩⟩
        rw [← List.range_succ]
        refine ⟨(List.range 11).drop (k + 1), ?_⟩
        have h2 : List.range (k + 1) = (List.range 11).take (k + 1) := by rw [List.take_range, Nat.min_eq_left (by omega)]
        rw [h2, List.take_append_drop]
    · obtain rfl : k = 11 := by omega
      have HJs := Lib.hid hJs
      clear hB hJs
      gi_wp2_with fail
      go_end0
      exact ⟨⟨_, rfl⟩, .inl ⟨_, rfl, HJs.out⟩⟩

theorem targets_any (w : World) : Calls Try.prog 18 #[] w fun e w' => e = .returned (.func (.func 31) #[] #[.pointer (some ⟨w.heap.size, 0, none⟩)]) ∧ w' = w.alloc (.cells keyCells.toArray 75) := by
  go_enter Try.func18, Try.ntmps18
  go_wp2
  go_ret
  exact ⟨rfl, rfl⟩

theorem tgt_stops (n : Nat) (hn : 1 ≤ n) (Bn n₀ : Nat) (w : World) (hB : Blk w Bn 75 keyCells) :
    SeqStopsK Fence.wide n Try.prog 31 #[.pointer (some ⟨Bn, 0, none⟩)] (fun x : Nat => #[Value.int .i64 x, .agg #[.int .i64 (keyE x)]]) (Keep1 n₀ Bn) (fun ys => ys = List.range 11) (fun pre => pre <+: List.range 11) 11 w := fun l J Jx W hW _ _ hY h0 =>
  tgt_in n hn l Bn n₀ J Jx (fun pre x W => hY pre x W) W (hB.keep hW) h0
end Go.Proofs.Ytpdhelhngdeoeaa
