/- Contracts of Count, checked and Best, and of the reference's Count, Among, Best. -/
import Derived.Test.YteckijkmcafpaaaPn39
import Derived.Test.YteckijkmcafpaaaRVw39
namespace Go.Proofs.Yteckijkmcafpaaa
open Go.RowKit

theorem mk_bools (N : Nat) (h : N ≤ 1000) (w : World) : (Instr.makeSlice 73 (.int .i64 (N : Int)) (.int .i64 (N : Int))).run Try.prog w = .ok (.slice (some ⟨w.heap.size, 0, none⟩) N N) (w.alloc (.cells (tabL N fun _ => .bool false).toArray 4)) := by
  rw [run_make_row' 73 4 _ _ Try.underlying73 bool_info rfl .i64 .i64 N (by omega) (by omega) w]
  congr 3
  rw [tabL_rep, ← toList_madeCells_one]
theorem row_bools (N : Nat) (w : World) : Row1 boolV (w.alloc (.cells (tabL N fun _ => .bool false).toArray 4)) (w.heap.size + 1) (some ⟨w.heap.size, 0, none⟩) N (List.replicate N false) := by
  refine ⟨by simp, fun _ => ⟨w.heap.size, 0, rfl, by omega, fun k x hx => ?_⟩⟩
  have hk : k < N := by have := (List.getElem?_eq_some_iff.1 hx).1; simpa using this
  rw [List.getElem?_replicate, if_pos hk] at hx
  injection hx with hx
  subst hx
  rw [Nat.zero_add]
  exact (blk_new w _ _).cell (tabL_at hk)

def countF (b : Int) (l : List Claim) : Int × Int := if validF b l = true then (nmF (csOf l) (List.replicate b.toNat false), 0) else (0, 2)

theorem vw_nil {b : Int} {l : List Claim} (h : validF b l = true) : vwF b l [] = true := by unfold vwF; rw [if_pos h]; rfl

set_option maxHeartbeats 2000000 in
theorem rcount_any (b : Int) (A : Option Addr) (n c : Nat) (w : World) (l : List Claim) (hn : n ≤ 1000) (hl : RowS 2 Claim.cell w w.heap.size A n l) :
    Calls Try.prog 26 #[.int .i64 b, .slice A n c] w (RetPost (v2 (countF b l)) w.heap.size w) := by
  have Hl := Lib.hid hl
  have Hlen := Eqn.mk hl.1
  clear hl
  cases hv : validF b l with
  | false =>
    have HV := Eqn.mk hv
    have HF : Eqn (countF b l) (0, 2) := by unfold countF; rw [if_neg (by rw [hv]; simp)]; rfl
    clear hv
    go_enter Try.func26, Try.ntmps26
    go_wp2_with fail
    refine (rvalid_any b A n c _ l hn Hl.out).mono ?_
    rw [HV.out]
    rintro e w1 ⟨rfl, hb1⟩
    go_wp2_with fail
    go_ret2
    rw [HF.out]
    exact ⟨rfl, hb1⟩
  | true =>
    have HV := Eqn.mk hv
    obtain ⟨v1, v2', v3, v4⟩ := validF_all hv
    obtain ⟨B, rfl⟩ := Int.eq_ofNat_of_zero_le (show 0 ≤ b by omega)
    have HF : Eqn (countF B l) (nmF (csOf l) (List.replicate B false), 0) := by unfold countF; rw [if_pos hv]; rfl
    have H4 := Lib.hid v4
    have mkB := fun w => mk_bools B (by omega) w
    rw [Hlen.out] at v3
    clear hv v4
    go_enter Try.func26, Try.ntmps26
    go_wp2_with fail
    refine (rvalid_any B A n c _ l hn Hl.out).mono ?_
    rw [HV.out]
    rintro e w1 ⟨rfl, hb1⟩
    have B1 : Hid (Below w.heap.size w (w1.alloc (.cells (tabL B fun _ => .bool false).toArray 4))) := Lib.hid (hb1.alloc hb1.size _)
    clear hb1
    go_wp2_with fail
    refine (number_any A n c l v3 n 0 _ _ B _ (List.replicate B false) (by omega) (by omega) (by omega) (fun x hx => ⟨(H4.out x hx).2.2.1, (H4.out x hx).2.2.2⟩) (by exact (Hl.out.below B1.out).up B1.out.size) (by exact (row_bools B w1).up (by simp))).mono ?_
    rw [List.drop_zero]
    rintro e w2 ⟨rfl, hb2⟩
    have B2 := Lib.hid (B1.out.trans (hb2.mono B1.out.size))
    clear hb2
    go_wp2_with fail
    go_ret2
    rw [HF.out]
    exact ⟨rfl, B2.out⟩

set_option maxHeartbeats 2000000 in
theorem count_any (b : Int) (A : Option Addr) (n c : Nat) (w : World) (l : List Claim) (hn : n ≤ 1000) (hl : RowS 2 Claim.cell w w.heap.size A n l) :
    Calls Try.prog 25 #[.int .i64 b, .slice A n c] w (RetPost (v2 (countF b l)) w.heap.size w) := by
  have Hl := Lib.hid hl
  have Hlen := Eqn.mk hl.1
  clear hl
  cases hv : validF b l with
  | false =>
    have HV := Eqn.mk hv
    have HF : Eqn (countF b l) (0, 2) := by unfold countF; rw [if_neg (by rw [hv]; simp)]; rfl
    clear hv
    go_enter Try.func25, Try.ntmps25
    go_wp2_with fail
    refine (valid_any b A n c _ l hn Hl.out).mono ?_
    rw [HV.out]
    rintro e w1 ⟨rfl, hb1⟩
    go_wp2_with fail
    go_ret2
    rw [HF.out]
    exact ⟨rfl, hb1⟩
  | true =>
    have HV := Eqn.mk hv
    obtain ⟨v1, v2', v3, v4⟩ := validF_all hv
    obtain ⟨B, rfl⟩ := Int.eq_ofNat_of_zero_le (show 0 ≤ b by omega)
    have HF : Eqn (countF B l) (nmF (csOf l) (List.replicate B false), 0) := by unfold countF; rw [if_pos hv]; rfl
    have HDP := Eqn.mk (dp_all (wn := l.map Claim.win) (P := fun _ => true) (vw_nil hv) (fun c hc => by
      rw [hasF, eq_comm, List.any_eq_true]; exact ⟨c.win, List.mem_map.2 ⟨c, hc, rfl⟩, by simp⟩) rfl Hlen.out).1
    have H4 := Lib.hid v4
    have HBD := Lib.hid (valOf_bd (n := n) (K := 1099511627776) (by omega) (tabG_bd l (fun _ => true) [] (fun _ _ => 0) (fun x hx => by cases hx) (fun i s => by omega)))
    rw [Hlen.out] at v3
    clear hv v4
    go_enter Try.func25, Try.ntmps25
    go_wp2_with fail
    refine (valid_any B A n c _ l hn Hl.out).mono ?_
    rw [HV.out]
    rintro e w1 ⟨rfl, hb1⟩
    have B1 := Lib.hid hb1
    clear hb1
    go_wp2_with fail
    refine (table_all A none n c 0 0 w1 l [] hn (by omega) (by exact (Hl.out.below B1.out).up B1.out.size) (RowS.nil _ _ _ _ _) (fun x hx => by cases hx)).mono ?_
    rintro e w2 ⟨gt, rfl, hgt, ht, hb2⟩
    have HT := Lib.hid ht
    have B2 := Lib.hid (B1.out.trans (hb2.mono B1.out.size))
    have hg2 : w.heap.size ≤ gt := Nat.le_trans B1.out.size hgt
    clear ht hb2 hgt
    go_wp2_with fail
    refine (newArea_any B n A c gt w.heap.size w2 l _ hn B2.out.size hg2 (by exact Hl.out.below B2.out) HT.out).mono ?_
    rintro e w3 ⟨g, gf, rfl, ha, hb3⟩
    have HA := Lib.hid ha
    have B3 := Lib.hid (B2.out.trans (hb3.mono B2.out.size))
    clear ha hb3 HT
    go_wp2_with fail
    refine (solve_any g B n w3 l _ _ (by omega) (by omega) v3 (fun x hx => ⟨(H4.out x hx).2.2.1, by have := (H4.out x hx).2.2.2; omega⟩) HBD.out HA.out.at).mono ?_
    rw [HDP.out]
    rintro e w4 ⟨rfl, hb4⟩
    have B4 := Lib.hid (B3.out.trans (hb4.mono B3.out.size))
    clear hb4
    simp only [v2n]
    go_wp2_with fail
    go_ret2
    rw [HF.out]
    exact ⟨rfl, B4.out⟩
end Go.Proofs.Yteckijkmcafpaaa
