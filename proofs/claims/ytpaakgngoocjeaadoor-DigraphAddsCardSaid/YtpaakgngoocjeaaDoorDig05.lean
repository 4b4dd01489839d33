/- The contracts of Reachable and of reaches of digraph. -/
import Derived.OrdersIn
import Derived.RangeFuncCalls
import Derived.Sort.LoopGhostIn
import Derived.Sort.CutIn
import Derived.Test.YtpaakgngoocjeaaDoorDig01
import Derived.Test.YtpaakgngoocjeaaDoorDig03
import Derived.Test.YtpaakgngoocjeaaDoorDig04
/- The contracts of Next at no vertex or no graph, and of Add of digraph. -/
namespace Go.Proofs.YtpaakgngoocjeaaDoor
open Go.RowKit

/-- a call that returns a set and an error: what stands behind the error -/
theorem zero_ret {W0 : World} {g : Nat} (hS : Blk W0 g 40 (tabL 8 (sC 0))) : (∀ o, W0.frozen? ⟨g, o, none⟩ = false) ∧ g < W0.heap.size := ⟨hS.frozen, hS.lt⟩

theorem gnext_out {gb rb cap : Nat} {ext : List Value} {S : List Nat} {arcs : Int} (v : Int) (w : World) (h : GAt w gb rb cap ext S arcs) (hv : ¬ (0 ≤ v ∧ v < (S.length : Int))) : Calls Tryd.prog 19 #[.pointer (some ⟨gb, 0, none⟩), .int .i64 v] w (RetPost (.tuple #[sV 0, .int .i64 2]) w.heap.size w) := by
  obtain ⟨W0, hW0⟩ : ∃ W0, W0 = w.alloc (.cells (sL 0).toArray 40) := ⟨_, rfl⟩
  have hB0 : Below w.heap.size w W0 := by rw [hW0]; exact (Below.refl _ w).alloc (Nat.le_refl _) _
  have hS : Blk W0 w.heap.size 40 (tabL 8 (sC 0)) := by rw [hW0, ← sL_tab]; exact blk_new w _ _
  have h0 := h.keep hB0
  have HV := Lib.hid (gvalid_any W0 h0)
  have HH := ghas_any v W0 h0
  rw [decide_eq_false hv] at HH
  have HH := Lib.hid HH
  obtain ⟨z0, z1, z2, z3, z4, z5, z6, z7⟩ := hS.eight
  have zl := hS.lt
  have zf : ∀ o, W0.frozen? ⟨w.heap.size, o, none⟩ = false := hS.frozen
  have HS := Lib.hid hS
  have HB := Lib.hid hB0
  clear h h0 hB0 hS hv
  rw [sL_zero] at hW0
  go_enter Tryd.func19, Tryd.ntmps19
  go_upto_region 1 with fail
  rw [← hW0]
  clear hW0
  go_wp2_with fail
  refine HV.out.mono ?_
  rintro e w1 ⟨rfl, rfl⟩
  go_wp2_with fail
  refine HH.out.mono ?_
  rintro e w1 ⟨rfl, rfl⟩
  go_wp2_with fail
  have b := HS.out.set8 0
  rw [set8_zero] at b
  have HB2 := below_set8 0 HB.out (Nat.le_refl w.heap.size)
  rw [set8_zero] at HB2
  change bodyPost _ _ _ _ _ (zero8 W0 w.heap.size)
  generalize zero8 W0 w.heap.size = V2 at *
  obtain ⟨x0, x1, x2, x3, x4, x5, x6, x7⟩ := b.eight
  refine bodyPost_ret (v := .tuple #[sV 0, .int .i64 2]) (by simp [results, Tryd.results19, go_sem, sV, x0, x1, x2, x3, x4, x5, x6, x7]) rfl ⟨rfl, HB2⟩
theorem gnext_no (p : Value) (v : Int) (w : World) (h : NoG w p) : Calls Tryd.prog 19 #[p, .int .i64 v] w (RetPost (.tuple #[sV 0, .int .i64 1]) w.heap.size w) := by
  obtain ⟨W0, hW0⟩ : ∃ W0, W0 = w.alloc (.cells (sL 0).toArray 40) := ⟨_, rfl⟩
  have hB0 : Below w.heap.size w W0 := by rw [hW0]; exact (Below.refl _ w).alloc (Nat.le_refl _) _
  have hS : Blk W0 w.heap.size 40 (tabL 8 (sC 0)) := by rw [hW0, ← sL_tab]; exact blk_new w _ _
  have HV := Lib.hid (gvalid_no p W0 (h.keep hB0))
  obtain ⟨z0, z1, z2, z3, z4, z5, z6, z7⟩ := hS.eight
  have zl := hS.lt
  have zf : ∀ o, W0.frozen? ⟨w.heap.size, o, none⟩ = false := hS.frozen
  have HS := Lib.hid hS
  have HB := Lib.hid hB0
  clear h hB0 hS
  rw [sL_zero] at hW0
  go_enter Tryd.func19, Tryd.ntmps19
  go_upto_region 1 with fail
  rw [← hW0]
  clear hW0
  go_wp2_with fail
  refine HV.out.mono ?_
  rintro e w1 ⟨rfl, rfl⟩
  go_wp2_with fail
  have b := HS.out.set8 0
  rw [set8_zero] at b
  have HB2 := below_set8 0 HB.out (Nat.le_refl w.heap.size)
  rw [set8_zero] at HB2
  change bodyPost _ _ _ _ _ (zero8 W0 w.heap.size)
  generalize zero8 W0 w.heap.size = V2 at *
  obtain ⟨x0, x1, x2, x3, x4, x5, x6, x7⟩ := b.eight
  refine bodyPost_ret (v := .tuple #[sV 0, .int .i64 1]) (by simp [results, Tryd.results19, go_sem, sV, x0, x1, x2, x3, x4, x5, x6, x7]) rfl ⟨rfl, HB2⟩

/-- only the two blocks of a graph are changed -/
def Kp2 (gb rb : Nat) (w w' : World) : Prop := (∀ B, B ≤ gb → B ≤ rb → B ≤ w.heap.size → Below B w w') ∧ w.heap.size ≤ w'.heap.size ∧ ∀ k, k < w.heap.size → k ≠ gb → k ≠ rb → w'.heap[k]? = w.heap[k]?
theorem Blk.kp2 {w w' : World} {gb rb g t : Nat} {s : List Value} (h : Blk w g t s) (hk : Kp2 gb rb w w') (h1 : g ≠ gb) (h2 : g ≠ rb) : Blk w' g t s := (hk.2.2 g h.lt h1 h2).trans h
theorem GAt.drew {w : World} {gb rb cap : Nat} {ext : List Value} {S : List Nat} {arcs : Int} (h : GAt w gb rb cap ext S arcs) : GAt w.drew gb rb cap ext S arcs := h.keep (Below.refl _ _).drew
def addG (S : List Nat) (a b : Nat) : List Nat := S.set a (S.getD a 0 ||| 2 ^ b)

theorem gadd_no (p : Value) (a b : Int) (w : World) (h : NoG w p) : Calls Tryd.prog 14 #[p, .int .i64 a, .int .i64 b] w fun e w' => e = .returned (.int .i64 1) ∧ w = w' := by
  have HV := Lib.hid (gvalid_no p w h)
  clear h
  go_enter Tryd.func14, Tryd.ntmps14
  go_wp2_with fail
  refine HV.out.mono ?_
  rintro e w1 ⟨rfl, rfl⟩
  go_wp2_with fail
  go_ret
  exact ⟨rfl, rfl⟩
theorem gadd_bad {gb rb cap : Nat} {ext : List Value} {S : List Nat} {arcs : Int} (a b : Int) (w : World) (h : GAt w gb rb cap ext S arcs) (hbad : ¬ (0 ≤ a ∧ a < (S.length : Int)) ∨ ¬ (0 ≤ b ∧ b < (S.length : Int)) ∨ a = b) :
    Calls Tryd.prog 14 #[.pointer (some ⟨gb, 0, none⟩), .int .i64 a, .int .i64 b] w fun e w' => e = .returned (.int .i64 2) ∧ w = w' := by
  have HV := Lib.hid (gvalid_any w h)
  have HA := ghas_any a w h
  have HB := ghas_any b w h
  by_cases ha : 0 ≤ a ∧ a < (S.length : Int)
  · rw [decide_eq_true ha] at HA
    by_cases hb : 0 ≤ b ∧ b < (S.length : Int)
    · rw [decide_eq_true hb] at HB
      have hab : a = b := by
        rcases hbad with h1 | h1 | h1
        · exact absurd ha h1
        · exact absurd hb h1
        · exact h1
      subst hab
      have HA := Lib.hid HA
      clear h hbad ha hb HB
      go_enter Tryd.func14, Tryd.ntmps14
      go_wp2_with fail
      refine HV.out.mono ?_
      rintro e w1 ⟨rfl, rfl⟩
      go_wp2_with fail
      refine HA.out.mono ?_
      rintro e w1 ⟨rfl, rfl⟩
      go_wp2_with fail
      refine HA.out.mono ?_
      rintro e w1 ⟨rfl, rfl⟩
      go_wp2_with fail
      go_ret
      exact ⟨rfl, rfl⟩
    · rw [decide_eq_false hb] at HB
      have HA := Lib.hid HA
      have HB := Lib.hid HB
      clear h hbad ha hb
      go_enter Tryd.func14, Tryd.ntmps14
      go_wp2_with fail
      refine HV.out.mono ?_
      rintro e w1 ⟨rfl, rfl⟩
      go_wp2_with fail
      refine HA.out.mono ?_
      rintro e w1 ⟨rfl, rfl⟩
      go_wp2_with fail
      refine HB.out.mono ?_
      rintro e w1 ⟨rfl, rfl⟩
      go_wp2_with fail
      go_ret
      exact ⟨rfl, rfl⟩
  · rw [decide_eq_false ha] at HA
    have HA := Lib.hid HA
    clear h hbad ha HB
    go_enter Tryd.func14, Tryd.ntmps14
    go_wp2_with fail
    refine HV.out.mono ?_
    rintro e w1 ⟨rfl, rfl⟩
    go_wp2_with fail
    refine HA.out.mono ?_
    rintro e w1 ⟨rfl, rfl⟩
    go_wp2_with fail
    go_ret
    exact ⟨rfl, rfl⟩

set_option maxHeartbeats 2000000 in
theorem gadd_busy {gb rb cap : Nat} {ext : List Value} {S : List Nat} {arcs : Int} (a b x : Nat) (w : World) (h : GAt w gb rb cap ext S arcs) (hx : S[a]? = some x) (hb : b < S.length) (hab : a ≠ b) (ht : x.testBit b = true) :
    Calls Tryd.prog 14 #[.pointer (some ⟨gb, 0, none⟩), .int .i64 a, .int .i64 b] w (RetPost (.int .i64 11) w.heap.size w) := by
  have HV := Lib.hid (gvalid_any w h)
  have ha : a < S.length := (List.getElem?_eq_some_iff.1 hx).1
  have HA := ghas_any (a : Int) w h
  rw [decide_eq_true (by omega)] at HA
  have HA := Lib.hid HA
  have HB := ghas_any (b : Int) w h
  rw [decide_eq_true (by omega)] at HB
  have HB := Lib.hid HB
  have hhs : hasS x (b : Int) = true := by unfold hasS; rw [decide_eq_true (by have := h.2.2.2; omega), Bool.true_and, Int.toNat_natCast]; exact ht
  have HS := has_any x (b : Int) w
  rw [hhs] at HS
  unfold sV at HS
  have HS := Lib.hid HS
  obtain ⟨_, c1, _, c3⟩ := h.cells
  obtain ⟨y0, y1, y2, y3, y4, y5, y6, y7, y8⟩ := row_cells h.2.1 hx
  have j0 : (a : Int) < (S.length : Int) := by omega
  have d0 : ((a : Int) == (b : Int)) = false := by simp; omega
  clear h hx hb ht hhs ha hab
  go_enter Tryd.func14, Tryd.ntmps14
  go_wp2_with fail
  refine HV.out.mono ?_
  rintro e w1 ⟨rfl, rfl⟩
  go_wp2_with fail
  refine HA.out.mono ?_
  rintro e w1 ⟨rfl, rfl⟩
  go_wp2_with fail
  refine HB.out.mono ?_
  rintro e w1 ⟨rfl, rfl⟩
  go_wp2_with fail
  refine HS.out.mono ?_
  rintro e w1 ⟨rfl, hb1⟩
  have HB1 := Lib.hid hb1
  clear hb1 c1 c3 y0 y1 y2 y3 y4 y5 y6 y7 y8
  go_wp2_with fail
  go_ret
  exact ⟨rfl, HB1.out⟩

set_option maxRecDepth 100000 in
set_option maxHeartbeats 4000000 in
theorem gadd_ok {gb rb cap : Nat} {ext : List Value} {S : List Nat} {arcs : Int} (a b x : Nat) (w : World) (h : GAt w gb rb cap ext S arcs) (hx : S[a]? = some x) (hb : b < S.length) (hab : a ≠ b) (ht : x.testBit b = false) (hr : 0 ≤ arcs ∧ arcs ≤ 1000000) :
    Calls Tryd.prog 14 #[.pointer (some ⟨gb, 0, none⟩), .int .i64 a, .int .i64 b] w fun e w' => e = .returned (.int .i64 0) ∧ GAt w' gb rb cap ext (addG S a b) (arcs + 1) ∧ Kp2 gb rb w w' := by
  have HV := Lib.hid (gvalid_any w h)
  have ha : a < S.length := (List.getElem?_eq_some_iff.1 hx).1
  have HA := ghas_any (a : Int) w h
  rw [decide_eq_true (by omega)] at HA
  have HA := Lib.hid HA
  have HB := ghas_any (b : Int) w h
  rw [decide_eq_true (by omega)] at HB
  have HB := Lib.hid HB
  have h512 := h.2.2.2
  have hhs : hasS x (b : Int) = false := by unfold hasS; rw [decide_eq_true (by omega), Bool.true_and, Int.toNat_natCast]; exact ht
  have HS := has_any x (b : Int) w
  rw [hhs] at HS
  unfold sV at HS
  have HS := Lib.hid HS
  have HAD := fun W => add_in x (b : Int) W (by omega)
  rw [Int.toNat_natCast] at HAD
  unfold sV at HAD
  have HAD := Lib.hid HAD
  have hfx : Fit x := h.2.2.1 x (List.mem_of_getElem? hx)
  have HG := Lib.hid h
  have HX := Lib.hid hx
  have HNW : Hid (addG S a b = S.set a (x ||| 2 ^ b)) := Lib.hid (by unfold addG; rw [List.getD_eq_getElem?_getD, hx]; rfl)
  have HFT : Hid (∀ y ∈ addG S a b, Fit y) := Lib.hid (by
    rw [HNW.out]
    intro y hy
    rcases List.mem_or_eq_of_mem_set hy with hy | rfl
    · exact h.2.2.1 y hy
    · exact orbit_lt hfx (by omega))
  obtain ⟨_, c1, c2, c3⟩ := h.cells
  obtain ⟨y0, y1, y2, y3, y4, y5, y6, y7, y8⟩ := row_cells h.2.1 hx
  have j0 : (a : Int) < (S.length : Int) := by omega
  have d0 : ((a : Int) == (b : Int)) = false := by simp; omega
  have hgr : gb ≠ rb := h.ne
  clear h hx ht hhs ha hab hfx
  go_enter Tryd.func14, Tryd.ntmps14
  go_wp2_with fail
  refine HV.out.mono ?_
  rintro e w1 ⟨rfl, rfl⟩
  go_wp2_with fail
  refine HA.out.mono ?_
  rintro e w1 ⟨rfl, rfl⟩
  go_wp2_with fail
  refine HB.out.mono ?_
  rintro e w1 ⟨rfl, rfl⟩
  go_wp2_with fail
  refine HS.out.mono ?_
  rintro e W1 ⟨rfl, hb1⟩
  have HB1 := Lib.hid hb1
  have hG1 := HG.out.keep hb1
  clear c1 c2 c3 y0 y1 y2 y3 y4 y5 y6 y7 y8
  obtain ⟨_, c1, c2, c3⟩ := hG1.cells
  obtain ⟨y0, y1, y2, y3, y4, y5, y6, y7, y8⟩ := row_cells hG1.2.1 HX.out
  have HG1 := Lib.hid hG1.drew
  have HB1D := Lib.hid HB1.out.drew
  clear hb1 hG1
  go_wp2_with fail
  refine Lx.region (C := fun X => X.cell? ⟨gb, 1, none⟩ = some (.slice (some ⟨rb, 0, none⟩) S.length cap)) (hs := [3]) (by kernel_rfl) (by kernel_rfl) c1 ?_
  repeat' (first
    | (refine Lx.lex_no (Lx.n1 rfl rfl rfl (by with_reducible rfl)) (fun K hK => ?_); go_simp; skip; refine hK _ ?_; clear hK K)
    | (refine Lx.lex_no (Lx.n0 rfl rfl rfl (by with_reducible rfl)) (fun K hK => ?_); go_simp; skip; refine hK _ ?_; clear hK K)
    | (refine Lx.lex_no (Lx.n2 rfl rfl rfl) (fun K hK => ?_); go_simp; skip; refine hK _ ?_; clear hK K)
    | (refine Lx.lex_pure (v := ?_) rfl (by first | exact Lx.w0 rfl | exact Lx.w1 rfl rfl rfl (by with_reducible rfl)) ?_ (fun K hK => ?_); rotate_left 1; (intro w' hCw; (try dsimp only at hCw); go_simp; first | done | with_reducible rfl); go_simp; skip; refine hK _ ?_; clear hK K)
    | (refine Lx.lex_read (v := ?_) rfl (by first | exact Lx.w0 rfl | exact Lx.w1 rfl rfl rfl (by with_reducible rfl)) ?_ (fun K hK => ?_); rotate_left 1; (go_simp; first | done | with_reducible rfl); go_simp; skip; refine hK _ ?_; clear hK K)
    | (refine Lx.lex_eff rfl (by first | exact Lx.w0 rfl | exact Lx.w1 rfl rfl rfl (by with_reducible rfl)) (fun K hK => ?_); go_simp; (first | (go_at_call 43; refine (HAD.out _).mono ?_; rintro e W2 ⟨rfl, hb2⟩; have hG2 := HG1.out.keep hb2; have HG2 := Lib.hid hG2; have HB2 := Lib.hid (HB1D.out.trans (hb2.mono HB1D.out.size)); obtain ⟨_, u1, u2, u3⟩ := hG2.cells; obtain ⟨z0, z1, z2, z3, z4, z5, z6, z7, z8⟩ := row_cells hG2.2.1 HX.out; have zf : ∀ o, W2.frozen? ⟨rb, o, none⟩ = false := hG2.2.1.frozen; have hc3 : (setAt W2 rb (a * 8) (x ||| 2 ^ b)).cell? ⟨gb, 1, none⟩ = some (.slice (some ⟨rb, 0, none⟩) S.length cap) := (hG2.1.otherAt (Ne.symm hgr)).cell rfl; unfold setAt at hc3; have HC3 := Lib.hid hc3; clear hc3; obtain ⟨W3, hW3⟩ : ∃ W3, W3 = setAt W2 rb (a * 8) (x ||| 2 ^ b) := ⟨_, rfl⟩; have HW3 := Lib.hid hW3; clear hW3; clear hG2 hb2) | skip); refine hK _ _ (by first | with_reducible exact u1 | with_reducible exact HC3.out) ?_; clear hK K))
  all_goals (refine Lx.lex_nil ?_)
  have hW3 := HW3.out
  have hG2 := HG2.out
  have hb3 : Blk W3 rb 40 (rowC (addG S a b) ++ ext) := by rw [hW3, HNW.out]; exact hG2.2.1.setRow HX.out
  have hb4 : Blk W3 gb 67 [.bool true, .slice (some ⟨rb, 0, none⟩) S.length cap, .int .i64 arcs] := by rw [hW3]; exact hG2.1.otherAt (Ne.symm hgr)
  have hg3 : W2.grownBy W3 (some rb) := by rw [hW3]; exact grown_setAt _ _ _ _
  have HF3 := Lib.hid (And.intro hb3 (And.intro hb4 hg3))
  unfold setAt at hW3
  rw [← hW3]
  have c1 : W3.cell? ⟨gb, 2, none⟩ = some (.int .i64 arcs) := hb4.cell rfl
  have c2 := hb4.lt
  have c3 := hb4.frozen 2
  have e1 : IntKind.i64.wrap (arcs + 1) = arcs + 1 := IntWalk.i64_in _ (by omega)
  clear hW3 hG2 hb3 hb4 hg3 HC3 u1 u2 u3 z0 z1 z2 z3 z4 z5 z6 z7 z8 zf
  go_wp2_with fail
  go_ret
  obtain ⟨hb3, hb4, hg3⟩ := HF3.out
  have hB2 := HB2.out
  have hB2s := hB2.size
  refine ⟨rfl, ⟨?_, hb3.other _ _ hgr, HFT.out, by unfold addG; rw [List.length_set]; exact h512⟩, fun B h1 h2 h3 => ?_, ?_, fun k hk h1 h2 => ?_⟩
  · have hl : (addG S a b).length = S.length := by unfold addG; rw [List.length_set]
    rw [hl]
    exact hb4.set_ 2 _
  · exact ((hB2.mono h3).grown hg3 (by omega) (fun g hg => by cases hg; exact h2)).setCell (p := ⟨gb, 2, none⟩) h1 _
  · have := hg3.size; simp; omega
  · rw [Below.heap_setCell _ _ _ _ (fun e => h1 e), hg3.block k (by omega) (fun e => h2 (Option.some.inj e)), hB2.block k hk]

/-- slices.Clone at rows of sets -/
theorem cloneS_any {rb cap : Nat} {ext : List Value} {S : List Nat} (w : World) (h : Blk w rb 40 (rowC S ++ ext)) (hl : S.length ≤ 512) : Calls Tryd.prog 59 #[.slice (some ⟨rb, 0, none⟩) S.length cap] w fun e w' => ∃ A n c, e = .returned (.slice A n c) ∧ A ≠ none ∧ w'.ownsRow w.heap.size 40 8 (.slice A n c) S.length (rowC S) ∧ Below w.heap.size w w' := by
  obtain ⟨i0, hi, hz0, hz1, hz2⟩ := info_parts set_info
  have heq := fun W => Lib.run_eql_slice_nil (P := Tryd.prog) W 65 40 (some ⟨rb, 0, none⟩) S.length cap 0 0 Tryd.underlying65
  have hcl := rowC_len S
  have HH := Lib.hid h
  go_enter Tryd.func59, Tryd.ntmps59
  clear h
  go_wp2_with (at_builtin; refine Hid.out ?_)
  unfold Hid
  refine wpList_append_own_at _ rfl _ _ 65 rfl w.heap.size 40 i0 (.agg #[.int .u64 0, .int .u64 0, .int .u64 0, .int .u64 0, .int .u64 0, .int .u64 0, .int .u64 0, .int .u64 0]) 8 64 Tryd.underlying65 hi hz0 hz1 hz2 rfl (by decide) _ 0 [] rfl (World.ownsRow_lit w #[] 0 (Nat.le_refl _) (by unfold maxLen; omega) rfl) ⟨rb, 0, none⟩ S.length cap (rowC S) rfl hcl (fun j u hu => ?_) (fun u hu => ?_) (by unfold maxLen; omega) (by omega) (by simp) ?_
  · have h0 := (HH.out.alloc (.cells #[] 40)).cell (i := j) (x := u) (by rw [List.getElem?_append_left (List.getElem?_eq_some_iff.1 hu).1]; exact hu)
    unfold Addr.add
    by_cases hj : j = 0
    · subst hj; simpa using h0
    · rw [if_neg hj]; simpa using h0
  · unfold rowC flat at hu
    obtain ⟨x, _, hx⟩ := List.mem_flatMap.1 hu
    obtain ⟨j, _, rfl⟩ := List.mem_map.1 hx
    rfl
  · intro v' w' hown hgrow hnil hat
    rw [Nat.zero_add, List.nil_append] at hown
    obtain ⟨A, c, rfl, _⟩ := own_formS (f := sC) (by decide) hown
    have hA : A ≠ none := by
      intro hA
      subst hA
      rcases hown.2 with ⟨h1, _⟩ | ⟨g, cap, cur, h1, _⟩
      · have := (hnil.1 h1).1; cases this
      · cases h1
    have HO := Lib.hid (And.intro hA (And.intro hown (((Below.refl w.heap.size w).alloc (Nat.le_refl _) (.cells #[] 40)).grown hgrow (by simp) (fun g hg => by injection hg with hg; exact Nat.le_of_eq hg))))
    clear hown hgrow hnil hat hA
    go_wp2_with fail
    go_ret
    exact ⟨A, S.length, c, rfl, HO.out.1, HO.out.2.1, HO.out.2.2⟩
end Go.Proofs.YtpaakgngoocjeaaDoor

/- The contract of Copy of digraph. -/
namespace Go.Proofs.YtpaakgngoocjeaaDoor
open Go.RowKit

theorem gcopy_no (p : Value) (w : World) (h : NoG w p) : Calls Tryd.prog 39 #[p] w fun e w' => e = .returned (.pointer none) ∧ w = w' := by
  have HV := Lib.hid (gvalid_no p w h)
  clear h
  go_enter Tryd.func39, Tryd.ntmps39
  go_wp2_with fail
  refine HV.out.mono ?_
  rintro e w1 ⟨rfl, rfl⟩
  go_wp2_with fail
  go_ret
  exact ⟨rfl, rfl⟩
theorem rowS_blk {W : World} {base : Nat} {n c : Nat} {A : Option Addr} {S : List Nat} (h : W.ownsRow base 40 8 (.slice A n c) S.length (rowC S)) (hA : A ≠ none) : ∃ A' ext, A = some ⟨A', 0, none⟩ ∧ n = S.length ∧ Blk W A' 40 (rowC S ++ ext) ∧ base ≤ A' := by
  rcases h.2 with ⟨h1, _⟩ | ⟨g, cap, cur, h1, h2, h3, h4, h5, h6, h7⟩
  · injection h1 with h1; exact absurd h1 hA
  · injection h1 with e1 e2 e3
    refine ⟨g, cur.toList.drop (S.length * 8), e1, e2, ?_, h2⟩
    unfold Blk
    rw [h3, ← h7, List.take_append_drop]

set_option maxHeartbeats 2000000 in
theorem gcopy_any {gb rb cap : Nat} {ext : List Value} {S : List Nat} {arcs : Int} (w : World) (h : GAt w gb rb cap ext S arcs) : Calls Tryd.prog 39 #[.pointer (some ⟨gb, 0, none⟩)] w fun e w' =>
    ∃ gb' rb' cap' ext', e = .returned (.pointer (some ⟨gb', 0, none⟩)) ∧ GAt w' gb' rb' cap' ext' S arcs ∧ w.heap.size ≤ gb' ∧ w.heap.size ≤ rb' ∧ Below w.heap.size w w' := by
  have HV := Lib.hid (gvalid_any w h)
  obtain ⟨_, c1, _, c3⟩ := h.cells
  have HG := Lib.hid h.drew
  have HCL := Lib.hid (cloneS_any (cap := cap) w.drew h.drew.2.1 h.2.2.2)
  have c2 : w.drew.cell? ⟨gb, 2, none⟩ = some (.int .i64 arcs) := h.drew.cells.2.2.1
  have HBD := Lib.hid (Below.refl w.heap.size w).drew
  clear h
  go_enter Tryd.func39, Tryd.ntmps39
  go_wp2_with fail
  refine HV.out.mono ?_
  rintro e w1 ⟨rfl, rfl⟩
  go_wp2_with fail
  refine Lx.region (C := fun X => X.cell? ⟨gb, 2, none⟩ = some (.int .i64 arcs)) (hs := [8]) (by kernel_rfl) (by kernel_rfl) c2 ?_
  repeat' (first
    | (refine Lx.lex_no (Lx.n1 rfl rfl rfl (by with_reducible rfl)) (fun K hK => ?_); go_simp; skip; refine hK _ ?_; clear hK K)
    | (refine Lx.lex_no (Lx.n0 rfl rfl rfl (by with_reducible rfl)) (fun K hK => ?_); go_simp; skip; refine hK _ ?_; clear hK K)
    | (refine Lx.lex_no (Lx.n2 rfl rfl rfl) (fun K hK => ?_); go_simp; skip; refine hK _ ?_; clear hK K)
    | (refine Lx.lex_pure (v := ?_) rfl (by first | exact Lx.w0 rfl | exact Lx.w1 rfl rfl rfl (by with_reducible rfl)) ?_ (fun K hK => ?_); rotate_left 1; (intro w' hCw; (try dsimp only at hCw); go_simp; first | done | with_reducible rfl); go_simp; skip; refine hK _ ?_; clear hK K)
    | (refine Lx.lex_read (v := ?_) rfl (by first | exact Lx.w0 rfl | exact Lx.w1 rfl rfl rfl (by with_reducible rfl)) ?_ (fun K hK => ?_); rotate_left 1; (go_simp; first | done | with_reducible rfl); go_simp; skip; refine hK _ ?_; clear hK K)
    | (refine Lx.lex_eff rfl (by first | exact Lx.w0 rfl | exact Lx.w1 rfl rfl rfl (by with_reducible rfl)) (fun K hK => ?_); go_simp; (first | (go_at_call 59; refine HCL.out.mono ?_; rintro e W2 ⟨A, n, c, rfl, hA, hown, hb2⟩; have HO := Lib.hid (And.intro hA (And.intro hown hb2)); have z2 : W2.cell? ⟨gb, 2, none⟩ = some (.int .i64 arcs) := (HG.out.keep hb2).cells.2.2.1; have z3 : ∀ o, (W2.alloc o).cell? ⟨gb, 2, none⟩ = some (.int .i64 arcs) := fun o => ((HG.out.keep hb2).1.alloc o).cell rfl; clear hA hown hb2) | skip); refine hK _ _ (by first | with_reducible exact z2 | exact z3 _) ?_; clear hK K))
  all_goals (refine Lx.lex_nil ?_)
  clear z2 z3 c1 c2
  go_wp2_with fail
  go_ret
  obtain ⟨hA, hown, hb2⟩ := HO.out
  obtain ⟨A', ext', rfl, rfl, hB, hle⟩ := rowS_blk hown hA
  have hs : w.drew.heap.size = w.heap.size := rfl
  have hBB : Below w.heap.size w W2 := HBD.out.trans (hs ▸ hb2)
  refine ⟨W2.heap.size, A', c, ext', rfl, ⟨?_, hB.alloc _, HG.out.2.2.1, HG.out.2.2.2⟩, hBB.size, by omega, hBB.alloc (by have := hBB.size; omega) _⟩
  exact blk_new W2 _ _
end Go.Proofs.YtpaakgngoocjeaaDoor

/- A region that draws its order of evaluation, in a round of a range over a function: walked once in the order of the text. Nothing of the program is named here. -/
namespace Go.Proofs.YtpaakgngoocjeaaDoor
open Go.RowKit

namespace Lx
/-- an operation that is no defer does in a round what it does elsewhere -/
theorem wpIn_of_wp {P : Program} {l n : Nat} {o : Oper} {a : Act} {w : World} {K : Act → World → Prop} {Q Q' : Exit → Act → World → Prop} (hnd : ∀ c, o.op ≠ .defer c) (hQ : ∀ e a w, Q e a w → e = .normal) (h : o.wp P a w K Q) : o.wpIn (Fence.wide.inRound l) n P a w K Q' := by
  unfold Oper.wpIn
  refine ⟨fun _ _ => trivial, ?_⟩
  rw [Oper.semAt_eq _ _ _ hnd]
  unfold Oper.wp at h
  generalize (execOp a.eval o).run P w = r at *
  cases r with
  | ok x w' =>
    cases x with
    | value v => exact h
    | skip => exact h
    | defer d => exact h
    | enter f args =>
      refine ⟨fun hd => (by cases hd), CallsIn.inRound l (callsIn_wide.2 (Calls.mono h ?_))⟩
      intro e w'' he
      cases e with
      | returned v => exact he
      | panicked c => exact absurd (hQ _ _ _ he) (by simp)
      | outgrown => obtain ⟨a', w3, hq⟩ := he; exact absurd (hQ _ _ _ hq) (by simp)
    | row row args => exact ⟨fun hd => (by cases hd), fun c cs _ => let ⟨v, w2, r, s⟩ := h c cs; ⟨v, w2, r, stepsIn_wide.2 s⟩⟩
    | _ => exact h.elim
  | halt x w' =>
    cases x with
    | panic v => exact absurd (hQ _ _ _ h) (by simp)
    | _ => exact h.elim

theorem anyIn_of_any {P : Program} {l n : Nat} {ops : Array Oper} {Q : Exit → Act → World → Prop} (hnd : ∀ (i : Nat) (o : Oper), ops[i]? = some o → ∀ c, o.op ≠ .defer c) :
    ∀ (fuel : Nat) (listed : Array Bool) (a : Act) (w : World), wpAny P .any ops (fun e a w => e = .normal ∧ Q .normal a w) fuel listed a w → wpAnyIn (Fence.wide.inRound l) n P .any ops Q fuel listed a w := by
  intro fuel
  induction fuel with
  | zero => intro listed a w h; exact ⟨h.1, h.2.2⟩
  | succ fuel ih =>
    intro listed a w h
    refine ⟨fun hr => (h.1 hr).2, fun i hi => ?_⟩
    have h1 := h.2 i hi
    unfold wpOp at h1
    unfold wpOpIn
    cases ho : ops[i]? with
    | none => rw [ho] at h1; exact ih _ _ _ h1
    | some o =>
      rw [ho] at h1
      dsimp only at h1 ⊢
      split
      · rename_i hw
        rw [if_pos hw] at h1
        rcases h1 with h2 | ⟨_, a', w', h2, _⟩
        · exact Oper.wpIn_mono (fun a w => ih _ a w) (wpIn_of_wp (hnd i o ho) (fun e _ _ he => he.1) h2)
        · cases h2
      · rename_i hw
        rw [if_neg hw] at h1
        exact ⟨fun _ _ => trivial, ih _ _ _ h1⟩

def noDefer (l : List Oper) : Bool := l.all fun o => match o.op with | .defer _ => false | _ => true

/-- THE REGION, in a round -/
theorem regionIn {P : Program} {C : World → Prop} {hs : List Nat} {id r n : Nat} {l : List Oper} {Q : Exit → Act → World → Prop} {a : Act} {w : World} (hm : P.follows .mixedOrders = true) (hok : ok hs l.toArray = true) (hd : noDefer l = true) (hC : C w.drew)
    (h : lex P l.toArray C hs (fun a w => Q .normal a w) 0 l a w.drew) : (Code.region id l.toArray true).wpIn (Fence.wide.inRound r) n P Q a w := by
  refine wpIn_region_any hm (anyIn_of_any (fun i o ho c hc => ?_) _ _ _ _ ?_)
  · have hmem : o ∈ l := by have : l[i]? = some o := by simpa using ho
                            exact List.mem_of_getElem? this
    have := List.all_eq_true.1 hd o hmem
    rw [hc] at this
    cases this
  · refine any_of_lex (C := C) (hs := hs) hok _ (List.range l.length) _ a _ hC (by simp) ?_ List.pairwise_lt_range ?_ (by simp) ?_
    · intro i
      simp [Array.getD_eq_getD_getElem?, Array.getElem?_replicate]
      intro hi
      simp [hi]
    · intro j o ho hl
      simp [Array.getD_eq_getD_getElem?, Array.getElem?_replicate] at hl
      split at hl <;> simp at hl
    · have h1 := lexN_of_lex (P := P) (ops := l.toArray) (C := C) (hs := hs) (Q := fun a w => Q .normal a w) l 0 (fun m => by simp)
      rw [h1, ← List.range_eq_range'] at h
      have h2 : (fun a w => (fun e a w => e = Exit.normal ∧ Q Exit.normal a w) Exit.normal a w) = fun a w => Q Exit.normal a w := by
        funext a w; simp
      rw [h2]
      exact h
end Lx
end Go.Proofs.YtpaakgngoocjeaaDoor

/- The set of the vertices to which the arcs of a graph lead, in plain Lean, and tools of the walk of reach. -/
namespace Go.Proofs.YtpaakgngoocjeaaDoor
open Go.RowKit Go.Shelf Go.ChangeShapes Go.WideShapes Go.ChangeAt Go.Deep Go.Joins

inductive Rch (S : List Nat) (v : Nat) : Nat → Prop
  | refl : Rch S v v
  | step {a b : Nat} : Rch S v a → (S.getD a 0).testBit b = true → Rch S v b
/-- the arcs lead to vertices -/
def InG (S : List Nat) : Prop := ∀ y ∈ S, ∀ b, y.testBit b = true → b < S.length
theorem setOf_ex (p : Nat → Prop) : ∀ N, ∃ F : Nat, ∀ b, F.testBit b = true ↔ b < N ∧ p b
  | 0 => ⟨0, fun b => by simp⟩
  | N + 1 => by
    obtain ⟨F, hF⟩ := setOf_ex p N
    by_cases h : p N
    · refine ⟨F ||| 2 ^ N, fun b => ?_⟩
      rw [Nat.testBit_or, Bool.or_eq_true, hF, bit_tb, decide_eq_true_eq]
      constructor
      · rintro (⟨h1, h2⟩ | rfl)
        · exact ⟨by omega, h2⟩
        · exact ⟨by omega, h⟩
      · rintro ⟨h1, h2⟩
        by_cases hb : N = b
        · exact .inr hb
        · exact .inl ⟨by omega, h2⟩
    · refine ⟨F, fun b => ?_⟩
      rw [hF]
      constructor
      · rintro ⟨h1, h2⟩; exact ⟨by omega, h2⟩
      · rintro ⟨h1, h2⟩
        refine ⟨?_, h2⟩
        rcases Nat.lt_or_ge b N with h3 | h3
        · exact h3
        · have : b = N := by omega
          subst this; exact absurd h2 h
/-- the vertices that can be reached -/
noncomputable def reachM (S : List Nat) (v : Nat) : Nat := Classical.choose (setOf_ex (Rch S v) 512)
theorem reachM_tb {S : List Nat} {v b : Nat} : (reachM S v).testBit b = true ↔ b < 512 ∧ Rch S v b := Classical.choose_spec (setOf_ex (Rch S v) 512) b
theorem reachM_fit (S : List Nat) (v : Nat) : Fit (reachM S v) := fun i hi => by
  rw [← Bool.not_eq_true, reachM_tb]; omega
theorem rch_lt {S : List Nat} {v b : Nat} (hI : InG S) (hv : v < S.length) (h : Rch S v b) : b < S.length := by
  cases h with
  | refl => exact hv
  | @step a b h1 h2 =>
    rw [List.getD_eq_getElem?_getD] at h2
    cases ha : S[a]? with
    | none => rw [ha] at h2; simp at h2
    | some y => rw [ha] at h2; exact hI y (List.mem_of_getElem? ha) _ h2

def stepG (S L : List Nat) : Nat := L.foldl (fun a w => a ||| S.getD w 0) 0
theorem stepG_snoc (S L : List Nat) (x : Nat) : stepG S (L ++ [x]) = stepG S L ||| S.getD x 0 := by unfold stepG; rw [List.foldl_append]; rfl
theorem stepG_tb (S : List Nat) (b : Nat) : ∀ L : List Nat, (stepG S L).testBit b = true ↔ ∃ w, w ∈ L ∧ (S.getD w 0).testBit b = true := by
  intro L
  have key : ∀ (L : List Nat) (acc : Nat), (L.foldl (fun a w => a ||| S.getD w 0) acc).testBit b = true ↔ acc.testBit b = true ∨ ∃ w, w ∈ L ∧ (S.getD w 0).testBit b = true := by
    intro L
    induction L with
    | nil => intro acc; simp
    | cons x r ih =>
      intro acc
      rw [List.foldl_cons, ih, Nat.testBit_or, Bool.or_eq_true]
      constructor
      · rintro ((h | h) | ⟨w, h1, h2⟩)
        · exact .inl h
        · exact .inr ⟨x, by simp, h⟩
        · exact .inr ⟨w, by simp [h1], h2⟩
      · rintro (h | ⟨w, h1, h2⟩)
        · exact .inl (.inl h)
        · rcases List.mem_cons.1 h1 with rfl | h1
          · exact .inl (.inr h2)
          · exact .inr ⟨w, h1, h2⟩
  unfold stepG
  rw [key]
  simp
theorem getD_fit {S : List Nat} (hF : ∀ x ∈ S, Fit x) (k : Nat) : Fit (S.getD k 0) := by
  rw [List.getD_eq_getElem?_getD]
  cases h : S[k]? with
  | none => exact fit_zero
  | some y => exact hF y (List.mem_of_getElem? h)
theorem stepG_fit {S : List Nat} (hF : ∀ x ∈ S, Fit x) (L : List Nat) : Fit (stepG S L) := fun i hi => by
  rw [← Bool.not_eq_true, stepG_tb]
  rintro ⟨w, _, h⟩
  rw [getD_fit hF w i hi] at h
  cases h

/-- what stands between two rounds of reach -/
def RInv (S : List Nat) (v F T : Nat) : Prop := Fit F ∧ Fit T ∧ F.testBit v = true ∧ (∀ b, F.testBit b = true → Rch S v b) ∧ (∀ b, T.testBit b = true → F.testBit b = true) ∧
  (∀ a b, F.testBit a = true → T.testBit a = false → (S.getD a 0).testBit b = true → F.testBit b = true)
theorem rinv_start (S : List Nat) {v : Nat} (hv : v < 512) : RInv S v (2 ^ v) (2 ^ v) := by
  have h : Fit (2 ^ v) := fun i hi => by rw [bit_tb]; simp; omega
  refine ⟨h, h, by rw [bit_tb]; simp, fun b hb => ?_, fun _ h => h, fun a b h1 h2 => by rw [h1] at h2; cases h2⟩
  rw [bit_tb, decide_eq_true_eq] at hb
  subst hb; exact .refl
theorem rinv_next {S : List Nat} {v F T : Nat} (hF : ∀ x ∈ S, Fit x) (h : RInv S v F T) : RInv S v (F ||| mi (stepG S (mem T)) F) (mi (stepG S (mem T)) F) := by
  obtain ⟨h1, h2, h3, h4, h5, h6⟩ := h
  have hN := mi_lt F (stepG_fit hF (mem T))
  refine ⟨or_lt h1 hN, hN, by rw [Nat.testBit_or, h3]; rfl, fun b hb => ?_, fun b hb => by rw [Nat.testBit_or, hb, Bool.or_true], fun a b ha hna hb => ?_⟩
  · rw [Nat.testBit_or, Bool.or_eq_true] at hb
    rcases hb with hb | hb
    · exact h4 b hb
    · rw [mi_tb, Bool.and_eq_true, stepG_tb] at hb
      obtain ⟨⟨w, hw, hwb⟩, _⟩ := hb
      exact .step (h4 w (h5 w (mem_tb hw))) hwb
  · rw [Nat.testBit_or, Bool.or_eq_true] at ha ⊢
    rw [hna] at ha
    rcases ha with ha | ha
    · by_cases hT : T.testBit a = true
      · by_cases hFb : F.testBit b = true
        · exact .inl hFb
        · right
          rw [mi_tb, Bool.and_eq_true, stepG_tb]
          exact ⟨⟨a, (mem_iff h2).2 hT, hb⟩, by simpa using hFb⟩
      · exact .inl (h6 a b ha (by simpa using hT) hb)
    · cases ha
theorem rinv_end {S : List Nat} {v F : Nat} (h : RInv S v F 0) : F = reachM S v := by
  obtain ⟨h1, h2, h3, h4, h5, h6⟩ := h
  have hc : ∀ b, Rch S v b → F.testBit b = true := by
    intro b hb
    induction hb with
    | refl => exact h3
    | step _ hab ih => exact h6 _ _ ih (Nat.zero_testBit _) hab
  apply Nat.eq_of_testBit_eq
  intro b
  rw [Bool.eq_iff_iff, reachM_tb]
  constructor
  · intro hb
    refine ⟨?_, h4 b hb⟩
    rcases Nat.lt_or_ge b 512 with h | h
    · exact h
    · rw [h1 b h] at hb; cases hb
  · rintro ⟨_, hb⟩; exact hc b hb
/-- what every round lowers -/
def rk (M F T : Nat) : Nat := M - F + (if T = 0 then 0 else 1)
theorem rk_next {M F T X : Nat} (hM : M = 2 ^ 512) (hX : Fit X) (hF : Fit F) (hT : T ≠ 0) : rk M (F ||| mi X F) (mi X F) < rk M F T := by
  have hlt := Nat.lt_pow_two_of_testBit (n := 512) (F ||| mi X F) (fun i hi => or_lt hF (mi_lt F hX) i hi)
  rw [← hM] at hlt
  clear hM
  unfold rk
  rw [if_neg hT]
  by_cases h0 : mi X F = 0
  · rw [h0, if_pos rfl, Nat.or_zero]; omega
  · rw [if_neg h0]
    have h1 : F ≤ F ||| mi X F := Nat.left_le_or
    have h2 : F ≠ F ||| mi X F := by
      intro e
      refine h0 (Nat.eq_of_testBit_eq fun i => ?_)
      rw [Nat.zero_testBit]
      cases hb : (mi X F).testBit i with
      | false => rfl
      | true =>
        have h3 := hb
        rw [mi_tb, Bool.and_eq_true] at h3
        have h4 : (F ||| mi X F).testBit i = true := by rw [Nat.testBit_or, hb, Bool.or_true]
        rw [← e] at h4
        rw [h4] at h3
        simp at h3
    omega

theorem boxed_keep {W W' : World} {B : Nat} {t : TypeId} {v : Value} (h : Boxed W B t v) (hb : Below W.heap.size W W') : Boxed W' B t v := (hb.block B h.lt).trans h
theorem leaves_marks {F : Fence} {n : Nat} {fn : Func} {tmps : Array Value} {R : Ending → World → Prop} {Pw : World → Prop} {B : Nat} (hP : ∀ W D, Pw W → B ≤ D → W.heap[D]? = some (.deferred (some [])) → Pw (W.putObj D (.deferred none)))
    (hE : ∀ W, Pw W → LeavesIn F n Tryd.prog fn tmps R [] .returning W) : ∀ (ds : List Nat) (W : World), Pw W → (∀ D ∈ ds, B ≤ D ∧ W.heap[D]? = some (.deferred (some []))) → ds.Nodup → LeavesInM F n Tryd.prog fn tmps R (marksOf ds) .returning W := by
  intro ds
  induction ds with
  | nil => intro W h _ _; exact hE W h
  | cons D r ih =>
    intro W h hd hn
    obtain ⟨h1, h2⟩ := hd D (by simp)
    have hn' := List.nodup_cons.1 hn
    refine ⟨by simp, .inl ⟨D, _, rfl, run_takeDeferred h2, ?_⟩⟩
    refine ih _ (hP W D h h1 h2) (fun E hE' => ?_) hn'.2
    obtain ⟨h3, h4⟩ := hd E (by simp [hE'])
    refine ⟨h3, ?_⟩
    rw [World.putObj_heap_other (fun e => hn'.1 (by rw [← e]; exact hE'))]
    exact h4
theorem set8_other {W : World} {g k S : Nat} (h : k ≠ g) : (set8 W g S).heap[k]? = W.heap[k]? := by
  unfold set8
  repeat rw [Below.heap_setCell _ _ _ _ (by exact h)]
/-- Of at one number -/
theorem of_one (v : Nat) (hv : v < 512) (g : Nat) (W : World) (h : W.cell? ⟨g, 0, none⟩ = some (.int .i64 (v : Int))) (hg : g < W.heap.size) : Calls Tryd.prog 61 #[.slice (some ⟨g, 0, none⟩) 1 1] W (RetPost (.tuple #[sV (2 ^ v), .int .i64 0]) W.heap.size W) := by
  have := of_any (some ⟨g, 0, none⟩) 1 1 W [(v : Int)] (by decide) ⟨rfl, fun _ => ⟨g, 0, rfl, hg, fun k x hk => by
    cases k with
    | zero => simp at hk; subst hk; simpa [intV] using h
    | succ k => simp at hk⟩⟩
  have e : ofF [(v : Int)] = (2 ^ v, 0) := by
    unfold ofF
    rw [show ofGo 0 [(v : Int)] = some (2 ^ v) by
      rw [ofGo, if_pos (by omega), ofGo, Nat.zero_or, Int.toNat_natCast]]
  rw [e] at this
  exact this
end Go.Proofs.YtpaakgngoocjeaaDoor

/- The contract of reach of digraph: a range over a set's iterator within a loop. Printed by genre09.py from tpl/Re09.src. -/
namespace Go.Proofs.YtpaakgngoocjeaaDoor
open Go.RowKit Go.Shelf Go.ChangeShapes Go.WideShapes Go.ChangeAt Go.Deep Go.Joins

attribute [local go_sem] Oper.semAt_some

/-- the frame at the head of a round: what the scratch slots hold does not matter -/
def ReFrame (p2 p4 p5 g7 : Nat) (ds : List Nat) (a : Act) : Prop := ∃ u : Nat → Value, a = { tmps := #[u 0, u 1, (.pointer (some ⟨p2, 0, none⟩)), u 3, (.pointer (some ⟨p4, 0, none⟩)), (.pointer (some ⟨p5, 0, none⟩)), u 6, (.pointer (some ⟨g7, 0, none⟩)), u 8, u 9, u 10, u 11, u 12, u 13, u 14, u 15, u 16, u 17, u 18, u 19, u 20, u 21, u 22, u 23, u 24, u 25, u 26, u 27, u 28, u 29, u 30, u 31, u 32, u 33, u 34, u 35, u 36, u 37, u 38, u 39], defers := marksOf ds }
theorem reFrame_mk (p2 p4 p5 g7 : Nat) (ds : List Nat) (u0 u1 u3 u6 u8 u9 u10 u11 u12 u13 u14 u15 u16 u17 u18 u19 u20 u21 u22 u23 u24 u25 u26 u27 u28 u29 u30 u31 u32 u33 u34 u35 u36 u37 u38 u39 : Value) : ReFrame p2 p4 p5 g7 ds { tmps := #[u0, u1, (.pointer (some ⟨p2, 0, none⟩)), u3, (.pointer (some ⟨p4, 0, none⟩)), (.pointer (some ⟨p5, 0, none⟩)), u6, (.pointer (some ⟨g7, 0, none⟩)), u8, u9, u10, u11, u12, u13, u14, u15, u16, u17, u18, u19, u20, u21, u22, u23, u24, u25, u26, u27, u28, u29, u30, u31, u32, u33, u34, u35, u36, u37, u38, u39], defers := marksOf ds } := ⟨fun i => [u0, u1, undef, u3, undef, undef, u6, undef, u8, u9, u10, u11, u12, u13, u14, u15, u16, u17, u18, u19, u20, u21, u22, u23, u24, u25, u26, u27, u28, u29, u30, u31, u32, u33, u34, u35, u36, u37, u38, u39].getD i undef, rfl⟩

/-- the world between two rounds -/
def ReInv (w : World) (gb p5 F T g7 : Nat) (ds : List Nat) (W : World) : Prop := Boxed W w.heap.size 24 (.pointer (some ⟨gb, 0, none⟩)) ∧ Blk W (w.heap.size + 1) 40 (tabL 8 (sC 0)) ∧ Blk W p5 40 (tabL 8 (sC F)) ∧ Blk W g7 40 (tabL 8 (sC T)) ∧
  (w.heap.size + 1 < p5 ∧ p5 < g7) ∧ Below w.heap.size w W ∧ (∀ D ∈ ds, p5 < D ∧ W.heap[D]? = some (.deferred (some []))) ∧ ds.Nodup
theorem ReInv.keep {w W W' : World} {gb p5 F T g7 : Nat} {ds : List Nat} (h : ReInv w gb p5 F T g7 ds W) (hb : Below W.heap.size W W') : ReInv w gb p5 F T g7 ds W' := by
  obtain ⟨h1, h2, h3, h4, h5, h6, h7, h8⟩ := h
  exact ⟨boxed_keep h1 hb, h2.keep hb, h3.keep hb, h4.keep hb, h5, h6.trans (hb.mono h6.size), fun D hD => ⟨(h7 D hD).1, (hb.block D (Array.getElem?_eq_some_iff.1 (h7 D hD).2).1).trans (h7 D hD).2⟩, h8⟩

theorem keeps_set8 (W : World) (g S : Nat) : KeepsOthers W (set8 W g S) := by
  unfold set8
  exact (((((((KeepsOthers.setCell _ _ _).trans (KeepsOthers.setCell _ _ _)).trans (KeepsOthers.setCell _ _ _)).trans (KeepsOthers.setCell _ _ _)).trans (KeepsOthers.setCell _ _ _)).trans (KeepsOthers.setCell _ _ _)).trans (KeepsOthers.setCell _ _ _)).trans (KeepsOthers.setCell _ _ _)
theorem not_mark {W : World} {g t D : Nat} {s : List Value} {o : Option (List Deferred)} (h : Blk W g t s) (hD : W.heap[D]? = some (.deferred o)) : D ≠ g := by
  rintro rfl
  unfold Blk at h
  rw [hD] at h
  cases h
theorem ReInv.setT {w W : World} {gb p5 F T g7 : Nat} {ds : List Nat} (N : Nat) (h : ReInv w gb p5 F T g7 ds W) : ReInv w gb p5 F N g7 ds (set8 W g7 N) := by
  obtain ⟨h1, h2, h3, h4, h5, h6, h7, h8⟩ := h
  exact ⟨(set8_other (by omega)).trans h1, (set8_other (by omega)).trans h2, (set8_other (by omega)).trans h3, h4.set8 N, h5, below_set8 N h6 (by omega), fun D hD => ⟨(h7 D hD).1, (set8_other (not_mark h4 (h7 D hD).2)).trans (h7 D hD).2⟩, h8⟩
theorem ReInv.setF {w W : World} {gb p5 F T g7 : Nat} {ds : List Nat} (N : Nat) (h : ReInv w gb p5 F T g7 ds W) : ReInv w gb p5 N T g7 ds (set8 W p5 N) := by
  obtain ⟨h1, h2, h3, h4, h5, h6, h7, h8⟩ := h
  exact ⟨(set8_other (by omega)).trans h1, (set8_other (by omega)).trans h2, h3.set8 N, (set8_other (by omega)).trans h4, h5, below_set8 N h6 (by omega), fun D hD => ⟨(h7 D hD).1, (set8_other (not_mark h3 (h7 D hD).2)).trans (h7 D hD).2⟩, h8⟩
theorem ReInv.newT {w W : World} {gb p5 F T g7 : Nat} {ds : List Nat} (h : ReInv w gb p5 F T g7 ds W) : ReInv w gb p5 F T W.heap.size ds (W.alloc (.cells (sL T).toArray 40)) := by
  obtain ⟨h1, h2, h3, h4, h5, h6, h7, h8⟩ := h
  have h9 := h4.lt
  exact ⟨h1.alloc _, h2.alloc _, h3.alloc _, by rw [← sL_tab]; exact blk_new W _ _, by omega, h6.alloc h6.size _, fun D hD => ⟨(h7 D hD).1, (Below.heap_alloc W _ D (Array.getElem?_eq_some_iff.1 (h7 D hD).2).1).trans (h7 D hD).2⟩, h8⟩
theorem ReInv.mark {w W : World} {gb p5 F T g7 D : Nat} {ds : List Nat} (h : ReInv w gb p5 F T g7 ds W) (hD : W.heap[D]? = some (.deferred (some []))) (h5 : p5 < D) (hn : ∀ E ∈ ds, E < D) : ReInv w gb p5 F T g7 (D :: ds) W := by
  obtain ⟨h1, h2, h3, h4, h5', h6, h7, h8⟩ := h
  refine ⟨h1, h2, h3, h4, h5', h6, fun E hE => ?_, List.nodup_cons.2 ⟨fun h => by have := hn D h; omega, h8⟩⟩
  rcases List.mem_cons.1 hE with rfl | hE
  · exact ⟨h5, hD⟩
  · exact h7 E hE
/-- what stands between two rounds of the range -/
def ReJ (W3 : World) (S : List Nat) (N B : Nat) (pre : List (Fin N)) (X : World) : Prop := B ≤ X.heap.size ∧ Blk X W3.heap.size 40 (tabL 8 (sC (stepG S (pre.map Fin.val)))) ∧ Below W3.heap.size W3 X
theorem reJ_own {W3 : World} {S : List Nat} {N B : Nat} (h3 : W3.heap.size ≤ B) : OwnFrom B (ReJ W3 S N B) := by
  intro pre X Y row hJ hg hr
  obtain ⟨h0, h1, h2⟩ := hJ
  exact ⟨Nat.le_trans h0 hg.size, Own.from (blk_own (β := Unit) W3.heap.size 40 (tabL 8 (sC (stepG S (pre.map Fin.val))))) B () X Y row h1 hg hr, ownFrom_below (β := Unit) (Nat.le_refl _) h3 () X Y row h2 hg hr⟩

set_option maxRecDepth 100000 in
set_option maxHeartbeats 4000000 in
theorem greach_any {gb rb cap : Nat} {ext : List Value} {S : List Nat} {arcs : Int} (v : Nat) (w : World) (hT : Tab w) (h : GAt w gb rb cap ext S arcs) (hI : InG S) (hv : v < S.length) :
    Calls Tryd.prog 44 #[.pointer (some ⟨gb, 0, none⟩), .int .i64 v] w (RetPost (sV (reachM S v)) w.heap.size w) := by
  have h512 := h.2.2.2
  have HF : Hid (∀ x ∈ S, Fit x) := Lib.hid h.2.2.1
  have HO := Lib.hid (of_one v (by omega))
  have HE := Lib.hid (fun T hT W => empty_any T hT W)
  have HU := Lib.hid (fun A B W => union_any A B W)
  have HM := Lib.hid (fun A B W => minus_any A B W)
  have HA := Lib.hid (fun T W => all_any T W)
  have HT := Lib.hid hT
  have HG := Lib.hid h
  have HI := Lib.hid hI
  have h4 : tabN ≤ w.heap.size := hT.1
  obtain ⟨W0, hW0⟩ : ∃ W0, W0 = ((w.alloc (.cells #[.pointer (some ⟨gb, 0, none⟩)] 24)).alloc (.cells (sL 0).toArray 40)).alloc (.cells #[.int .i64 v] 3) := ⟨_, rfl⟩
  have H0 : Hid (Boxed W0 w.heap.size 24 (.pointer (some ⟨gb, 0, none⟩)) ∧ Blk W0 (w.heap.size + 1) 40 (tabL 8 (sC 0)) ∧ W0.heap.size = w.heap.size + 3 ∧ Below w.heap.size w W0) := Lib.hid (by
    rw [hW0]
    refine ⟨((Boxed.new w _ _).alloc _).alloc _, ?_, by simp, (((Below.refl _ w).alloc (Nat.le_refl _) _).alloc (by simp) _).alloc (by simp; omega) _⟩
    rw [← sL_tab]
    have := blk_new (w.alloc (.cells #[.pointer (some ⟨gb, 0, none⟩)] 24)) (sL 0) 40
    rw [World.size_alloc] at this
    exact this.alloc _)
  have HO0 := Lib.hid (HO.out (w.heap.size + 2) W0 (by
    rw [hW0]
    have := (Boxed.new ((w.alloc (.cells #[.pointer (some ⟨gb, 0, none⟩)] 24)).alloc (.cells (sL 0).toArray 40)) 3 (.int .i64 (v : Int))).cell
    simpa using this) (by rw [H0.out.2.2.1]; omega))
  rw [sL_zero] at hW0
  clear hT h hI HO
  unfold sV at HE HU HM HA HO0
  refine (callsIn_wide (n := 3)).1 ?_
  refine callsIn_of_wp_marks Tryd.func44 rfl trivial ?_ rfl
  simp only [Tryd.ntmps44, List.size_toArray, List.length_cons, List.length_nil, Nat.reduceAdd, Nat.reduceSub, Array.replicate_succ, Array.replicate_zero, List.push_toArray, List.append_toArray, List.nil_append, List.cons_append]
  gi_wp2_with fail
  rw [← hW0]
  clear hW0
  refine ⟨trivial, (callsIn_wide.2 HO0.out).mono ?_⟩
  rintro e W1 ⟨rfl, hb1⟩
  have H1 := Lib.hid (And.intro (boxed_keep H0.out.1 hb1) (And.intro (H0.out.2.1.keep hb1) (And.intro H0.out.2.2.1 (H0.out.2.2.2.trans (hb1.mono H0.out.2.2.2.size)))))
  have hs1 := hb1.size
  clear hb1 HO0
  gi_wp2_with fail
  obtain ⟨W2, hW2⟩ : ∃ W2, W2 = (W1.alloc (.cells (sL (2 ^ v)).toArray 40)).alloc (.cells (sL (2 ^ v)).toArray 40) := ⟨_, rfl⟩
  have H2 : Hid (ReInv w gb W1.heap.size (2 ^ v) (2 ^ v) (W1.heap.size + 1) [] W2) := Lib.hid (by
    obtain ⟨x1, x2, x3, x4⟩ := H1.out
    rw [hW2]
    refine ⟨(x1.alloc _).alloc _, (x2.alloc _).alloc _, ?_, ?_, by omega, (x4.alloc x4.size _).alloc (by have := x4.size; simp; omega) _, (fun D h => by cases h), by simp⟩
    · rw [← sL_tab]; exact (blk_new W1 _ _).alloc _
    · rw [← sL_tab]
      have := blk_new (W1.alloc (.cells (sL (2 ^ v)).toArray 40)) (sL (2 ^ v)) 40
      rwa [World.size_alloc] at this)
  have HR := Lib.hid (rinv_start S (v := v) (by omega))
  unfold sL at hW2
  rw [← hW2]
  have hp5 : w.heap.size + 2 < W1.heap.size := by have := H1.out.2.2.1; omega
  clear hW2 H0 H1 hs1
  generalize 2 ^ v = P at *
  obtain ⟨M, hM⟩ : ∃ M, M = 2 ^ 512 := ⟨_, rfl⟩
  have HMM := Lib.hid hM
  clear hM
  refine wpIn_loop_ghost (fun n a W => ∃ (F T g7 : Nat) (ds : List Nat), n = rk M F T ∧ RInv S v F T ∧ ReFrame w.heap.size (w.heap.size + 1) W1.heap.size g7 ds a ∧ ReInv w gb W1.heap.size F T g7 ds W) (rk M P P) ?start ?round
  case start =>
    exact ⟨P, P, W1.heap.size + 1, [], rfl, HR.out, reFrame_mk _ _ _ _ [] _ _ _ _ _ _ _ _ _ _ _ _ _ _ _ _ _ _ _ _ _ _ _ _ _ _ _ _ _ _ _ _ _ _ _ _, H2.out⟩
  case round =>
    clear H2 HR
    rintro n a W ⟨F, T, g7, ds, rfl, hR, ⟨u, rfl⟩, hI⟩
    have HI2 := Lib.hid hI
    have HR := Lib.hid hR
    have HE1 := Lib.hid (HE.out T hR.2.1)
    obtain ⟨c0, c1, c2, c3, c4, c5, c6, c7⟩ := hI.2.2.2.1.eight
    clear hI hR
    by_cases hT0 : T = 0
    · subst hT0
      rw [decide_eq_true rfl] at HE1
      gi_wp2_with fail
      refine ⟨trivial, (callsIn_wide.2 (HE1.out _)).mono ?_⟩
      rintro e W3 ⟨rfl, hb3⟩
      have hI3 := HI2.out.keep hb3
      have HI3 := Lib.hid hI3
      clear c0 c1 c2 c3 c4 c5 c6 c7 hb3
      obtain ⟨c0, c1, c2, c3, c4, c5, c6, c7⟩ := hI3.2.2.1.eight
      have zf : ∀ o, W3.frozen? ⟨w.heap.size + 1, o, none⟩ = false := hI3.2.1.frozen
      have zl := hI3.2.1.lt
      obtain ⟨z0, z1, z2, z3, z4, z5, z6, z7⟩ := hI3.2.1.eight
      clear hI3
      gi_wp2_with fail
      show LeavesInM _ _ _ _ _ _ (marksOf ds) .returning (set8 W3 (w.heap.size + 1) F)
      have hF := rinv_end HR.out
      obtain ⟨q1, q2, q3, q4, q5, q6, q7, q8⟩ := HI3.out
      refine leaves_marks (Pw := fun X => Blk X (w.heap.size + 1) 40 (tabL 8 (sC F)) ∧ Below w.heap.size w X) (B := W1.heap.size) ?_ ?_ ds _ ?_ ?_ q8
      · rintro X D ⟨h1, h2⟩ hD hX
        exact ⟨(World.putObj_heap_other (by omega)).trans h1, h2.trans (belowK_b (w := w) (Nat.le_refl _) X D _ _ (by omega) hX rfl rfl)⟩
      · rintro X ⟨h1, h2⟩
        obtain ⟨x0, x1, x2, x3, x4, x5, x6, x7⟩ := h1.eight
        rw [← hF]
        exact ⟨sV F, by simp [results, Tryd.results44, go_sem, sV, x0, x1, x2, x3, x4, x5, x6, x7], rfl, h2⟩
      · exact ⟨q2.set8 F, below_set8 F q6 (by omega)⟩
      · intro D hD
        refine ⟨Nat.le_of_lt (q7 D hD).1, ?_⟩
        rw [set8_other (by have := (q7 D hD).1; omega)]
        exact (q7 D hD).2
    · rw [decide_eq_false hT0] at HE1
      have HT0 := Lib.hid hT0
      clear hT0
      gi_wp2_with fail
      refine ⟨trivial, (callsIn_wide.2 (HE1.out _)).mono ?_⟩
      rintro e W3 ⟨rfl, hb3⟩
      have hI3 := HI2.out.keep hb3
      have HI3 := Lib.hid hI3
      clear c0 c1 c2 c3 c4 c5 c6 c7 hb3
      obtain ⟨c0, c1, c2, c3, c4, c5, c6, c7⟩ := hI3.2.2.2.1.eight
      have zl := hI3.2.2.2.1.lt
      clear hI3 HI2 HE1 HE
      gi_wp2_with fail
      obtain ⟨V8, hV8⟩ : ∃ V8, V8 = W3.alloc (.cells (sL 0).toArray 40) := ⟨_, rfl⟩
      have H8 : Hid (Blk V8 W3.heap.size 40 (tabL 8 (sC 0)) ∧ Below W3.heap.size W3 V8) := Lib.hid (by
        rw [hV8, ← sL_tab]
        exact ⟨blk_new W3 _ _, (Below.refl _ W3).alloc (Nat.le_refl _) _⟩)
      rw [sL_zero] at hV8
      rw [← hV8]
      clear hV8 c0 c1 c2 c3 c4 c5 c6 c7 zl
      refine ⟨trivial, (callsIn_wide.2 (HA.out T _)).mono ?_⟩
      rintro e WE ⟨rfl, hWE⟩
      have hBE : Below W3.heap.size W3 WE := by rw [hWE]; exact H8.out.2.alloc H8.out.2.size _
      have hJ0 : ReJ W3 S S.length WE.heap.size [] WE := ⟨Nat.le_refl _, by rw [hWE]; exact H8.out.1.alloc _, hBE⟩
      have hSE : Blk WE V8.heap.size 40 (tabL 8 (sC T)) := by rw [hWE, ← sL_tab]; exact blk_new _ _ _
      have hs8 : W3.heap.size < V8.heap.size := H8.out.1.lt
      have hsE : V8.heap.size < WE.heap.size := hSE.lt
      have hTE : Tab WE := HT.out.keep (HI3.out.2.2.2.2.2.1.trans (hBE.mono HI3.out.2.2.2.2.2.1.size))
      have hTin : ∀ x ∈ mem T, x < S.length := fun x hx => rch_lt HI.out hv (HR.out.2.2.2.1 x (HR.out.2.2.2.2.1 x (mem_tb hx)))
      have h4' : tabN ≤ W3.heap.size := Nat.le_trans h4 HI3.out.2.2.2.2.2.1.size
      clear hWE H8 HA
      gi_wp2_with fail
      refine wpIn_rangeFunc_ownG rfl (by decide) (gf := 63) (lb := #[.pointer (some ⟨V8.heap.size, 0, none⟩)]) rfl trivial (enters_of Tryd.func63 (by kernel_rfl) rfl)
        (all_stopsF S.length 2 (by decide) V8.heap.size W3.heap.size T HR.out.2.1 hTin h4' WE hSE hTE) keep1_t (keep1_b (by omega) (by omega)) (Below.refl _ _) (fun _ => rfl)
        (ReJ W3 S S.length WE.heap.size) (fun _ _ _ => False) (reJ_own (by omega)) (fun _ _ _ _ _ hs _ _ => hs) hJ0
        (fun x => { tmps := #[u 0, u 1, (.pointer (some ⟨w.heap.size, 0, none⟩)), u 3, (.pointer (some ⟨w.heap.size + 1, 0, none⟩)), (.pointer (some ⟨W1.heap.size, 0, none⟩)), u 6, (.pointer (some ⟨g7, 0, none⟩)), (.pointer (some ⟨W3.heap.size, 0, none⟩)), (.int .i64 (x.1 : Int)), u 10, u 11, u 12, u 13, u 14, u 15, u 16, (.agg #[.int .u64 (wd T 0), .int .u64 (wd T 1), .int .u64 (wd T 2), .int .u64 (wd T 3), .int .u64 (wd T 4), .int .u64 (wd T 5), .int .u64 (wd T 6), .int .u64 (wd T 7)]), (.bool false), (.bool true), (.agg #[.int .u64 (wd T 0), .int .u64 (wd T 1), .int .u64 (wd T 2), .int .u64 (wd T 3), .int .u64 (wd T 4), .int .u64 (wd T 5), .int .u64 (wd T 6), .int .u64 (wd T 7)]), (.func (.func 63) #[] #[.pointer (some ⟨V8.heap.size, 0, none⟩)]), (.int .i64 (x.1 : Int)), u 23, u 24, u 25, u 26, u 27, u 28, u 29, u 30, u 31, u 32, u 33, u 34, u 35, u 36, u 37, u 38, u 39], defers := [] }) ?assign ?body ?done ?stop
      case assign =>
        intro l x X K hK
        gi_wp2
        exact hK
      case body =>
        rintro l pre x X hJ hlt
        have HJ := Lib.hid hJ
        obtain ⟨hX0, b8, hBX⟩ := hJ
        have hIX := HI3.out.keep hBX
        have hGX := HG.out.keep hIX.2.2.2.2.2.1
        obtain ⟨y, hy⟩ : ∃ y, S[x.1]? = some y := ⟨_, List.getElem?_eq_getElem x.2⟩
        have hyD : S.getD x.1 0 = y := by rw [List.getD_eq_getElem?_getD, hy]; rfl
        have HSN : Hid (stepG S ((pre ++ [x]).map Fin.val) = stepG S (pre.map Fin.val) ||| y) := Lib.hid (by rw [List.map_append, List.map_cons, List.map_nil, stepG_snoc, hyD])
        obtain ⟨_, c1, _, c3⟩ := hGX.cells
        obtain ⟨y0, y1, y2, y3, y4, y5, y6, y7, y8⟩ := row_cells hGX.2.1 hy
        have cb := hIX.1.cell
        obtain ⟨z0, z1, z2, z3, z4, z5, z6, z7⟩ := b8.eight
        have zl := b8.lt
        have j0 : (x.1 : Int) < (S.length : Int) := by have := x.2; omega
        have hlX := hBX.size
        have HBX := Lib.hid hBX
        have HB8 := Lib.hid b8
        clear b8 hBX hIX hGX hy hyD
        generalize stepG S (pre.map Fin.val) = A0 at *
        generalize x.1 = xn at *
        gi_wp2_with fail
        refine Lx.regionIn (C := fun _ => True) (hs := []) (by kernel_rfl) (by kernel_rfl) (by kernel_rfl) trivial ?_
        repeat' (first
          | (refine Lx.lex_no (Lx.n1 rfl rfl rfl (by with_reducible rfl)) (fun K hK => ?_); go_simp; skip; refine hK _ ?_; clear hK K)
          | (refine Lx.lex_no (Lx.n0 rfl rfl rfl (by with_reducible rfl)) (fun K hK => ?_); go_simp; skip; refine hK _ ?_; clear hK K)
          | (refine Lx.lex_no (Lx.n2 rfl rfl rfl) (fun K hK => ?_); go_simp; skip; refine hK _ ?_; clear hK K)
          | (refine Lx.lex_pure (v := ?_) rfl (by first | exact Lx.w0 rfl | exact Lx.w1 rfl rfl rfl (by with_reducible rfl)) ?_ (fun K hK => ?_); rotate_left 1; (intro w' hCw; (try dsimp only at hCw); go_simp; first | done | with_reducible rfl); go_simp; skip; refine hK _ ?_; clear hK K)
          | (refine Lx.lex_read (v := ?_) rfl (by first | exact Lx.w0 rfl | exact Lx.w1 rfl rfl rfl (by with_reducible rfl)) ?_ (fun K hK => ?_); rotate_left 1; (go_simp; first | done | with_reducible rfl); go_simp; skip; refine hK _ ?_; clear hK K)
          | (refine Lx.lex_eff rfl (by first | exact Lx.w0 rfl | exact Lx.w1 rfl rfl rfl (by with_reducible rfl)) (fun K hK => ?_); go_simp; (first | (go_at_call 58; refine (HU.out _ _ _).mono ?_; rintro e W5 ⟨rfl, hb5⟩; have b85 := (show Blk X.drew W3.heap.size 40 (tabL 8 (sC A0)) from HB8.out).keep hb5; obtain ⟨x0, x1, x2, x3, x4, x5, x6, x7⟩ := b85.eight; have xl := b85.lt; have xf : ∀ o, W5.frozen? ⟨W3.heap.size, o, none⟩ = false := b85.frozen; have HB5 := Lib.hid hb5; have B85 := Lib.hid b85; clear hb5 b85) | skip); refine hK _ _ (trivial) ?_; clear hK K))
        all_goals (refine Lx.lex_nil ?_)
        gi_wp2_with fail
        have hX5 : Below X.heap.size X W5 := (Below.refl _ X).drew.trans HB5.out
        change KeepsFrom WE.heap.size X (set8 W5 W3.heap.size (A0 ||| y)) ∧ Keep1 W3.heap.size V8.heap.size X (set8 W5 W3.heap.size (A0 ||| y)) ∧ ReJ W3 S S.length WE.heap.size (pre ++ [x]) (set8 W5 W3.heap.size (A0 ||| y))
        refine ⟨((⟨hX5.size, fun k o hk _ => (hX5.block k (Array.getElem?_eq_some_iff.1 hk).1).trans hk⟩ : KeepsOthers X W5).trans (keeps_set8 _ _ _)).from _, ⟨below_set8 _ (hX5.mono hlX) (Nat.le_refl _), (set8_other (by omega)).trans (hX5.block _ (by omega))⟩, ?_, ?_, below_set8 _ (HBX.out.trans (hX5.mono hlX)) (Nat.le_refl _)⟩
        · exact Nat.le_trans hX0 (Nat.le_trans hX5.size (keeps_set8 _ _ _).size)
        · rw [HSN.out]; exact B85.out.set8 _
      case done =>
        rintro D ys X hD hys hJ hK
        obtain ⟨hX0, b8, hBX⟩ := hJ
        have hys' : ys.map Fin.val = mem T := hys
        rw [hys'] at b8
        have hIX : ReInv w gb W1.heap.size F T g7 (D :: ds) X := by
          have h1 := HI3.out
          refine (h1.keep hBX).mark hK ?_ (fun E hE => ?_)
          · have := h1.2.2.1.lt; omega
          · have := (Array.getElem?_eq_some_iff.1 (h1.2.2.2.2.2.2.1 E hE).2).1; omega
        have HIX := Lib.hid hIX
        obtain ⟨n, hN⟩ : ∃ n, n = mi (stepG S (mem T)) F := ⟨_, rfl⟩
        have HRN := rinv_next HF.out HR.out
        have HKN := rk_next HMM.out (stepG_fit HF.out (mem T)) HR.out.1 HT0.out
        rw [← hN] at HRN HKN
        have HMN := HM.out (stepG S (mem T)) F
        rw [← hN] at HMN
        have HMN := Lib.hid HMN
        have HRN := Lib.hid HRN
        have HKN := Lib.hid HKN
        generalize stepG S (mem T) = A0 at *
        clear hN hys hys' hK hJ0 hSE hBE hTin
        obtain ⟨z0, z1, z2, z3, z4, z5, z6, z7⟩ := b8.eight
        obtain ⟨f0, f1, f2, f3, f4, f5, f6, f7⟩ := hIX.2.2.1.eight
        clear b8 hBX hIX
        gi_wp2_with fail
        refine ⟨trivial, (callsIn_wide.2 (HMN.out _)).mono ?_⟩
        rintro e W5 ⟨rfl, hb5⟩
        have hI5 := HIX.out.keep hb5
        have HI5 := Lib.hid hI5
        clear z0 z1 z2 z3 z4 z5 z6 z7 f0 f1 f2 f3 f4 f5 f6 f7 hb5
        obtain ⟨z0, z1, z2, z3, z4, z5, z6, z7⟩ := hI5.2.2.2.1.eight
        have zl := hI5.2.2.2.1.lt
        have zf : ∀ o, W5.frozen? ⟨g7, o, none⟩ = false := hI5.2.2.2.1.frozen
        clear hI5
        gi_upto_region 9 with fail
        obtain ⟨V5, hV5⟩ : ∃ V5, V5 = set8 W5 g7 n := ⟨_, rfl⟩
        have hI6 : ReInv w gb W1.heap.size F n g7 (D :: ds) V5 := by rw [hV5]; exact HI5.out.setT n
        unfold set8 at hV5
        rw [← hV5]
        have HI6 := Lib.hid hI6
        clear hV5 zl zf z0 z1 z2 z3 z4 z5 z6 z7 HI5
        obtain ⟨z0, z1, z2, z3, z4, z5, z6, z7⟩ := hI6.2.2.2.1.eight
        obtain ⟨f0, f1, f2, f3, f4, f5, f6, f7⟩ := hI6.2.2.1.eight
        clear hI6
        gi_wp2_with fail
        refine ⟨trivial, (callsIn_wide.2 (HU.out F n _)).mono ?_⟩
        rintro e W6 ⟨rfl, hb6⟩
        have hI7 := HI6.out.keep hb6
        have HI7 := Lib.hid hI7
        clear z0 z1 z2 z3 z4 z5 z6 z7 f0 f1 f2 f3 f4 f5 f6 f7 hb6
        obtain ⟨z0, z1, z2, z3, z4, z5, z6, z7⟩ := hI7.2.2.1.eight
        have zl := hI7.2.2.1.lt
        have zf : ∀ o, W6.frozen? ⟨W1.heap.size, o, none⟩ = false := hI7.2.2.1.frozen
        clear hI7
        gi_upto_region 10 with fail
        obtain ⟨V6, hV6⟩ : ∃ V6, V6 = set8 W6 W1.heap.size (F ||| n) := ⟨_, rfl⟩
        have hI8 : ReInv w gb W1.heap.size (F ||| n) n g7 (D :: ds) V6 := by rw [hV6]; exact HI7.out.setF (F ||| n)
        unfold set8 at hV6
        rw [← hV6]
        have HI8 := Lib.hid hI8
        clear hV6 zl zf z0 z1 z2 z3 z4 z5 z6 z7 HI7
        obtain ⟨z0, z1, z2, z3, z4, z5, z6, z7⟩ := hI8.2.2.2.1.eight
        clear hI8
        gi_wp2_with fail
        exact ⟨_, HKN.out, F ||| n, n, V6.heap.size, D :: ds, rfl, HRN.out, reFrame_mk _ _ _ _ (D :: ds) _ _ _ _ _ _ _ _ _ _ _ _ _ _ _ _ _ _ _ _ _ _ _ _ _ _ _ _ _ _ _ _ _ _ _ _, HI8.out.newT⟩
      case stop =>
        rintro D c pre X _ _ h _
        exact h.elim
end Go.Proofs.YtpaakgngoocjeaaDoor

namespace Go.Proofs.YtpaakgngoocjeaaDoor
open Go.RowKit

theorem greachable_out {gb rb cap : Nat} {ext : List Value} {S : List Nat} {arcs : Int} (v : Int) (w : World) (h : GAt w gb rb cap ext S arcs) (hv : ¬ (0 ≤ v ∧ v < (S.length : Int))) : Calls Tryd.prog 20 #[.pointer (some ⟨gb, 0, none⟩), .int .i64 v] w (RetPost (.tuple #[sV 0, .int .i64 2]) w.heap.size w) := by
  obtain ⟨W0, hW0⟩ : ∃ W0, W0 = w.alloc (.cells (sL 0).toArray 40) := ⟨_, rfl⟩
  have hB0 : Below w.heap.size w W0 := by rw [hW0]; exact (Below.refl _ w).alloc (Nat.le_refl _) _
  have hS : Blk W0 w.heap.size 40 (tabL 8 (sC 0)) := by rw [hW0, ← sL_tab]; exact blk_new w _ _
  have h0 := h.keep hB0
  have HV := Lib.hid (gvalid_any W0 h0)
  have HH := ghas_any v W0 h0
  rw [decide_eq_false hv] at HH
  have HH := Lib.hid HH
  obtain ⟨z0, z1, z2, z3, z4, z5, z6, z7⟩ := hS.eight
  have zl := hS.lt
  have zf : ∀ o, W0.frozen? ⟨w.heap.size, o, none⟩ = false := hS.frozen
  have HS := Lib.hid hS
  have HB := Lib.hid hB0
  clear h h0 hB0 hS hv
  rw [sL_zero] at hW0
  go_enter Tryd.func20, Tryd.ntmps20
  go_upto_region 1 with fail
  rw [← hW0]
  clear hW0
  go_wp2_with fail
  refine HV.out.mono ?_
  rintro e w1 ⟨rfl, rfl⟩
  go_wp2_with fail
  refine HH.out.mono ?_
  rintro e w1 ⟨rfl, rfl⟩
  go_wp2_with fail
  have b := HS.out.set8 0
  rw [set8_zero] at b
  have HB2 := below_set8 0 HB.out (Nat.le_refl w.heap.size)
  rw [set8_zero] at HB2
  change bodyPost _ _ _ _ _ (zero8 W0 w.heap.size)
  generalize zero8 W0 w.heap.size = V2 at *
  obtain ⟨x0, x1, x2, x3, x4, x5, x6, x7⟩ := b.eight
  refine bodyPost_ret (v := .tuple #[sV 0, .int .i64 2]) (by simp [results, Tryd.results20, go_sem, sV, x0, x1, x2, x3, x4, x5, x6, x7]) rfl ⟨rfl, HB2⟩
theorem greachable_no (p : Value) (v : Int) (w : World) (h : NoG w p) : Calls Tryd.prog 20 #[p, .int .i64 v] w (RetPost (.tuple #[sV 0, .int .i64 1]) w.heap.size w) := by
  obtain ⟨W0, hW0⟩ : ∃ W0, W0 = w.alloc (.cells (sL 0).toArray 40) := ⟨_, rfl⟩
  have hB0 : Below w.heap.size w W0 := by rw [hW0]; exact (Below.refl _ w).alloc (Nat.le_refl _) _
  have hS : Blk W0 w.heap.size 40 (tabL 8 (sC 0)) := by rw [hW0, ← sL_tab]; exact blk_new w _ _
  have HV := Lib.hid (gvalid_no p W0 (h.keep hB0))
  obtain ⟨z0, z1, z2, z3, z4, z5, z6, z7⟩ := hS.eight
  have zl := hS.lt
  have zf : ∀ o, W0.frozen? ⟨w.heap.size, o, none⟩ = false := hS.frozen
  have HS := Lib.hid hS
  have HB := Lib.hid hB0
  clear h hB0 hS
  rw [sL_zero] at hW0
  go_enter Tryd.func20, Tryd.ntmps20
  go_upto_region 1 with fail
  rw [← hW0]
  clear hW0
  go_wp2_with fail
  refine HV.out.mono ?_
  rintro e w1 ⟨rfl, rfl⟩
  go_wp2_with fail
  have b := HS.out.set8 0
  rw [set8_zero] at b
  have HB2 := below_set8 0 HB.out (Nat.le_refl w.heap.size)
  rw [set8_zero] at HB2
  change bodyPost _ _ _ _ _ (zero8 W0 w.heap.size)
  generalize zero8 W0 w.heap.size = V2 at *
  obtain ⟨x0, x1, x2, x3, x4, x5, x6, x7⟩ := b.eight
  refine bodyPost_ret (v := .tuple #[sV 0, .int .i64 1]) (by simp [results, Tryd.results20, go_sem, sV, x0, x1, x2, x3, x4, x5, x6, x7]) rfl ⟨rfl, HB2⟩


theorem greachable_any {gb rb cap : Nat} {ext : List Value} {S : List Nat} {arcs : Int} (v : Nat) (w : World) (hT : Tab w) (h : GAt w gb rb cap ext S arcs) (hI : InG S) (hv : v < S.length) : Calls Tryd.prog 20 #[.pointer (some ⟨gb, 0, none⟩), .int .i64 v] w (RetPost (.tuple #[sV (reachM S v), .int .i64 0]) w.heap.size w) := by
  obtain ⟨W0, hW0⟩ : ∃ W0, W0 = w.alloc (.cells (sL 0).toArray 40) := ⟨_, rfl⟩
  have hB0 : Below w.heap.size w W0 := by rw [hW0]; exact (Below.refl _ w).alloc (Nat.le_refl _) _
  have hS : Blk W0 w.heap.size 40 (tabL 8 (sC 0)) := by rw [hW0, ← sL_tab]; exact blk_new w _ _
  have h0 := h.keep hB0
  have HV := Lib.hid (gvalid_any W0 h0)
  have HH := ghas_any (v : Int) W0 h0
  rw [decide_eq_true (by omega)] at HH
  have HH := Lib.hid HH
  have HRE := Lib.hid (greach_any v W0 (hT.keep hB0) h0 hI hv)
  have HS := Lib.hid hS
  have HB := Lib.hid hB0
  clear h h0 hB0 hS hT hI hv
  rw [sL_zero] at hW0
  unfold sV at HRE
  generalize reachM S v = x at *
  go_enter Tryd.func20, Tryd.ntmps20
  go_upto_region 1 with fail
  rw [← hW0]
  clear hW0
  go_wp2_with fail
  refine HV.out.mono ?_
  rintro e w1 ⟨rfl, rfl⟩
  go_wp2_with fail
  refine HH.out.mono ?_
  rintro e w1 ⟨rfl, rfl⟩
  go_wp2_with fail
  refine HRE.out.mono ?_
  rintro e W1 ⟨rfl, hb1⟩
  have hS1 := HS.out.keep hb1
  have HB1 := Lib.hid (HB.out.trans (hb1.mono HB.out.size))
  obtain ⟨z0, z1, z2, z3, z4, z5, z6, z7⟩ := hS1.eight
  have zl := hS1.lt
  have zf : ∀ o, W1.frozen? ⟨w.heap.size, o, none⟩ = false := hS1.frozen
  have HS1 := Lib.hid hS1
  clear hb1 hS1
  go_wp2_with fail
  have b := HS1.out.set8 x
  have HB2 := below_set8 x HB1.out (Nat.le_refl w.heap.size)
  change bodyPost _ _ _ _ _ (set8 W1 w.heap.size x)
  generalize set8 W1 w.heap.size x = V2 at *
  obtain ⟨x0, x1, x2, x3, x4, x5, x6, x7⟩ := b.eight
  refine bodyPost_ret (v := .tuple #[sV x, .int .i64 0]) (by simp [results, Tryd.results20, go_sem, sV, x0, x1, x2, x3, x4, x5, x6, x7]) rfl ⟨rfl, HB2⟩

/-- for each vertex the vertices that can be reached from it -/
noncomputable def reachesM (S : List Nat) : List Nat := (List.range S.length).map (reachM S)
theorem reachesM_len (S : List Nat) : (reachesM S).length = S.length := by simp [reachesM]

set_option maxHeartbeats 2000000 in
theorem greaches_any {gb rb cap : Nat} {ext : List Value} {S : List Nat} {arcs : Int} (w : World) (hT : Tab w) (h : GAt w gb rb cap ext S arcs) (hI : InG S) : Calls Tryd.prog 57 #[.pointer (some ⟨gb, 0, none⟩)] w fun e w' =>
    e = .returned (.slice (some ⟨w.heap.size, 0, none⟩) S.length S.length) ∧ Blk w' w.heap.size 40 (rowC (reachesM S) ++ []) ∧ Below w.heap.size w w' := by
  have HL := Lib.hid (glen_any w h)
  have HRE : Hid (∀ (v : Nat) W, Below w.heap.size w W → v < S.length → Calls Tryd.prog 44 #[.pointer (some ⟨gb, 0, none⟩), .int .i64 v] W (RetPost (sV (reachM S v)) W.heap.size W)) := Lib.hid (fun v W hb hv => greach_any v W (hT.keep hb) (h.keep hb) hI hv)
  have hm : S.length ≤ 512 := h.2.2.2
  have HRM := Eqn.mk (show reachesM S = (List.range S.length).map (reachM S) from rfl)
  obtain ⟨i0, hi, hz0, hz1, hz2⟩ := info_parts set_info
  unfold sV at HRE
  clear h hT hI
  generalize reachesM S = RM at *
  generalize reachM S = R at *
  generalize S.length = n at *
  go_enter Tryd.func57, Tryd.ntmps57
  go_wp2_with fail
  refine HL.out.mono ?_
  rintro e w1 ⟨rfl, rfl⟩
  go_wp2_with (at_make; refine wpList_make_full _ rfl _ _ 65 rfl w.heap.size 40 i0 (.agg #[.int .u64 0, .int .u64 0, .int .u64 0, .int .u64 0, .int .u64 0, .int .u64 0, .int .u64 0, .int .u64 0]) 8 Tryd.underlying65 hi hz0 hz1 .i64 .i64 _ _ n rfl rfl rfl rfl (by rw [hz2]; omega) (by unfold maxLen; omega) (Nat.le_refl _) ?_; intro w2 hown hgrow; rw [made_sets] at hown; have HO := Lib.hid (And.intro hown ((Below.refl w.heap.size w).grown hgrow (Nat.le_refl _) (fun g hg => by cases hg))); clear hown hgrow)
  go_loopw [10] (fun i wr => ∃ k : Nat, k ≤ n ∧ i = .int .i64 k ∧ (∃ L : List Nat, L.length = n ∧ (∀ j, j < k → L[j]? = some (R j)) ∧ Blk wr w.heap.size 40 (rowC L ++ [])) ∧ Below w.heap.size w wr) (fun i _ => n - (intOf i).toNat)
  case atStart => exact ⟨0, Nat.zero_le _, rfl, ⟨List.replicate n 0, by simp, fun j hj => by omega, by rw [List.append_nil]; exact (blk_of_own HO.out.1).1⟩, HO.out.2⟩
  case round =>
    clear HO
    obtain ⟨k, hk, rfl, ⟨L, hLl, hLv, hb⟩, hB⟩ := hrel
    have HLL := Lib.hid (And.intro hLl hLv)
    have HB := Lib.hid hB
    have HBL := Lib.hid hb
    by_cases hlt : k < n
    · have j0 : (k : Int) < (n : Int) := by omega
      obtain ⟨x, hx⟩ : ∃ x, L[k]? = some x := ⟨_, List.getElem?_eq_getElem (by omega)⟩
      have HX := Lib.hid hx
      have HC := Lib.hid (HRE.out k wr hB hlt)
      clear hLl hLv hb hB hx
      generalize hRk : R k = y at *
      have HRK := Eqn.mk hRk
      clear hRk
      go_wp2_with fail
      refine HC.out.mono ?_
      rintro e W2 ⟨rfl, hb2⟩
      have hb2' := HBL.out.keep hb2
      have HB2 := Lib.hid (HB.out.trans (hb2.mono HB.out.size))
      obtain ⟨z0, z1, z2, z3, z4, z5, z6, z7, z8⟩ := row_cells hb2' HX.out
      have zf : ∀ o, W2.frozen? ⟨w.heap.size, o, none⟩ = false := hb2'.frozen
      have HBL2 := Lib.hid hb2'
      clear hb2 hb2'
      go_upto_region 6 with fail
      obtain ⟨V3, hV3⟩ : ∃ V3, V3 = setAt W2 w.heap.size (k * 8) y := ⟨_, rfl⟩
      have hb3 : Blk V3 w.heap.size 40 (rowC (L.set k y) ++ []) := by rw [hV3]; exact HBL2.out.setRow HX.out
      have hB3 : Below w.heap.size w V3 := by rw [hV3]; exact HB2.out.grown (grown_setAt _ _ _ _) HB2.out.size (fun g hg => by cases hg; exact Nat.le_refl _)
      have HB3 := Lib.hid (And.intro hb3 hB3)
      unfold setAt at hV3
      rw [← hV3]
      clear hV3 hb3 hB3 z0 z1 z2 z3 z4 z5 z6 z7 z8 zf
      go_wp2_with fail
      go_roundw
      case rel =>
        refine ⟨k + 1, hlt, by go_num, ⟨L.set k y, by rw [List.length_set]; exact HLL.out.1, fun j hj => ?_, HB3.out.1⟩, HB3.out.2⟩
        rw [List.getElem?_set]
        by_cases hjk : k = j
        · subst hjk
          rw [if_pos rfl, if_pos (by have := HLL.out.1; omega), ← HRK.out]
        · rw [if_neg hjk]; exact HLL.out.2 j (by omega)
      case measure => simp [intOf]; omega
    · obtain rfl : k = n := by omega
      clear hLl hLv hb hB
      go_wp2_with fail
      go_ret
      refine ⟨rfl, ?_, HB.out⟩
      have hE : L = RM := by
        rw [HRM.out]
        apply List.ext_getElem?
        intro j
        by_cases hj : j < k
        · rw [HLL.out.2 j hj, List.getElem?_map, List.getElem?_range hj]; rfl
        · rw [List.getElem?_eq_none (by have := HLL.out.1; omega), List.getElem?_eq_none (by simp; omega)]
      rw [← hE]
      exact HBL.out
end Go.Proofs.YtpaakgngoocjeaaDoor
