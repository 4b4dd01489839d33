/- The contract of List: the members, in increasing order. -/
import Derived.Maps.AppendAt
import Derived.Test.YtdpbbhbegehcjaaDoorNon05
set_option maxRecDepth 100000
set_option maxHeartbeats 2000000
namespace Go.Proofs.YtdpbbhbegehcjaaDoor
open Go.RowKit Go.Shelf
attribute [local go_sem] Oper.semAt_some
theorem Blk.not_row {W : World} {g t e : Nat} {s : List Value} (h : Blk W g t s) (hte : t ≠ e) {base size k : Nat} {v : Value} {xs : List Value} (hr : W.ownsRow base e size v k xs) : some g ≠ v.ownBlock := by
 rcases hr.2 with ⟨rfl, _⟩ | ⟨g', cap, cur, rfl, _, hgb, _⟩
 ·simp [Value.ownBlock]
 ·intro e'
  obtain rfl : g = g' := by simpa [Value.ownBlock] using e'
  have := (show W.heap[g]? = _ from h).symm.trans hgb
  simp at this
  exact hte this.2
theorem Blk.kept {W W' : World} {row : Option Nat} {g t : Nat} {s : List Value} (h : Blk W g t s) (hg : W.grownBy W' row) (hne : some g ≠ row) : Blk W' g t s := (hg.block g h.lt hne).trans h
theorem blk_own {β : Type} (g t : Nat) (s : List Value) : Own (fun (_ : β) W => Blk W g t s) := by
 intro _ A B row h hg hr
 refine h.kept hg ?_
 rintro rfl
 obtain ⟨o, ho, hc⟩ := hr g rfl
 have := (show A.heap[g]? = _ from h).symm.trans ho
 cases this
 simp [Obj.isCells] at hc
theorem below_of_grown {w w' : World} (h : w.grownBy w' none) : Below w.heap.size w w' := (Below.refl _ w).grown h (Nat.le_refl _) (fun k e => by cases e)
theorem Blk.eightA {w : World} {g t : Nat} {S : Nat} (h : Blk w g t (tabL 8 (sC S))) :
  (∀ o, (w.alloc o).cell? ⟨g, 0, none⟩ = some (.int .u64 (wd S 0))) ∧ (∀ o, (w.alloc o).cell? ⟨g, 1, none⟩ = some (.int .u64 (wd S 1))) ∧ (∀ o, (w.alloc o).cell? ⟨g, 2, none⟩ = some (.int .u64 (wd S 2))) ∧ (∀ o, (w.alloc o).cell? ⟨g, 3, none⟩ = some (.int .u64 (wd S 3))) ∧
  (∀ o, (w.alloc o).cell? ⟨g, 4, none⟩ = some (.int .u64 (wd S 4))) ∧ (∀ o, (w.alloc o).cell? ⟨g, 5, none⟩ = some (.int .u64 (wd S 5))) ∧ (∀ o, (w.alloc o).cell? ⟨g, 6, none⟩ = some (.int .u64 (wd S 6))) ∧ (∀ o, (w.alloc o).cell? ⟨g, 7, none⟩ = some (.int .u64 (wd S 7))) :=
 ⟨fun o => (h.alloc o).cell (tabL_at (by decide)), fun o => (h.alloc o).cell (tabL_at (by decide)), fun o => (h.alloc o).cell (tabL_at (by decide)), fun o => (h.alloc o).cell (tabL_at (by decide)), fun o => (h.alloc o).cell (tabL_at (by decide)), fun o => (h.alloc o).cell (tabL_at (by decide)), fun o => (h.alloc o).cell (tabL_at (by decide)), fun o => (h.alloc o).cell (tabL_at (by decide))⟩
theorem appendedK {W w1 : World} {n₀ B Bn tS : Nat} {t e : TypeId} {size : Nat} {v v' : Value} {k m : Nat} {xs ys s : List Value} {tmp : Obj}
  (hv : Boxed W B t v) (hS : Blk W Bn tS s) (hte : t ≠ e) (hse : tS ≠ e) (hne : B ≠ Bn) (hrow : W.ownsRow n₀ e size v k xs) (hn₀ : n₀ ≤ W.heap.size) (hB : n₀ ≤ B)
  (hown' : w1.ownsRow n₀ e size v' m ys) (hgrow : (W.alloc tmp).grownBy w1 v.ownBlock) :
  Boxed w1 B t v ∧ Boxed (w1.setCell ⟨B, 0, none⟩ v') B t v' ∧ (w1.setCell ⟨B, 0, none⟩ v').ownsRow n₀ e size v' m ys ∧ KeepsOthers W (w1.setCell ⟨B, 0, none⟩ v') ∧ Keep1 n₀ Bn W (w1.setCell ⟨B, 0, none⟩ v') ∧ Blk (w1.setCell ⟨B, 0, none⟩ v') Bn tS s := by
 obtain ⟨h1, h2, h3, h4, h5⟩ := hv.appended hte hrow hn₀ hB hown' hgrow
 have hb : Blk (w1.setCell ⟨B, 0, none⟩ v') Bn tS s := ((hS.alloc tmp).kept hgrow (hS.not_row hse hrow)).other _ _ hne
 exact ⟨h1, h2, h3, h4, ⟨h5, (show _ = _ from hb).trans (show _ = _ from hS).symm⟩, hb⟩
def memI (S : Nat) : List Int := (mem S).map fun m : Nat => (m : Int)
theorem memI_vals (l : List Nat) : (l.map fun m : Nat => (m : Int)).map intV = l.map fun m : Nat => Value.int .i64 (m : Int) := by simp [List.map_map, Function.comp_def, intV]
theorem list_any (S : Nat) (w : World) (hS : Fit S) (hT : Tab w) : Calls Tryd.prog 60 #[sV S] w (NewInts (memI S) w) := by
 obtain ⟨i0, hi, hz0, hz1, hz2⟩ := info_parts int_info
 have hml := mem_len S
 refine (callsIn_wide (n := 3)).1 ?_
 refine callsIn_of_wp_marks Tryd.func60 rfl trivial ?_ rfl
 have HC := Lib.hid (fun w' => len_any S w')
 have HA := Lib.hid (fun w' => all_any S w')
 unfold sV at HC HA ⊢
 simp only [Tryd.ntmps60, List.size_toArray, List.length_cons, List.length_nil, Nat.reduceAdd, Nat.reduceSub, Array.replicate_succ, Array.replicate_zero, List.push_toArray, List.append_toArray, List.nil_append, List.cons_append]
 gi_wp2_with fail
 have hS0 : Blk (w.alloc (.cells (sL S).toArray 36)) w.heap.size 36 (tabL 8 (sC S)) := by rw [← sL_tab]; exact blk_new w _ _
 have hb0 : Below w.heap.size w (w.alloc (.cells (sL S).toArray 36)) := (Below.refl _ w).alloc (Nat.le_refl _) _
 unfold sL at hS0 hb0
 refine ⟨trivial, (callsIn_wide.2 (HC.out _)).mono ?_⟩
 rintro e W1 ⟨rfl, hb1⟩
 have hS1 := hS0.keep hb1
 have hbb := hb0.trans (hb1.mono (by simp))
 clear hS0 hb0 hb1
 have HS1 := Lib.hid hS1
 have HB1 := Lib.hid hbb
 have hsz := hbb.size
 clear hS1 hbb
 gi_wp2_with (gi_at_make; refine wpListIn_make_own _ rfl _ _ 22 rfl w.heap.size 3 i0 (.int .i64 0) 1 Tryd.underlying22 hi hz0 hz1 .i64 .i64 ((mem S).length : Int) (mem S).length rfl rfl rfl (by rw [hz2]; omega) (by unfold maxLen; omega) hsz ?_; intro W2 hown hgr; have HS2 := Lib.hid (HS1.out.keep (below_of_grown hgr)); have HB2 := Lib.hid (HB1.out.trans ((below_of_grown hgr).mono hsz)); have HO := Lib.hid hown; obtain ⟨c0, c1, c2, c3, c4, c5, c6, c7⟩ := HS2.out.eightA; clear hown hgr HS1 HB1)
 refine ⟨trivial, (callsIn_wide.2 (HA.out _)).mono ?_⟩
 rintro e W3 ⟨rfl, hW3⟩
 gi_wp2_with fail
 rw [← hW3]
 have bO : Boxed W3 W2.heap.size 22 (.slice (some ⟨W1.heap.size, 0, none⟩) 0 (mem S).length) := by rw [hW3]; exact (Boxed.new W2 _ _).alloc _
 have hSB : Blk W3 (W2.heap.size + 1) 36 (tabL 8 (sC S)) := by rw [hW3, ← sL_tab]; have := blk_new (W2.alloc (.cells #[Value.slice (some ⟨W1.heap.size, 0, none⟩) 0 (mem S).length] 22)) (sL S) 36; rwa [World.size_alloc] at this
 have hO3 : W3.ownsRow w.heap.size 3 1 (.slice (some ⟨W1.heap.size, 0, none⟩) 0 (mem S).length) 0 [] := by rw [hW3]; exact (HO.out.alloc _).alloc _
 have hB3 : Below w.heap.size w W3 := by rw [hW3]; have := HB2.out.size; exact (HB2.out.alloc this _).alloc (by simp; omega) _
 have hsz2 := HB2.out.size
 have h3s : W3.heap.size = W2.heap.size + 2 := by rw [hW3]; simp
 have hT3 := hT.keep hB3
 have h4 : tabN ≤ w.heap.size := hT.1
 clear hW3 HO HB2 HS2 c0 c1 c2 c3 c4 c5 c6 c7 HA HC
 refine wpIn_rangeFunc_ownG rfl (by decide) (gf := 95) (lb := #[.pointer (some ⟨W2.heap.size + 1, 0, none⟩)]) rfl trivial (enters_of Tryd.func95 (by kernel_rfl) rfl)
  (all_stops 2 (by decide) (W2.heap.size + 1) w.heap.size S hS h4 W3 hSB hT3) keep1_t (keep1_b (by omega) (by omega)) (Below.refl _ _) (fun _ => rfl)
  (fun (pre : List Nat) W => (∃ v, Boxed W W2.heap.size 22 v ∧ W.ownsRow w.heap.size 3 1 v pre.length (pre.map fun m : Nat => Value.int .i64 (m : Int)) ∧ True) ∧ (Blk W (W2.heap.size + 1) 36 (tabL 8 (sC S)) ∧ Below w.heap.size w W))
  (fun _ _ _ => False)
  (OwnFrom.and (Own.from (holdsRow_own w.heap.size W2.heap.size 22 3 1 (fun pre : List Nat => pre.length) (fun pre : List Nat => pre.map fun m : Nat => Value.int .i64 (m : Int)) (fun _ _ => True)) _) (OwnFrom.and (Own.from (blk_own _ _ _) _) (ownFrom_below (Nat.le_refl _) (by omega))))
  (fun _ _ _ _ _ hs _ _ => hs)
  ⟨⟨_, bO, hO3, trivial⟩, hSB, hB3⟩
  (fun x => { tmps := #[.agg #[.int .u64 (wd S 0), .int .u64 (wd S 1), .int .u64 (wd S 2), .int .u64 (wd S 3), .int .u64 (wd S 4), .int .u64 (wd S 5), .int .u64 (wd S 6), .int .u64 (wd S 7)], .pointer (some ⟨w.heap.size, 0, none⟩), .slice none 0 0, .pointer (some ⟨W2.heap.size, 0, none⟩), .int .i64 x, .agg #[.int .u64 (wd S 0), .int .u64 (wd S 1), .int .u64 (wd S 2), .int .u64 (wd S 3), .int .u64 (wd S 4), .int .u64 (wd S 5), .int .u64 (wd S 6), .int .u64 (wd S 7)], .int .i64 (mem S).length, .slice (some ⟨W1.heap.size, 0, none⟩) 0 (mem S).length, .agg #[.int .u64 (wd S 0), .int .u64 (wd S 1), .int .u64 (wd S 2), .int .u64 (wd S 3), .int .u64 (wd S 4), .int .u64 (wd S 5), .int .u64 (wd S 6), .int .u64 (wd S 7)], .func (.func 95) #[] #[.pointer (some ⟨W2.heap.size + 1, 0, none⟩)], .int .i64 x, undef, undef, undef, undef, undef], defers := [] }) ?assign ?body ?done ?stop
 case assign =>
  intro l x W K hK
  gi_wp2
  exact hK
 case body =>
  rintro l pre x W ⟨⟨v, hv, hrow, _⟩, hSW, hB⟩ hlt
  have hc := hv.cell
  have hbs := hB.size
  gi_wp2_with (gi_at_builtin; refine wpListIn_append_own _ rfl _ _ 22 rfl w.heap.size 3 i0 (.int .i64 0) 1 8 Tryd.underlying22 hi hz0 hz1 hz2 rfl (by decide) _ _ _ rfl (hrow.alloc _) ⟨W.heap.size, 0, none⟩ 1 1 [.int .i64 x] rfl rfl (cell_one_new _ _ _) (by simp [Value.oneCell']) (by unfold maxLen; omega) (by omega) (by simp; omega) ?_; intro v' w1 hown' hgrow _; obtain ⟨g', cap', rfl⟩ := ownsRow_succ hown'; obtain ⟨hv1, hv2, hr2, hk2, hb2, hs2⟩ := appendedK hv hSW (by decide) (by decide) (by omega) hrow hbs hsz2 hown' hgrow; have hc1 := hv1.cell; have hf1 := hv1.frozen)
  exact ⟨hk2.from _, hb2, ⟨_, hv2, by simpa using hr2, trivial⟩, hs2, hB.trans hb2.1⟩
 case done =>
  rintro D ys W hD rfl ⟨⟨v, hv, hrow, _⟩, hSW, hB⟩ hK
  have hc := hv.cell
  gi_wp2
  refine ⟨by simp, .inl ⟨_, _, rfl, run_takeDeferred hK, ?_⟩⟩
  exact ⟨_, results_tmp rfl _ _ _, v, rfl, by rw [memI, memI_vals, List.length_map]; exact ownsRow_putObj hrow _ hK rfl, hB.trans (belowK_b (w := w) (Nat.le_refl _) W D _ _ (by omega) hK rfl rfl)⟩
 case stop =>
  rintro D c pre W _ _ h _
  exact h.elim
end Go.Proofs.YtdpbbhbegehcjaaDoor
