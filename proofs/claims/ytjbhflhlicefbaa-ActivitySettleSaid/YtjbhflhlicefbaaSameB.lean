/- Contracts of the reference's SameBidders and Same at equal bidders. -/
import Derived.Test.YtjbhflhlicefbaaSame
import Derived.Test.YtjbhflhlicefbaaActE
namespace Go.Proofs.Ytjbhflhlicefbaa
open Go.RowKit

set_option maxRecDepth 100000 in
set_option maxHeartbeats 1000000 in
theorem sameB_one (A B : Option Addr) (c d : Nat) (w : World) (i e v : Int) (bl : List Int) (ax ay : Option Addr) (nx cx ny cy : Nat) (hx1 : nx ≤ 1000) (D : Nat) (ha : BidsAt w D A 1 [⟨i, e, v, ax, nx, cx, bl⟩]) (hb : BidsAt w D B 1 [⟨i, e, v, ay, ny, cy, bl⟩]) :
    Calls Try.prog 36 #[.slice A 1 c, .slice B 1 d] w (OrdPost true D w) := by
  have HA := Lib.hid ha
  have HB := Lib.hid hb
  clear ha hb
  have t1 : (i != i) = false := by simp
  have t2 : (e != e) = false := by simp
  have t3 : (v != v) = false := by simp
  have HS : Eqn (sameF bl bl) true := (sameF_iff bl bl).2 rfl
  go_enter Try.func36, Try.ntmps36
  go_wp2_with fail
  go_loopw [5] (fun k wr => (k = .int .i64 0 ∨ k = .int .i64 1) ∧ Below D w wr) (fun i _ => 1 - (intOf i).toNat)
  case atStart => exact ⟨.inl rfl, Below.refl _ _⟩
  case round =>
    obtain ⟨rfl | rfl, HW⟩ := hrel
    · have HWW := Lib.hid HW
      obtain ⟨⟨_, hrow⟩, hbl⟩ := HA.out.below HW
      obtain ⟨⟨_, hrow'⟩, hbl'⟩ := HB.out.below HW
      obtain ⟨b, off, rfl, hlt, hc⟩ := hrow (by omega)
      obtain ⟨b', off', rfl, hlt', hc'⟩ := hrow' (by omega)
      have c0 := hc 0 _ rfl 0 (by omega)
      have c1 := hc 0 _ rfl 1 (by omega)
      have c2 := hc 0 _ rfl 2 (by omega)
      have c3 := hc 0 _ rfl 3 (by omega)
      have d0 := hc' 0 _ rfl 0 (by omega)
      have d1 := hc' 0 _ rfl 1 (by omega)
      have d2 := hc' 0 _ rfl 2 (by omega)
      have d3 := hc' 0 _ rfl 3 (by omega)
      simp only [Bidr.cell, Nat.zero_mul, Nat.add_zero] at c0 c1 c2 c3 d0 d1 d2 d3
      have Hx := Lib.hid (hbl _ (List.mem_singleton.2 rfl))
      have Hy := Lib.hid (hbl' _ (List.mem_singleton.2 rfl))
      clear hrow hbl hc HW hrow' hbl' hc'
      dsimp only at Hx Hy
      go_wp2_with fail
      refine Lx.region (C := fun _ => True) (hs := []) (by kernel_rfl) (by kernel_rfl) trivial ?_
      repeat' (first
        | (refine Lx.lex_no (Lx.n1 rfl rfl rfl (by with_reducible rfl)) (fun K hK => ?_); go_simp; refine hK _ ?_; clear hK K)
        | (refine Lx.lex_no (Lx.n0 rfl rfl rfl (by with_reducible rfl)) (fun K hK => ?_); go_simp; refine hK _ ?_; clear hK K)
        | (refine Lx.lex_no (Lx.n2 rfl rfl rfl) (fun K hK => ?_); go_simp; refine hK _ ?_; clear hK K)
        | (refine Lx.lex_pure (v := ?_) rfl (by first | exact Lx.w0 rfl | exact Lx.w1 rfl rfl rfl (by with_reducible rfl)) ?_ (fun K hK => ?_); rotate_left 1; (intro w' hCw; (try dsimp only at hCw); go_simp; done); go_simp; refine hK _ ?_; clear hK K)
        | (refine Lx.lex_pure (v := ?_) rfl (by first | exact Lx.w0 rfl | exact Lx.w1 rfl rfl rfl (by with_reducible rfl)) ?_ (fun K hK => ?_); rotate_left 1; (intro w' hCw; (try dsimp only at hCw); go_simp; with_reducible rfl); go_simp; refine hK _ ?_; clear hK K)
        | (refine Lx.lex_read (v := ?_) rfl (by first | exact Lx.w0 rfl | exact Lx.w1 rfl rfl rfl (by with_reducible rfl)) ?_ (fun K hK => ?_); rotate_left 1; (go_simp; done); go_simp; refine hK _ ?_; clear hK K)
        | (refine Lx.lex_read (v := ?_) rfl (by first | exact Lx.w0 rfl | exact Lx.w1 rfl rfl rfl (by with_reducible rfl)) ?_ (fun K hK => ?_); rotate_left 1; (go_simp; with_reducible rfl); go_simp; refine hK _ ?_; clear hK K)
        | (refine Lx.lex_eff rfl (by first | exact Lx.w0 rfl | exact Lx.w1 rfl rfl rfl (by with_reducible rfl)) (fun K hK => ?_); go_simp; (first | (go_at_call 46; refine (same_any ax ay nx cx ny cy _ D bl bl hx1 (by exact Hx.out.below (Below.refl _ _).drew) (by exact Hy.out.below (Below.refl _ _).drew)).mono ?_; rw [HS.out]; rintro e2 w2 ⟨rfl, hb2⟩) | skip); refine hK _ _ (trivial) ?_; clear hK K)
        | (refine Lx.lex_cases rfl rfl rfl (fun hgd K hK => ?_) (fun hgd K hK => ?_) <;> (try simp only [decide_eq_true_eq, decide_eq_false_iff_not] at hgd) <;> (first | (exfalso; omega) | (go_simp; refine hK _ ?_; clear hK K))))
      all_goals (refine Lx.lex_nil ?_)
      go_wp2
      go_roundw
      case rel => exact ⟨.inr (by go_num), HWW.out.trans ((Below.refl _ _).drew.trans hb2)⟩
      case measure => simp [intOf]
    · have HWW := Lib.hid HW
      clear HW
      go_wp2_with fail
      go_ret
      exact ⟨rfl, HWW.out⟩

theorem same35 (w : World) (i e v : Int) (bl : List Int) (ax ay : Option Addr) (nx cx ny cy : Nat) (hx1 : nx ≤ 1000) (hx : Row1 intV w w.heap.size ax nx bl) (hy : Row1 intV w w.heap.size ay ny bl) :
    Calls Try.prog 22 #[.agg #[.int .i64 i, .int .i64 e, .int .i64 v, .slice ax nx cx], .agg #[.int .i64 i, .int .i64 e, .int .i64 v, .slice ay ny cy]] w (OrdPost true w.heap.size w) := by
  have Hx := Lib.hid hx
  have Hy := Lib.hid hy
  clear hx hy
  have hL2 : Hid (Below w.heap.size w ((w.alloc (.cells #[.int .i64 i, .int .i64 e, .int .i64 v, .slice ax nx cx] 40)).alloc (.cells #[.int .i64 i, .int .i64 e, .int .i64 v, .slice ay ny cy] 40))) := ((Below.refl _ _).alloc (Nat.le_refl _) _).alloc (by simp) _
  have hX := bidsAt_one ((w.alloc (.cells #[.int .i64 i, .int .i64 e, .int .i64 v, .slice ax nx cx] 40)).alloc (.cells #[.int .i64 i, .int .i64 e, .int .i64 v, .slice ay ny cy] 40)) ⟨i, e, v, ax, nx, cx, bl⟩ w.heap.size hL2.out.size (Hx.out.below hL2.out) 40
  have hX2 := hX.below ((Below.refl _ _).alloc (by simp) (.cells #[.int .i64 i, .int .i64 e, .int .i64 v, .slice ay ny cy] 40))
  have hL3 := hL2.out.alloc hL2.out.size (.cells #[.int .i64 i, .int .i64 e, .int .i64 v, .slice ax nx cx] 40)
  have hY := bidsAt_one (((w.alloc (.cells #[.int .i64 i, .int .i64 e, .int .i64 v, .slice ax nx cx] 40)).alloc (.cells #[.int .i64 i, .int .i64 e, .int .i64 v, .slice ay ny cy] 40)).alloc (.cells #[.int .i64 i, .int .i64 e, .int .i64 v, .slice ax nx cx] 40)) ⟨i, e, v, ay, ny, cy, bl⟩ w.heap.size hL3.size (Hy.out.below hL3) 40
  have HX := Lib.hid hX2
  have HY := Lib.hid hY
  have HL := Lib.hid (hL3.alloc hL3.size (.cells #[.int .i64 i, .int .i64 e, .int .i64 v, .slice ay ny cy] 40))
  simp only [World.size_alloc] at HX HY
  clear hX hX2 hY hL3 hL2
  go_enter Try.func22, Try.ntmps22
  go_wp2_with fail
  refine (sameB_one _ _ 1 1 _ i e v bl ax ay nx cx ny cy hx1 (w.heap.size + 1 + 1 + 1 + 1) (by exact HX.out.up (by omega)) (by exact HY.out.up (by omega))).mono ?_
  rintro e1 w1 ⟨rfl, hb1⟩
  go_wp2
  go_ret
  exact ⟨rfl, HL.out.trans (hb1.mono (by omega))⟩
end Go.Proofs.Ytjbhflhlicefbaa
